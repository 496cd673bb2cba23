/- Objects that lie whole in a cell: taken out, put back; maps of boxes seen flat beside a bag. -/
import Derived.Test.YthfocmakkeonoaaGreatDoorRCz
import Derived.Laws.BitsAllLaws
import Derived.Test.YthfocmakkeonoaaGreatDoorRVz
import Derived.Test.YthfocmakkeonoaaGreatDoorRLz
set_option linter.unusedVariables false
set_option linter.unusedSimpArgs false
set_option maxRecDepth 100000
set_option maxHeartbeats 16000000
namespace Go.Proofs.YthfocmakkeonoaaGreatDoor
open Go.RowKit
section
variable {P:Program} {ops:Array Oper} {C:Ctx} {E:Env} {σ:St} {a:Act} {w:World}
theorem Gm.cell (h:Gm C E σ a w) (o:Id) (i:Nat) (x:AV) (hx:∀ n,σ (.o o)=.num n→i<n→∃ v,w.cell? ⟨E.loc o,i,none⟩=some v∧RdA E σ x v):Gm C E (put σ (.c o i) (.av x)) a w:=by
 have hmo:Mo E σ E (put σ (.c o i) (.av x)):=Mo.same (fun o=>Qag _ _ (by simp)) (fun o=>Qag _ _ (by simp)) (fun o=>Qag _ _ (by simp)) (fun o=>Qag _ _ (by simp))
 have hO:∀ o',put σ (.c o i) (.av x) (.o o')=σ (.o o'):=fun o'=>Qag _ _ (by simp)
 have hK:∀ o',put σ (.c o i) (.av x) (.k o')=σ (.k o'):=fun o'=>Qag _ _ (by simp)
 have hS:∀ o',put σ (.c o i) (.av x) (.s o')=σ (.s o'):=fun o'=>Qag _ _ (by simp)
 refine ⟨h.sz,h.df,h.ms,h.fr,fun t y hy=>(h.sl t y (by rw [←hS];exact hy)).mo hmo,fun o' j y n' h1 h2 h3=>?_,fun o' n' h1=>h.ob o' n' (by rw [←hO];exact h1),fun k e s T h1=>h.ro k e s T (by rw [←hK];exact h1),
  fun o1 o2 n n' h1 h2=>h.oo o1 o2 n n' (by rw [←hO];exact h1) (by rw [←hO];exact h2),fun k k' e s T e' s' T' b h1 h2=>h.rr k k' e s T e' s' T' b (by rw [←hK];exact h1) (by rw [←hK];exact h2),
  fun o n k e s T h1 h2=>h.or o n k e s T (by rw [←hO];exact h1) (by rw [←hK];exact h2),h.pi,h.ml,h.mx,
  h.tr.beside hmo (fun o=>Qag _ _ (by simp)) (fun o=>Qag _ _ (by simp)) hO hK (fun _ _ _ _ _ _=>rfl) (fun _ _ _ _ _ _=>rfl)⟩
 rw [hO] at h2
 by_cases e:Pl.c o' j=Pl.c o i
 ·injection e with e1 e2
  subst e1 e2
  rw [QaZ] at h1
  cases h1
  obtain ⟨v,hv,hr⟩:=hx n' h2 h3
  exact ⟨v,hv,hr.mo hmo⟩
 ·rw [Qag _ _ e] at h1
  obtain ⟨v,hv,hr⟩:=h.ce o' j y n' h1 h2 h3
  exact ⟨v,hv,hr.mo hmo⟩
def QlL (ls:List (Id × Nat)) (x:AV):List (Pl × X):=ls.map fun l=>(.c l.1 l.2,.av x)
theorem Gm.cellsTell (x:AV):∀ (ls:List (Id × Nat)) (σ:St),Gm C E σ a w→(∀ s:St,(∀ l,(∀ o i,l≠.c o i)→s l=σ l)→∀ l∈ls,∃ v,w.cell? ⟨E.loc l.1,l.2,none⟩=some v∧RdA E s x v)→Gm C E (Qaf σ (QlL ls x)) a w
 | [],σ,hg,_=>hg
 | l::ls,σ,hg,hx=>by
  have h1:=hg.cell l.1 l.2 x fun _ _ _=>hx σ (fun _ _=>rfl) l (List.mem_cons_self ..)
  exact Gm.cellsTell x ls _ h1 fun s hs u hu=>hx s (fun p hp=>by rw [hs p hp,Qag _ _ (hp l.1 l.2)]) u (List.mem_cons_of_mem _ hu)
theorem QgE (x:AV):∀ (ls:List (Id × Nat)) (σ:St) {l:Pl},(∀ o i,l≠.c o i)→Qaf σ (QlL ls x) l=σ l
 | [],_,_,_=>rfl
 | t::ls,σ,l,h=>(QgE x ls (put σ (.c t.1 t.2) (.av x)) h).trans (Qag _ _ (h t.1 t.2))
def QcU (σ:St) (x:AV):List (Id × Nat)→Prop
 | []=>True
 | l::ls=>σ (.c l.1 l.2)=.av x∧l.2<Qsa (σ (.o l.1))∧QcU σ x ls
theorem QdH {x:AV} (hg:Gm C E σ a w):∀ {ls:List (Id × Nat)},QcU σ x ls→∀ l∈ls,∃ v,w.cell? ⟨E.loc l.1,l.2,none⟩=some v∧RdA E σ x v
 | [],_,_,h=>by cases h
 | l::ls,h,u,hu=>by
  rcases List.mem_cons.1 hu with rfl | hu
  ·cases hn:σ (.o u.1) with
   | num n=>
    have h2:=h.2.1
    rw [hn] at h2
    exact hg.ce u.1 u.2 x n h.1 hn h2
   | _=>have h2:=h.2.1;rw [hn] at h2;exact absurd h2 (Nat.not_lt_zero _)
  ·exact QdH hg h.2.2 u hu
def QDA (σ:St) (k o:Id) (ys:List T) (ls:List (Id × Nat)) (ts:List Nat):List (Pl × X):=
 Qg6 k++(QaT (Qaf σ (Qg6 k)) [] o (gg σ o+1) (ys.map Qb5)++(QlL ls (.ptr o (gg σ o+1) 0)++QdR ts (.ptr o (gg σ o+1) 0)))
theorem QxT (o:Id):∀ (cs:List CA) (j:Nat),∀ k∈QbE o j cs,k.2≠0:=fun cs=>by
 induction cs with
 | nil=>intro j k hk;cases hk
 | cons c cs ih=>
  intro j k hk
  simp only [QbE] at hk
  split at hk
  ·rcases List.mem_cons.1 hk with rfl | hk
   ·exact QnV o j
   ·exact ih _ k hk
  ·exact ih _ k hk
theorem Gm.unbox (hg:Gm C E σ a w) {k o:Id} {ys:List T} {ls:List (Id × Nat)} {ts:List Nat} (h1:σ (.r k)=.tree (.box ys)) (ho:o.2=0∧C.pins o=none) (hls:QcU σ (.ptr k (gg σ k) 0) ls) (hl0:∀ l∈ls,l.1.2=0∧l.1≠o) (hts:QcJ σ (.ptr k (gg σ k) 0) C.nt ts) :
  ∃ E',Gm C E' (Qaf σ (QDA σ k o ys ls ts)) a w:=by
 obtain ⟨hh,_⟩:=hg.tr.hg k _ h1
 obtain ⟨hbv,hk2⟩:=hg.tr.bx k ys h1
 obtain ⟨g1,m1,l1⟩:=hg.let_go k
 obtain ⟨b,us,ty,Fy,y0,y1,y2,y3,y4,y5⟩:=QmZ hh
 have hb:b=E.loc k:=by rw [hbv] at y0;injection y0 with e;injection e with e;injection e with e;exact e.symm
 subst hb
 obtain ⟨Fz,z1,z2⟩:=QgB (bs:=[]) y3
 have hgo:gg (Qaf σ (Qg6 k)) o=gg σ o:=Qaz (by simp [Qg6,Qaf,put])
 obtain ⟨E2,g2,m2,f1,f2,f3,f4,f5,f6⟩:=Qet g1 [] [] (fun ob o' b h=>by simp at h) o (gg σ o+1) (E.loc k) (.inr ⟨by rw [hgo];omega,ho.2,ho.1⟩) ty (ys.map Qb5) us Fz (fun k' hk'=>⟨by simp,fun e=>QxT _ _ _ _ hk' (e ▸ ho.1)⟩) y1 y2 z1 (fun h=>y4 ((z2 _).1 h)) (fun c hc=>by
  have hin:c∈E.bf k:=(y5 c).2 (by
   rcases List.mem_cons.1 hc with h | h
   ·exact .inl h
   ·exact .inr ((z2 c).1 h))
  refine ⟨hg.tr.dd k _ c h1 hin,fun ⟨t,ht⟩=>?_⟩
  obtain ⟨q1,q2⟩:=l1 t c ht
  exact q2 (hg.ho_inj q1 (t':=.r k) ⟨_,h1,hin⟩))
 refine ⟨E2,?_⟩
 unfold QDA
 rw [Qal,Qal,Qal]
 generalize Qaf (Qaf σ (Qg6 k)) (QaT (Qaf σ (Qg6 k)) [] o (gg σ o+1) (ys.map Qb5))=s0 at g2 f2 f4 f6 ⊢
 have hcells:=QdH hg hls
 have hkey:∀ s:St,s (.g o)=s0 (.g o)→gg s o=gg σ o+1:=fun s hs=>by rw [←f4];exact Qaz hs
 have g3:=Gm.cellsTell (.ptr o (gg σ o+1) 0) ls s0 g2 fun s hs l hl=>by
  obtain ⟨v,hv,hr⟩:=hcells l hl
  obtain ⟨e1,e2⟩:=hl0 l hl
  have hv2:=hr.2 rfl
  refine ⟨v,?_,Nat.le_of_eq (hkey s (hs _ (by simp))).symm,fun _=>by rw [f3];exact hv2⟩
  rw [(f2 l.1 (fun h=>QxT _ _ _ _ h e1) e2).1]
  exact hv
 have hsl:=QbS hts
 refine Gm.slots (.ptr o (gg σ o+1) 0) ts _ g3 (fun t ht=>(hsl t ht).2) fun s hs t ht=>?_
 have hv2:=(hg.sl t _ (hsl t ht).1).2 rfl
 exact ⟨Nat.le_of_eq (hkey s ((hs _ (by simp)).trans (QgE _ _ _ (by simp)))).symm,fun _=>by rw [f3];exact hv2⟩
def QDB (σ:St) (k o:Id) (ys:List T) (ls:List (Id × Nat)) (ts:List Nat):List (Pl × X):=
 Qa0 σ (Qam σ [o] [ys.map Qb5])++(QaA σ k (.box ys)++(QlL ls (.ptr k (gg σ k+1) 0)++QdR ts (.ptr k (gg σ k+1) 0)))
theorem Gm.rebox (hg:Gm C E σ a w) {k o:Id} {ys:List T} {ls:List (Id × Nat)} {ts:List Nat} (hm:Qdq σ [o] [o] [ys.map Qb5]) (hn:(Qam σ [o] [ys.map Qb5]).Nodup) (hk:k.2≠0) (hls:QcU σ (.ptr o (gg σ o) 0) ls) (hl0:∀ l∈ls,l.1.2=0) (hts:QcJ σ (.ptr o (gg σ o) 0) C.nt ts) :
  ∃ E',Gm C E' (Qaf σ (QDB σ k o ys ls ts)) a w:=by
 obtain ⟨G,b1,b2,g1,b4⟩:=hg.boxed hm hn
 unfold QDB
 obtain ⟨d1,d2,d3,d3',_⟩:=Qj9 (σ:=σ) (Qam σ [o] [ys.map Qb5])
 generalize Qam σ [o] [ys.map Qb5]=toks at *
 rw [Qal,Qal,Qal]
 have e0:QaA σ k (.box ys)=QaA (Qaf σ (Qa0 σ toks)) k (.box ys):=(Qfa (d3' k) (d3 k)).symm
 have e1:gg σ k=gg (Qaf σ (Qa0 σ toks)) k:=(Qaz (d3 k)).symm
 rw [e0,e1]
 generalize Qaf σ (Qa0 σ toks)=s1 at *
 obtain ⟨E',g2,m2,_,f4,_,g6⟩:=g1.gainTree k (.box ys) (.pointer (some ⟨E.loc o,0,none⟩)) G (fun y h=>by cases h) b1 (fun b hb=>by
  obtain ⟨t,r1,r2⟩:=b2 b hb
  refine ⟨(hg.ho_dd r2).2,fun ⟨t',ht'⟩=>?_⟩
  obtain ⟨p1,p2⟩:=b4 t' b ht'
  exact p2 (hg.ho_inj r2 p1 ▸ r1)) hk
 have g6':RdP E' (Qaf s1 (QaA s1 k (.box ys))) (.ptr k (gg s1 k+1) 0) (.pointer (some ⟨E.loc o,0,none⟩)):=g6
 refine ⟨E',?_⟩
 generalize Qaf s1 (QaA s1 k (.box ys))=s2 at g2 m2 g6' ⊢
 have hcells:=QdH hg hls
 have hrd:∀ s:St,s (.g k)=s2 (.g k)→RdA E' s (.ptr k (gg s1 k+1) 0) (.pointer (some ⟨E.loc o,0,none⟩)):=fun s hs=>by
  have:=g6'
  refine ⟨by rw [Qaz hs];exact this.1,fun h=>this.2 (by rw [←Qaz hs];exact h)⟩
 have g3:=Gm.cellsTell (.ptr k (gg s1 k+1) 0) ls s2 g2 fun s hs l hl=>by
  obtain ⟨v,hv,hr⟩:=hcells l hl
  have hv2:=hr.2 rfl
  refine ⟨v,?_,by rw [hv2];exact hrd s (hs _ (by simp))⟩
  rw [f4 l.1 (fun e=>hk (e ▸ hl0 l hl))]
  exact hv
 have hsl:=QbS hts
 refine Gm.slots (.ptr k (gg s1 k+1) 0) ts _ g3 (fun t ht=>(hsl t ht).2) fun s hs t ht=>?_
 have hv2:=(hg.sl t _ (hsl t ht).1).2 rfl
 rw [hv2]
 exact hrd s ((hs _ (by simp)).trans (QgE _ _ _ (by simp)))
theorem QxU {m:Mem}:∀ us:List Value,Hg m w (us.map fun u=>T.av (.sc u)) us []
 | []=>.nil
 | u::us=>.av (Rd.sc u) (QxU us)
theorem QjE {m:Mem}:∀ {us vs:List Value} {F:List Nat},Hg m w (us.map fun u=>T.av (.sc u)) vs F→vs=us
 | [],_,_,h=>by cases h;rfl
 | u::us,_,_,h=>by
  cases h with
  | av h hs=>rw [Rd.sc_eq h,QjE hs]
def Qzv (σ:St) (k kb:Id) (es:List (Value × T)) (ps:List (Value × T)):List (Pl × X):=(.r k,.tree (.mp es))::QaA (put σ (.r k) (.tree (.mp es))) kb (.bag ps)
theorem Gm.splitM (hg:Gm C E σ a w) {k kb:Id} {α:Type} {l:List α} {f:α→Value} {g:α→List T} (h1:σ (.r k)=.tree (.mp (l.map fun a=>(f a,.box (g a))))) (hk:k≠kb∧kb.2≠0) :
  ∃ zs:List (Nat × α),zs.map (·.2)=l∧∃ E',Gm C E' (Qaf σ (Qzv σ k kb (zs.map fun z=>(f z.2,.av (.sc (pw z.1)))) (zs.map fun z=>(pw z.1,.box (g z.2))))) a w:=by
 obtain ⟨hr,_⟩:=hg.tr.hg k _ h1
 obtain ⟨b,ents,clock,F1,c1,c2,c3,c4,c5,c6,c7,c8,c9,c10⟩:=QeW hr
 rw [List.map_map] at c4 c5 c8
 have c8':Hg E.m w (l.map fun a=>T.box (g a)) (ents.toList.map (·.val)) F1:=c8
 obtain ⟨bs,hbs⟩:=Qks c8'
 have hl:bs.length=l.length:=by have:=c8'.len;rw [hbs] at this;simpa using this
 have hz2:(bs.zip l).map (·.2)=l:=by rw [←List.unzip_snd,List.unzip_zip hl]
 have hz1:(bs.zip l).map (·.1)=bs:=by rw [←List.unzip_fst,List.unzip_zip hl]
 refine ⟨bs.zip l,hz2,?_⟩
 have hkeys:((bs.zip l).map fun z=>(f z.2,T.av (.sc (pw z.1)))).map (·.1)=l.map f:=by
  rw [List.map_map]
  have:((fun p:Value × T=>p.1) ∘ fun z:Nat × α=>(f z.2,T.av (.sc (pw z.1))))=f ∘ (·.2):=rfl
  rw [this,←List.map_map,hz2]
 have hvals:((bs.zip l).map fun z=>(f z.2,T.av (.sc (pw z.1)))).map (·.2)=(bs.map pw).map fun u=>T.av (.sc u):=by
  rw [List.map_map,List.map_map]
  have:((fun p:Value × T=>p.2) ∘ fun z:Nat × α=>(f z.2,T.av (.sc (pw z.1))))=((fun u=>T.av (.sc u)) ∘ pw) ∘ (·.1):=rfl
  rw [this,←List.map_map,hz1]
 have hkf:(l.map fun a=>(f a,T.box (g a))).map (·.1)=l.map f:=by rw [List.map_map];rfl
 have hmp:Hg E.m w [.mp ((bs.zip l).map fun z=>(f z.2,.av (.sc (pw z.1))))] [E.bv k] [b]:=by
  rw [c1]
  exact QrA c2 c3 (by rw [hkeys];exact c4) (by rw [hkeys];exact c5) c6 c7 (by rw [hvals,hbs];exact QxU _) (by simp)
 obtain ⟨E1,g1,m1,e1,e2,e3⟩:=hg.retree k _ _ _ h1 (fun ys h=>by cases h) (fun y h=>by cases h) (fun ys h=>by cases h) hmp (fun c hc=>.inl (by rw [c10];simp at hc;simp [hc]))
 have hbag:Hg E1.m w [.bag ((bs.zip l).map fun z=>(pw z.1,.box (g z.2)))] [.bool false] F1:=by
  rw [e1]
  refine QjC ?_
  rw [List.map_map,List.map_map]
  have q1:((fun p:Value × T=>p.2) ∘ fun z:Nat × α=>(pw z.1,T.box (g z.2)))=(fun a=>T.box (g a)) ∘ (·.2):=rfl
  have q2:((fun p:Value × T=>p.1) ∘ fun z:Nat × α=>(pw z.1,T.box (g z.2)))=pw ∘ (·.1):=rfl
  rw [q1,q2,←List.map_map,hz2,←List.map_map,hz1,←hbs]
  exact c8'
 obtain ⟨E2,g2,_⟩:=g1.gainTree kb _ _ F1 (fun y h=>by cases h) hbag (fun c hc=>by
  have hin:c∈E.bf k:=by rw [c10];exact List.mem_cons_of_mem _ hc
  refine ⟨hg.tr.dd k _ c h1 hin,fun ⟨t,ht⟩=>?_⟩
  rcases e3 t c ht with ⟨q3,q4⟩ | ⟨q3,q4⟩
  ·exact q3 (hg.ho_inj q4 (t':=.r k) ⟨_,h1,hin⟩)
  ·simp at q4;exact c9 (q4 ▸ hc)) hk.2
 exact ⟨E2,g2⟩
def Qkt (k kb:Id) (es:List (Value × T)):List (Pl × X):=Qg6 kb++[(.r k,.tree (.mp es))]
theorem Gm.joinM (hg:Gm C E σ a w) {k kb:Id} {ps es es':List (Value × T)} (h1:σ (.r k)=.tree (.mp es)) (h2:σ (.r kb)=.tree (.bag ps)) (he:es.map (·.2)=ps.map fun p=>T.av (.sc p.1)) (he':es'.map (·.1)=es.map (·.1)∧es'.map (·.2)=ps.map (·.2)) (hk:k≠kb) :
  (∀ i p,ps[i]? = some p→QcB w (E.bv k) i=some p.1)∧∃ E',Gm C E' (Qaf σ (Qkt k kb es')) a w∧Mo E σ E' (Qaf σ (Qkt k kb es'))∧E'.bv=E.bv:=by
 obtain ⟨hr,_⟩:=hg.tr.hg k _ h1
 obtain ⟨hb,_⟩:=hg.tr.hg kb _ h2
 obtain ⟨F1,c1,c2,c3⟩:=QgC hb
 obtain ⟨b,ents,clock,F2,q1,q2,q3,q4,q5,q6,q7,q8,q9,q10⟩:=QeW hr
 have hmm:(ps.map fun p=>T.av (.sc p.1))=(ps.map (·.1)).map fun u=>T.av (.sc u):=by rw [List.map_map];rfl
 rw [he,hmm] at q8
 have hv:=QjE q8
 have hbk:b∈E.bf k:=by rw [q10];simp
 have hd:b∉F1:=fun h=>hk (hg.tr.tt k kb _ _ b h1 h2 hbk ((c3 b).2 h))
 obtain ⟨g1,m1,l1⟩:=hg.let_go kb
 have h1':Qaf σ (Qg6 kb) (.r k)=.tree (.mp es):=by simp [Qg6,Qaf,put,hk,h1]
 have hmp:Hg E.m w [.mp es'] [E.bv k] (b::F1):=by
  rw [q1]
  exact QrA q2 q3 (by rw [he'.1];exact q4) (by rw [he'.1];exact q5) q6 q7 (by rw [he'.2,hv];exact c2) hd
 refine ⟨fun i p hp=>?_,?_⟩
 ·have hvi:(ents.toList.map (·.val))[i]? = some p.1:=by rw [hv,List.getElem?_map,hp];rfl
  rw [List.getElem?_map] at hvi
  rw [q1]
  show (match w.heap[b]? with | some (.map es _)=>(es[i]?).map (·.val) | _=>none)=some p.1
  rw [q2]
  rw [Array.getElem?_toList] at hvi
  exact hvi
 obtain ⟨E1,g2,m2,e1,e2,e3⟩:=g1.retree k _ _ _ h1' (fun ys h=>by cases h) (fun y h=>by cases h) (fun ys h=>by cases h) hmp (fun c hc=>by
  rcases List.mem_cons.1 hc with rfl | h
  ·exact .inl hbk
  ·refine .inr ⟨hg.tr.dd kb _ c h2 ((c3 c).2 h),fun ⟨t,ht⟩=>?_⟩
   obtain ⟨p1,p2⟩:=l1 t c ht
   exact p2 (hg.ho_inj p1 (t':=.r kb) ⟨_,h2,(c3 c).2 h⟩))
 exact ⟨E1,by unfold Qkt;rw [Qal];exact g2,by unfold Qkt;rw [Qal];exact m1.trans m2,e2⟩
theorem QCi (xs:List T):(∃ us,T.box xs=T.box us)=True:=eq_true ⟨_,rfl⟩
attribute [go_sem] QCi QlL QcU QDA QDB Qzv Qkt
end
section
variable {P:Program} {C:Ctx} {σ:St} {Q:Exit→St→Prop}
theorem QsO {c:Code} {n:Nat} (hC:C.nt=n) (k:Id) (d:Nat) (ls:List (Id × Nat)) (ts:List Nat) (ys:List T) (hn:(d::ts).all (fun t=>decide (t<n))=true∧(ls.all fun l=>decide (l.1.2=0∧l.1≠(d,0)))=true)
  (h:(σ (.r k)=.tree (.box ys)∧QcU σ (.ptr k (gg σ k) 0) ls∧QbZ σ (.ptr k (gg σ k) 0) ts)∧AW P C c (Qaf σ (QDA σ k (d,0) ys ls ts)) Q):AW P C c σ Q:=by
 subst hC
 obtain ⟨⟨h1,h2,h3⟩,hk⟩:=h
 have hall:=QfV hn.1
 intro E a w hg
 obtain ⟨E',g⟩:=hg.unbox (o:=(d,0)) h1 ⟨rfl,C.np d (hall d (List.mem_cons_self ..))⟩ h2 (fun l hl=>by simpa using List.all_eq_true.1 hn.2 l hl) (Qbn h3 fun t ht=>hall t (List.mem_cons_of_mem _ ht))
 exact hk E' a w g
theorem Qiv {c:Code} {n:Nat} (hC:C.nt=n) (k o:Id) (ls:List (Id × Nat)) (ts:List Nat) (ys:List T) (hk2:k.2≠0) (hn:ts.all (fun t=>decide (t<n))=true∧(ls.all fun l=>decide (l.1.2=0))=true)
  (h:(Qdq σ [o] [o] [ys.map Qb5]∧(Qam σ [o] [ys.map Qb5]).Nodup∧QcU σ (.ptr o (gg σ o) 0) ls∧QbZ σ (.ptr o (gg σ o) 0) ts)∧AW P C c (Qaf σ (QDB σ k o ys ls ts)) Q):AW P C c σ Q:=by
 subst hC
 obtain ⟨⟨h1,h2,h3,h4⟩,hk⟩:=h
 intro E a w hg
 obtain ⟨E',g⟩:=hg.rebox h1 h2 hk2 h3 (fun l hl=>by simpa using List.all_eq_true.1 hn.2 l hl) (Qbn h4 (QfV hn.1))
 exact hk E' a w g
theorem QsP {c:Code} {α:Type} (k kb:Id) (l:List α) (f:α→Value) (g:α→List T) (h:σ (.r k)=.tree (.mp (l.map fun a=>(f a,.box (g a))))∧k≠kb∧kb.2≠0)
  (hk:∀ zs:List (Nat × α),zs.map (·.2)=l→AW P C c (Qaf σ (Qzv σ k kb (zs.map fun z=>(f z.2,.av (.sc (pw z.1)))) (zs.map fun z=>(pw z.1,.box (g z.2))))) Q):AW P C c σ Q:=by
 intro E a w hg
 obtain ⟨zs,h1,E',g'⟩:=hg.splitM h.1 h.2
 exact hk zs h1 E' a w g'
theorem QCj {c:Code} (k kb:Id) (ps es es':List (Value × T)) (he:es.map (·.2)=ps.map fun p=>T.av (.sc p.1)) (he':es'.map (·.1)=es.map (·.1)∧es'.map (·.2)=ps.map (·.2))
  (h:(σ (.r k)=.tree (.mp es)∧σ (.r kb)=.tree (.bag ps)∧k≠kb)∧AW P C c (Qaf σ (Qkt k kb es')) Q):AW P C c σ Q:=by
 obtain ⟨⟨h1,h2,h3⟩,hk⟩:=h
 intro E a w hg
 obtain ⟨_,E',g',_⟩:=hg.joinM h1 h2 he he' h3
 exact hk E' a w g'
theorem QxV {c:Code} (k kb o:Id) (i t0:Nat) (u:Value) (x:T) (ps es es':List (Value × T)) (hi:ps[i]? = some (u,x)) (he:es.map (·.2)=ps.map fun p=>T.av (.sc p.1)) (he':es'.map (·.1)=es.map (·.1)∧es'.map (·.2)=ps.map (·.2))
  (h:(σ (.r k)=.tree (.mp es)∧σ (.r kb)=.tree (.bag ps)∧k≠kb∧σ (.s t0)=.av (.pv u o (gg σ o)))∧AW P C c (Qaf σ (Qkt k kb es'++[(.l k,.lent i (.ptr o (gg σ o) 0))])) Q):AW P C c σ Q:=by
 obtain ⟨⟨h1,h2,h3,h4⟩,hk⟩:=h
 intro E a w hg
 have hu:u=.pointer (some ⟨E.loc o,0,none⟩):=(hg.sl t0 _ h4).2 rfl
 obtain ⟨q,E',g',m',e'⟩:=hg.joinM h1 h2 he he' h3
 have hkr:Qaf σ (Qkt k kb es') (.r k)=.tree (.mp es'):=by
  unfold Qkt;rw [Qal];exact QaZ _ _ _
 have hpt:RdA E σ (.ptr o (gg σ o) 0) u:=⟨Nat.le_refl _,fun _=>hu⟩
 obtain ⟨g2,_⟩:=g'.lend k _ hkr i (.ptr o (gg σ o) 0) ⟨u,by rw [e'];exact q i _ hi,hpt.mo m'⟩
 exact hk E' a w (by rw [Qal];exact g2)
theorem Qoi {c:Code} (k o:Id) (i:Nat) (es es':List (Value × T)) (key:Value) (y:V) (ys:List T) (hi:es[i]? = some (key,.av y)) (hu:es.set i (key,.box ys)=es')
  (h:(σ (.r k)=.tree (.mp es)∧σ (.l k)=.lent i (.ptr o (gg σ o) 0)∧Qdq σ [o] [o] [ys.map Qb5]∧(Qam σ [o] [ys.map Qb5]).Nodup∧Ho.r k∉Qam σ [o] [ys.map Qb5]) ∧
   AW P C c (Qaf σ (Qa0 σ (Qam σ [o] [ys.map Qb5])++(Qg6 k++[(.r k,.tree (.mp es'))]))) Q):AW P C c σ Q:=by
 subst hu
 obtain ⟨⟨h1,h2,h3,h4,h5⟩,hk⟩:=h
 intro E a w hg
 obtain ⟨v,r1,r2⟩:=hg.tr.le k _ i _ h1 h2
 have hv:v=.pointer (some ⟨E.loc o,0,none⟩):=r2.2 rfl
 obtain ⟨G,b1,b2,g1,b4⟩:=hg.boxed h3 h4
 generalize Qam σ [o] [ys.map Qb5]=toks at *
 have h1':Qaf σ (Qa0 σ toks) (.r k)=.tree (.mp es):=(Qkr h5).trans h1
 obtain ⟨hr,_⟩:=g1.tr.hg k _ h1'
 obtain ⟨b,ents,clock,F1,q1,q2,q3,q4,q5,q6,q7,q8,q9,q10⟩:=QeW hr
 have hlt:=(List.getElem?_eq_some_iff.1 hi).1
 have hui:(ents.toList.map (·.val))[i]? = some v:=by
  rw [q1] at r1
  have r1:(match w.heap[b]? with | some (.map es _)=>(es[i]?).map (·.val) | _=>none)=some v:=r1
  rw [q2] at r1
  rw [List.getElem?_map,Array.getElem?_toList]
  exact r1
 have hG:∀ c∈G,∀ t,¬HoB E (Qaf σ (Qa0 σ toks)) t c:=fun c hc t ht=>by
  obtain ⟨t',p1,p2⟩:=b2 c hc
  obtain ⟨s1,s2⟩:=b4 t c ht
  exact s2 (hg.ho_inj p2 s1 ▸ p1)
 obtain ⟨F',p1,p2⟩:=q8.give_any (j:=i) (x:=.box ys) (y:=y) (v:=v) (G:=G) (by rw [List.getElem?_map,hi];rfl) hui (by rw [hv];exact b1) (fun c hc hF=>hG c hc (.r k) ⟨_,h1',by rw [q10];exact List.mem_cons_of_mem _ hF⟩)
 have hke:(es.set i (key,T.box ys)).map (·.1)=es.map (·.1):=by
  rw [List.map_set]
  exact QdG (by rw [List.getElem?_map,hi];rfl)
 have hmp:Hg E.m w [.mp (es.set i (key,.box ys))] [E.bv k] (b::F'):=by
  rw [q1]
  exact QrA q2 q3 (by rw [hke];exact q4) (by rw [hke];exact q5) q6 q7 (by rw [List.map_set];exact p1) (fun hF=>by
   rcases (p2 b).1 hF with h | h
   ·exact hG b h (.r k) ⟨_,h1',by rw [q10];exact List.mem_cons_self ..⟩
   ·exact q9 h)
 obtain ⟨E1,g2,_⟩:=g1.retree k _ _ _ h1' (fun ys h=>by cases h) (fun y h=>by cases h) (fun ys h=>by cases h) hmp (fun c hc=>by
  rcases List.mem_cons.1 hc with rfl | h
  ·exact .inl (by rw [q10];exact List.mem_cons_self ..)
  ·rcases (p2 c).1 h with h | h
   ·obtain ⟨t,s1,s2⟩:=b2 c h
    exact .inr ⟨(hg.ho_dd s2).2,fun ⟨t',ht'⟩=>hG c h t' ht'⟩
   ·exact .inl (by rw [q10];exact List.mem_cons_of_mem _ h))
 have q:∀ (σ0:St) (l:Pl),Qaf σ0 (Qg6 k++[(.r k,.tree (.mp (es.set i (key,.box ys))))]) l=if l=.r k then .tree (.mp (es.set i (key,.box ys))) else if l=.l k then .non else σ0 l:=fun σ0 l=>by
  show put (put (put σ0 (.l k) _) (.r k) _) (.r k) _ l=_
  unfold put
  by_cases e1:l=.r k
  ·simp [e1]
  ·simp [e1]
 refine hk E1 a w ?_
 rw [Qal]
 refine (g2.drop _ (fun t=>?_) (fun o i=>?_) (fun o=>?_) (fun o n h=>?_) (fun k e sz T h=>?_) (fun k=>.inl ?_) (fun k' x h=>?_) (fun k' i y h=>?_) (fun k=>?_) (fun o k g s h=>?_)).1
 all_goals first | (rw [q,Qag _ _ (by simp)];simp;done) | skip
 ·rw [q] at h;rw [Qag _ _ (by simp)];simpa using h
 ·rw [q] at h;rw [Qag _ _ (by simp)];simpa using h
 ·rw [q] at h
  by_cases e1:k'=k
  ·subst e1;rw [QaZ];simpa using h
  ·rw [Qag _ _ (by simpa using e1)];simpa [e1] using h
 ·rw [q] at h
  rw [Qag _ _ (by simp)]
  by_cases e1:k'=k
  ·subst e1;simp at h
  ·simpa [e1] using h
 ·rw [q] at h;rw [Qag _ _ (by simp)];simpa using h
end
end Go.Proofs.YthfocmakkeonoaaGreatDoor
namespace Go.Proofs.YthfocmakkeonoaaGreatDoor
open Go.RowKit
structure Wt where
 n:Int
 at':Int
 tr:Int
 wt:Int
def Qht (w:Wt):List V:=[vi w.n,vi w.at',vi w.tr,vi w.wt]
structure Gp where
 m:Int
 t:Int
 f:Int
 a:Int
 l:List Wt
 any:Bool
 gr:Int
 gv:Int
def Qiw (n:Int):Int:=max (-1099511627776) (min n 1099511627776)
def QcD (n:Int):Int:=max 0 (min n 1099511627776)
def atW (l:List Wt) (n:Int):Nat:=(l.takeWhile fun w=>decide (w.n<n)).length
def QsQ (l:List Wt) (n:Int):Bool:=match l[atW l n]? with | some w=>decide (w.n=n) | none=>false
def Qi4 (at' wt:Int) (n:Int):Nat→List Wt
 | 0=>[]
 | k+1=>⟨n,at',0,wt⟩::Qi4 at' wt (n+1) k
def Qjg (g:Gp) (n:Int):Int:=max 0 ((g.l.length:Int)+(n-g.gr-1)-g.m)
def QlM (g:Gp) (n:Int):Int:=max 0 (Qjg g n-g.l.length)
def QeO (g:Gp) (n0 now0:Int):Gp × Int:=
 let n:=Qiw n0
 let now:=QcD now0
 if g.any=false then ({ g with any:=true,gr:=n },0)
 else if n≤g.gr then ({ g with l:=if QsQ g.l n=true then g.l.take (atW g.l n)++g.l.drop (atW g.l n+1) else g.l },0)
 else ({ g with gr:=n,l:=(g.l++Qi4 (now+g.f) g.a (g.gr+1+QlM g n) (n-g.gr-1-QlM g n).toNat).drop (Qjg g n-QlM g n).toNat,gv:=g.gv+Qjg g n },Qjg g n)
def Qoj (t now:Int) (w:Wt):Option Wt:=if t≤w.tr then none else some ⟨w.n,now+w.wt,w.tr+1,min (2 * w.wt) 1048576⟩
def Qdg (t now:Int):List Wt→List Int × List Wt × Int
 | []=>([],[],0)
 | w::l=>
  let r:=Qdg t now l
  if w.at'≤now then (match Qoj t now w with
   | none=>(r.1,r.2.1,r.2.2+1)
   | some w'=>(w.n::r.1,w'::r.2.1,r.2.2))
  else (r.1,w::r.2.1,r.2.2)
def Qwn (g:Gp) (now0:Int):Gp × List Int:=
 let r:=Qdg g.t (QcD now0) g.l
 ({ g with l:=r.2.1,gv:=g.gv+r.2.2 },r.1)
structure Gp.Ok (g:Gp) (K:Int):Prop where
 m0:1≤g.m
 m1:g.m≤1024
 t0:1≤g.t
 t1:g.t≤100
 f0:0≤g.f
 f1:g.f≤1048576
 a0:1≤g.a
 a1:g.a≤1048576
 ln:(g.l.length:Int)≤g.m
 so:g.l.Pairwise fun u v=>u.n<v.n
 an:g.any=false→g.l=[]
 nn:∀ w∈g.l,-1099511627776≤w.n∧w.n<g.gr
 ww:∀ w∈g.l,0≤w.tr∧w.tr≤100∧0≤w.wt∧w.wt≤1048576
 g0:-1099511627776≤g.gr
 g1:g.gr≤1099511627776
 v0:0≤g.gv
 v1:g.gv≤2199023255552 * K
end Go.Proofs.YthfocmakkeonoaaGreatDoor
namespace Go.Proofs.YthfocmakkeonoaaGreatDoor
open Go.RowKit
def d16 (a b:Int):Int:=if (b-a) % 65536<32768 then (b-a) % 65536 else (b-a) % 65536-65536
def QdI (last n:Int):Int:=max (-4611686018427387904) (min last 4611686018427387904)+d16 (max (-4611686018427387904) (min last 4611686018427387904) % 65536) n
theorem Qok (a b:Int):-32768≤d16 a b∧d16 a b≤32767:=by unfold d16;split <;> omega
theorem Qzw (n:Int):IntKind.u16.wrap n=n % 65536:=IntKind.wrap_u16 n
theorem QGh (a b:Int):IntKind.i16.wrap ((b-a) % 65536)=d16 a b:=by
 unfold d16
 simp [IntKind.wrap,IntKind.bits,IntKind.signed]
 split <;> omega
theorem Qol (a b:Int):Qan Tryz.prog 136 [.ca (.val (vh a)),.ca (.val (vh b))] [] (.ca (.val (vi (d16 a b)))) []:=by
 have e1:=Qzw (b-a)
 have e2:=QGh a b
 have h:=Qok a b
 generalize d16 a b=D at *
 refine Qaa Tryz.func136 rfl Tryz.ntmps136 Tryz.results136 ⟨by decide,by simp⟩ fun C hC=>?_
 repeat' first | refine sp_ ?_ | exact ex0 | (refine Qap [] ?_;simp (decide:=true) (disch:=omega) only [go_sem,↓reduceIte,↓Qad])
 (try simp only [e1,e2])
 repeat' first | refine sp_ ?_ | exact ex0 | exact re0 []
theorem Qzx (last n:Int):Qan Tryz.prog 72 [.ca (.val (vi last)),.ca (.val (vh n))] [] (.ca (.val (vi (QdI last n)))) []:=by
 unfold QdI
 obtain ⟨l,hl⟩:∃ l,max (-4611686018427387904) (min last 4611686018427387904)=l:=⟨_,rfl⟩
 have h1:-4611686018427387904≤l∧l≤4611686018427387904:=by omega
 have e1:=Qzw l
 have c:=Qol (l % 65536) n
 have h:=Qok (l % 65536) n
 rw [hl]
 generalize d16 (l % 65536) n=D at *
 refine Qaa Tryz.func72 rfl Tryz.ntmps72 Tryz.results72 ⟨by decide,by simp⟩ fun C hC=>?_
 repeat' first | refine sp_ ?_ | exact ex0 | (refine Qap [] ?_;simp (decide:=true) (disch:=omega) only [go_sem,↓reduceIte,↓Qad])
 (try simp only [hl])
 (try simp only [e1])
 repeat' first | refine sp_ ?_ | exact ex0 | refine Qab Tryz.call136 (c) [] ex1 ?_ | exact re0 []
structure Sr where
 mx:Int
 cy:Int
 bs:Int
 bd:Int
 pr:Int
 rc:Int
abbrev srL (s:Sr):List V:=[vh s.mx,vi s.cy,vi s.bs,vi s.bd,vi s.pr,vi s.rc]
structure Sr.Ok (s:Sr) (K:Int):Prop where
 m0:0≤s.mx
 m1:s.mx≤65535
 c0:0≤s.cy
 c1:s.cy≤65536 * K
 b0:0≤s.bs
 b1:s.bs≤65535
 p0:-K≤s.pr
 p1:s.pr≤2
 r0:0≤s.rc
 r1:s.rc≤K
 d0:0≤s.bd
 d1:s.bd≤65537
def QxW (n:Int):Sr:=⟨(n-1) % 65536,0,n,65537,2,0⟩
def QjF (s:Sr) (n:Int):Sr × Bool:=
 if n≠(s.mx+1) % 65536 then ({ s with pr:=1,mx:=n },false)
 else if 0<s.pr-1 then ({ s with pr:=s.pr-1,mx:=n },false)
 else (⟨n,0,n,65537,s.pr-1,1⟩,true)
def QxX (s:Sr) (n:Int):Sr × Bool:=
 if 0<s.pr then QjF s n
 else if (n-s.mx) % 65536<3000 then ({ s with cy:=if n<s.mx then s.cy+65536 else s.cy,mx:=n,rc:=s.rc+1 },true)
 else if (n-s.mx) % 65536≤65436 then (if n≠s.bd then ({ s with bd:=(n+1) % 65536 },false) else (⟨n,0,n,65537,s.pr,1⟩,true))
 else ({ s with rc:=s.rc+1 },true)
theorem QsR {n:Int} (h0:0≤n) (h1:n≤65535):(QxW n).Ok 0:=by
 constructor <;> simp only [QxW] <;> omega
theorem Qzy {s:Sr} {K:Int} (h:s.Ok K) {n:Int} (h0:0≤n) (h1:n≤65535) (hK:0≤K):(QxX s n).1.Ok (K+1):=by
 obtain ⟨a1,a2,a3,a4,a5,a6,a7,a8,a9,a10,a11,a12⟩:=h
 unfold QxX QjF
 split
 ·split
  ·constructor <;> dsimp only <;> omega
  ·split <;> constructor <;> dsimp only <;> omega
 ·split
  ·constructor <;> dsimp only <;> (try split) <;> omega
  ·split
   ·split <;> constructor <;> dsimp only <;> omega
   ·constructor <;> dsimp only <;> omega
end Go.Proofs.YthfocmakkeonoaaGreatDoor
namespace Go.Proofs.YthfocmakkeonoaaGreatDoor
open Go.RowKit
structure Dl where
 lo:Int
 hi:Int
 now:Int
abbrev dlL (d:Dl):List V:=[vi d.lo,vi d.hi,vi d.now]
def Qmx (n:Int):Int:=max 0 (min n 1048576)
def Qb3 (d:Dl):Dl:=⟨Qmx d.lo,max (Qmx d.lo) (min d.hi 1048576),max (Qmx d.lo) (min d.now (max (Qmx d.lo) (min d.hi 1048576)))⟩
def Qp2 (d:Dl) (j:Int):Dl:=
 let f:=Qb3 d
 let w:=min f.hi (f.lo+4 * Qmx j)
 if f.now<w then ⟨f.lo,f.hi,w⟩ else if w<f.now then ⟨f.lo,f.hi,f.now-1⟩ else f
def QjG (d:Dl) (n:Int):Dl:=⟨(Qb3 d).lo,(Qb3 d).hi,min (Qb3 d).hi ((Qb3 d).now+Qmx n)⟩
theorem Qix (n:Int):0≤Qmx n∧Qmx n≤1048576:=by unfold Qmx;omega
theorem QeB (d:Dl):0≤(Qb3 d).lo∧(Qb3 d).lo≤(Qb3 d).now∧(Qb3 d).now≤(Qb3 d).hi∧(Qb3 d).hi≤1048576:=by
 have:=Qix d.lo
 unfold Qb3
 dsimp only
 omega
theorem Qm1 (n lo hi:Int):Qan Tryz.prog 108 [.ca (.val (vi n)),.ca (.val (vi lo)),.ca (.val (vi hi))] [] (.ca (.val (vi (max lo (min n hi))))) []:=by
 refine Qaa Tryz.func108 rfl Tryz.ntmps108 Tryz.results108 ⟨by decide,by simp⟩ fun C hC=>?_
 repeat' first | refine sp_ ?_ | exact ex0 | exact re0 []
theorem Qku (n:Int):Qan Tryz.prog 82 [.ca (.val (vi n))] [] (.ca (.val (vi (Qmx n)))) []:=by
 have c:=Qm1 n 0 1048576
 rw [show max 0 (min n 1048576)=Qmx n from rfl] at c
 refine Qaa Tryz.func82 rfl Tryz.ntmps82 Tryz.results82 ⟨by decide,by simp⟩ fun C hC=>?_
 repeat' first | refine sp_ ?_ | exact ex0 | refine Qab Tryz.call108 (c) [] ex1 ?_ | exact re0 []
theorem QsS (d:Dl):Qan Tryz.prog 47 [.ca (.val (.agg (dlL d)))] [] (.ca (.val (.agg (dlL (Qb3 d))))) []:=by
 obtain ⟨lo,hi,now⟩:=d
 have c1:=Qku lo
 have c2:=Qm1 hi (Qmx lo) 1048576
 have c3:=Qm1 now (Qmx lo) (max (Qmx lo) (min hi 1048576))
 unfold Qb3
 dsimp only
 refine Qaa Tryz.func47 rfl Tryz.ntmps47 Tryz.results47 ⟨by decide,by simp⟩ fun C hC=>?_
 repeat' first | refine sp_ ?_ | exact ex0 | refine Qab Tryz.call82 (c1) [] ex1 ?_ | refine Qab Tryz.call108 (c2) [] ex1 ?_ | refine Qab Tryz.call108 (c3) [] ex1 ?_ | exact re0 []
theorem QxY (a b:Int):Qan Tryz.prog 16 [.ca (.val (vi a)),.ca (.val (vi b))] [] (.ca (.val (.agg (dlL (Qb3 ⟨a,b,a⟩))))) []:=by
 have c1:=QsS ⟨a,b,a⟩
 refine Qaa Tryz.func16 rfl Tryz.ntmps16 Tryz.results16 ⟨by decide,by simp⟩ fun C hC=>?_
 repeat' first | refine sp_ ?_ | exact ex0 | refine Qab Tryz.call47 (c1) [] ex1 ?_ | exact re0 []
theorem QsT (d:Dl) (j:Int):Qan Tryz.prog 31 [.ca (.val (.agg (dlL d))),.ca (.val (vi j))] [] (.ca (.val (.agg (dlL (Qp2 d j))))) []:=by
 have c1:=QsS d
 have c2:=Qku j
 have h1:=QeB d
 have h2:=Qix j
 unfold Qp2
 generalize Qb3 d=f at *
 generalize Qmx j=t at *
 obtain ⟨lo,hi,now⟩:=f
 dsimp only at *
 generalize hw:min hi (lo+4 * t)=w at *
 refine Qaa Tryz.func31 rfl Tryz.ntmps31 Tryz.results31 ⟨by decide,by simp⟩ fun C hC=>?_
 by_cases q1:now<w
 ·rw [if_pos q1]
  repeat' first | refine sp_ ?_ | exact ex0 | refine Qab Tryz.call47 (c1) [] ex1 ?_ | refine Qab Tryz.call82 (c2) [] ex1 ?_ | (refine Qap [] ?_;simp (decide:=true) (disch:=omega) only [go_sem,↓reduceIte,↓Qad])
  (try simp only [hw])
  repeat' first | refine sp_ ?_ | exact ex0 | exact re0 []
 ·rw [if_neg q1]
  by_cases q2:w<now
  ·rw [if_pos q2]
   repeat' first | refine sp_ ?_ | exact ex0 | refine Qab Tryz.call47 (c1) [] ex1 ?_ | refine Qab Tryz.call82 (c2) [] ex1 ?_ | (refine Qap [] ?_;simp (decide:=true) (disch:=omega) only [go_sem,↓reduceIte,↓Qad])
   (try simp only [hw])
   repeat' first | refine sp_ ?_ | exact ex0 | exact re0 []
  ·rw [if_neg q2]
   repeat' first | refine sp_ ?_ | exact ex0 | refine Qab Tryz.call47 (c1) [] ex1 ?_ | refine Qab Tryz.call82 (c2) [] ex1 ?_ | (refine Qap [] ?_;simp (decide:=true) (disch:=omega) only [go_sem,↓reduceIte,↓Qad])
   (try simp only [hw])
   repeat' first | refine sp_ ?_ | exact ex0 | exact re0 []
theorem Qzz (d:Dl) (n:Int):Qan Tryz.prog 33 [.ca (.val (.agg (dlL d))),.ca (.val (vi n))] [] (.ca (.val (.agg (dlL (QjG d n))))) []:=by
 have c1:=QsS d
 have c2:=Qku n
 have h1:=QeB d
 have h2:=Qix n
 unfold QjG
 generalize Qb3 d=f at *
 generalize Qmx n=t at *
 obtain ⟨lo,hi,now⟩:=f
 dsimp only at *
 refine Qaa Tryz.func33 rfl Tryz.ntmps33 Tryz.results33 ⟨by decide,by simp⟩ fun C hC=>?_
 repeat' first | refine sp_ ?_ | exact ex0 | refine Qab Tryz.call47 (c1) [] ex1 ?_ | refine Qab Tryz.call82 (c2) [] ex1 ?_ | exact re0 []
end Go.Proofs.YthfocmakkeonoaaGreatDoor
namespace Go.Proofs.YthfocmakkeonoaaGreatDoor
open Go.RowKit
def Qom (P:Program) (t:TypeId) (name:String):Option (List FieldStep × Option (FuncId × Bool)):=
 (P.info? t).bind fun i=>(i.methods.find? (·.name == name)).map fun m=>(m.path.toList,m.func)
section
variable {P:Program} {ops:Array Oper} {C:Ctx} {σ:St} {md:Bool} {K:St→List FP→Prop} {acc:List FP} {rest:List Oper}
theorem Qwo {t:TypeId} {name:String} {F:FuncId} {d:TypeDesc} (hu:P.underlying t=some d) (hd:∀ e,d≠.pointer e) (h:Qom P t name=some ([],some (F,false))) (n:Nat) (v:Value) (w:World):(method (n+1) t v name).run P w=.ok (F,v) w:=by
 unfold Qom at h
 cases hi:P.info? t with
 | none=>rw [hi] at h;cases h
 | some i=>
  rw [hi] at h
  simp only [Option.bind_some] at h
  cases hm:i.methods.find? (·.name == name) with
  | none=>rw [hm] at h;cases h
  | some m=>
   rw [hm] at h
   simp only [Option.map_some,Option.some.injEq,Prod.mk.injEq] at h
   obtain ⟨h1,h2⟩:=h
   have hr:∀ nm,(receiverAt t (.val v) false nm).run P w=.ok v w:=fun nm=>by
    unfold receiverAt
    simp only [Sem.run_bind,run_underlying hu,Result.andThen_ok]
    cases d <;> first | rfl | exact absurd rfl (hd _)
   simp [method,typeInfo,hi,hm,h1,h2,follow,hr]
theorem QCk {d:Tmp} {F:FuncId} (hK:∀ args w,(callFunc F args).run P w=.ok (.enter F args) w) {r:Operand} {name:String} {T:TypeId} {y:V} (hr:ev σ r=.val (.ifc T y)) (hc:(∃ d,P.underlying T=some d∧∀ e,d≠.pointer e)) (hm:Qom P T name=some ([],some (F,false))) {xs:List Operand} {tys:Array TypeId} {args:List Arg} {objs objs':List (List CA)} {res:Arg} (hspec:Qan P F args objs res objs')
  (ids:List Id) {ts1 ts2:List Ho} (h1:MArgs σ ids (.val y::xs.map (ev σ)) args ts1) (h2:MObjs σ ids ids objs ts2) (hn:(ts1++ts2).Nodup) (hi:Qd2 d ids objs') (hlen:objs'.length=objs.length∨objs'.length=objs.length+1)
  (ty:TypeId) (pos:String) (af:Array Edge) :
  OpOk P ops C ⟨some d,.call { callee:=.invoke r name,args:=xs.toArray,argTypes:=tys },ty,pos,af,none⟩ (rds σ ((rdl r++QcC xs)++QeN d [] ids (ts1++ts2) objs objs')) (QbY σ d ids (ts1++ts2) objs' res):=
 Qka (L0:=rdl r++QcC xs) (xs:=[]) (zs:=.val y::xs.map (ev σ)) (extra:=[]) hspec ids (by simpa using h1) (fun E σ' a w hr' hg=>by
   obtain ⟨k1,k2⟩:=Qaq hr'
   have hv:=Qax hg r
   rw [Qae k1,hr] at hv
   have hv:Rd E.m (.ifc T y) (a.eval r):=hv
   generalize hav:a.eval r=v at hv
   cases hv with
   | ifc _ _ u hu=>
    refine ⟨u::xs.map a.eval,by simp,fun j x v q1 q2=>?_,fun ty pos af=>?_⟩
    ·cases j with
     | zero=>simp at q1 q2;subst q1 q2;exact hu
     | succ j=>
      simp only [List.getElem?_cons_succ] at q1 q2
      rw [←QfD k2] at q1
      rw [List.getElem?_map] at q1 q2
      cases hx:xs[j]? with
      | none=>rw [hx] at q1;cases q1
      | some z=>rw [hx] at q1 q2;cases q1;cases q2;exact Qax hg z
    ·obtain ⟨dd,hc1,hc2⟩:=hc
     have hrun:=Qwo hc1 hc2 hm (P.types.size+(Made.depth-1)) u w
     have hrun2:(method (P.types.size+Made.depth) T u name).run P w=.ok (F,u) w:=hrun
     simp [execOp,resolve,invoke,callMethod,hav,hrun2,hK]
     exact List.take_of_length_le (by simp)) h2 hn hi hlen ty pos af
theorem QlN {d:Tmp} {F:FuncId} (hK:∀ args w,(callFunc F args).run P w=.ok (.enter F args) w) {r:Operand} {name:String} (T:TypeId) (y:V) {xs:List Operand} {tys:Array TypeId} {args:List Arg} {objs objs':List (List CA)} {res:Arg} {ty:TypeId} {pos:String} {af:Array Edge}
  (hc:(∃ d,P.underlying T=some d∧∀ e,d≠.pointer e)) (hm:Qom P T name=some ([],some (F,false))) (hspec:Qan P F args objs res objs') (ids:List Id)
  (h:ev σ r=.val (.ifc T y)∧Qif σ ids (.val y::xs.map (ev σ)) args∧Qdq σ ids ids objs∧(QaI (.val y::xs.map (ev σ)) args++Qam σ ids objs).Nodup)
  (k:Qb7 P ops C md K rest (Qaf σ (QbY σ d ids (QaI (.val y::xs.map (ev σ)) args++Qam σ ids objs) objs' res)) (((rdl r++QcC xs)++QeN d [] ids (QaI (.val y::xs.map (ev σ)) args++Qam σ ids objs) objs objs',QcP (QbY σ d ids (QaI (.val y::xs.map (ev σ)) args++Qam σ ids objs) objs' res))::acc))
  (hn:Qg3 d ids objs'=true:=by kernel_rfl) (hl:QxJ objs.length objs'.length=true:=by kernel_rfl) :
  Run P ops C md K (⟨some d,.call { callee:=.invoke r name,args:=xs.toArray,argTypes:=tys },ty,pos,af,none⟩::rest) σ acc:=
 QaQ (QCk hK h.1 hc hm hspec ids (Qcg h.2.1) (Qch h.2.2.1) h.2.2.2 (QcT hn) (Qfc hl) ty pos af) (QaJ k)
end
end Go.Proofs.YthfocmakkeonoaaGreatDoor
namespace Go.Proofs.YthfocmakkeonoaaGreatDoor
open Go.RowKit
section
variable {P:Program} {ops:Array Oper} {C:Ctx} {E:Env} {σ:St} {a:Act} {w:World}
def Qfg (x:AV):Option (List AV):=match x with
 | .ref k g=>some [.ref k g]
 | .ptr o g i=>some [.ptr o g i]
 | .own k g e sz es=>some [.own k g e sz es]
 | .ag xs=>some xs
 | x=>(Qbs x).map fun l=>l.map .val
def Qm2 (σ:St):AV→Prop
 | .ref k g=>Qvh σ (.ref k g)
 | .ptr o g i=>Qvh σ (.ptr o g i)
 | _=>True
def Qm3 (σ:St):List (Nat × AV)→Prop
 | []=>True
 | p::l=>Qm2 σ p.2∧Qm3 σ l
def QlO (σ:St):List (Nat × Operand)→List Pl
 | []=>[]
 | p::l=>Qhi (ev σ p.2)++QlO σ l
theorem Qm4 {σ':St} {x:AV} (h:∀ l∈Qhi x,σ' l=σ l) (ho:Qm2 σ x):Qm2 σ' x:=by
 cases x with
 | ref k g=>exact Qes h ho
 | ptr o g i=>exact Qes h ho
 | _=>trivial
theorem Qiy {σ':St}:∀ {l:List (Nat × Operand)},(∀ x∈Qu2 l,σ' x=σ x)→(∀ x∈QlO σ l,σ' x=σ x)→Qm3 σ (evs σ l)→Qm3 σ' (l.map fun p=>(p.1,ev σ' p.2))
 | [],_,_,_=>trivial
 | p::l,h1,h2,h=>by
  obtain ⟨a1,a2⟩:=Qaq (L:=rdl p.2) (M:=Qu2 l) h1
  obtain ⟨b1,b2⟩:=Qaq (L:=Qhi (ev σ p.2)) (M:=QlO σ l) h2
  refine ⟨?_,Qiy a2 b2 h.2⟩
  show Qm2 σ' (ev σ' p.2)
  rw [Qae a1]
  exact Qm4 b1 h.1
theorem Qwp (hg:Gm C E σ a w) {x:AV} {v:Value} {vs:List AV} (h:RdA E σ x v) (hp:Qfg x=some vs) (ho:Qm2 σ x):v.cells.size=vs.length∧∀ i (hi:i<vs.length),∃ u,v.cells[i]? = some u∧RdP E σ vs[i] u:=by
 have one:∀ y:AV,RdP E σ y v→v.oneCell'=true→v.cells.size=[y].length∧∀ i (hi:i < [y].length),∃ u,v.cells[i]? = some u∧RdP E σ [y][i] u:=fun y hy ho=>by
  rw [Qfs ho]
  refine ⟨rfl,fun i hi=>?_⟩
  obtain rfl:i=0:=by simpa using hi
  exact ⟨v,rfl,hy⟩
 have plainv:∀ {x:AV} {l:List V},RdA E σ x v→Qbs x=some l→vs=l.map .val→v.cells.size=vs.length∧∀ i (hi:i<vs.length),∃ u,v.cells[i]? = some u∧RdP E σ vs[i] u:=fun {x l} hx hl e=>by
  subst e
  obtain ⟨h1,h2⟩:=Qj2 hx hl
  refine ⟨by rw [h1,List.length_map],fun i hi=>?_⟩
  obtain ⟨u,hu,hr⟩:=h2 i (by simpa using hi)
  exact ⟨u,hu,by rw [List.getElem_map];exact hr⟩
 cases x with
 | ref k g=>simp [Qfg] at hp;subst hp;exact one _ h (Qj1 hg h ho)
 | ptr o g i=>simp [Qfg] at hp;subst hp;exact one _ h (Qj1 hg h ho)
 | own k g e sz es=>simp [Qfg] at hp;subst hp;exact one _ h (Qcu h.1 rfl)
 | ag xs=>
  simp [Qfg] at hp;subst hp
  obtain ⟨ys,rfl,hl,hr⟩:=h
  refine ⟨by simp [Value.cells,hl],fun i hi=>⟨ys[i]'(by omega),by simp [Value.cells,show i<ys.length by omega],hr i hi (by omega)⟩⟩
 | val y=>
  cases hq:Qbs (.val y) with
  | none=>simp [Qfg,hq] at hp
  | some l=>simp [Qfg,hq] at hp;exact plainv h hq hp.symm
 | elp=>simp [Qfg,Qbs] at hp
 | vw=>simp [Qfg,Qbs] at hp
 | cp=>simp [Qfg,Qbs] at hp
 | pv=>simp [Qfg,Qbs] at hp
 | nv=>simp [Qfg,Qbs] at hp
 | fn=>simp [Qfg,Qbs] at hp
def Qef (cs:List AV) (off:Nat) (vs:List AV):List AV:=cs.take off++vs++cs.drop (off+vs.length)
def Qp3 (place:Nat→Option (Nat × Nat)):List AV→List (Nat × AV)→Option (List AV)
 | cs,[]=>some cs
 | cs,(i,x)::rest=>match place i,Qfg x with
  | some (off,size),some vs=>if vs.length=size∧off+size≤cs.length then Qp3 place (Qef cs off vs) rest else none
  | _,_=>none
theorem Qon (hg:Gm C E σ a w) (place:Nat→Option (Nat × Nat)):∀ (parts:List (Nat × Operand)) (cs cs':List AV) (cells:Array Value),cells.size=cs.length→(∀ i (hi:i<cs.length),∃ u,cells[i]? = some u∧RdP E σ cs[i] u)→Qm3 σ (parts.map fun p=>(p.1,ev σ p.2)) →
  Qp3 place cs (parts.map fun p=>(p.1,ev σ p.2))=some cs'→∃ cells',Instr.fill place cells (parts.map fun p=>(p.1,a.eval p.2))=some cells'∧cells'.size=cs'.length∧∀ i (hi:i<cs'.length),∃ u,cells'[i]? = some u∧RdP E σ cs'[i] u
 | [],cs,cs',cells,hl,hr,_,h=>by simp [Qp3] at h;subst h;exact ⟨cells,rfl,hl,hr⟩
 | (i,x)::rest,cs,cs',cells,hl,hr,ho,h=>by
  obtain ⟨ho1,ho2⟩:Qm2 σ (ev σ x)∧Qm3 σ (rest.map fun p=>(p.1,ev σ p.2)):=by rw [List.map_cons] at ho;exact ho
  simp only [List.map_cons,Qp3] at h
  split at h
  ·rename_i off size vs hp hv
   split at h
   ·rename_i hc
    obtain ⟨h1,h2⟩:=Qwp hg (Qax hg x) hv ho1
    obtain ⟨Qc1,hcells1⟩:∃ c,c=(a.eval x).cells.zipIdx.foldl (fun cs (c,j)=>cs.setIfInBounds (off+j) c) cells:=⟨_,rfl⟩
    have htl:Qc1.toList=cells.toList.take off++(a.eval x).cells.toList++cells.toList.drop (off+(a.eval x).cells.toList.length):=by
     have h3:=Qe6 off (a.eval x).cells.toList 0 cells (by simp;omega)
     rw [Nat.add_zero] at h3
     rw [hcells1,←h3,←Array.foldl_toList,Array.toList_zipIdx]
    have hlen:Qc1.size=(Qef cs off vs).length:=by
     rw [←Array.length_toList,htl]
     simp [Qef];omega
    have hrest:∀ j (hj:j<(Qef cs off vs).length),∃ u,Qc1[j]? = some u∧RdP E σ (Qef cs off vs)[j] u:=by
     intro j hj
     have hcl:∀ j:Nat,Qc1[j]? = Qc1.toList[j]?:=fun j=>by rw [Array.getElem?_toList]
     rw [hcl,htl]
     simp only [Qef] at hj ⊢
     by_cases c1:j<off
     ·obtain ⟨u,hu,hru⟩:=hr j (by omega)
      refine ⟨u,?_,?_⟩
      ·rw [List.append_assoc,List.getElem?_append_left (by simp;omega),List.getElem?_take_of_lt c1];simpa using hu
      ·rw [List.getElem_append_left (by simp;omega),List.getElem_append_left (by simp;omega),List.getElem_take];exact hru
     ·by_cases c2:j<off+vs.length
      ·obtain ⟨u,hu,hru⟩:=h2 (j-off) (by omega)
       refine ⟨u,?_,?_⟩
       ·rw [List.getElem?_append_left (by simp;omega),List.getElem?_append_right (by simp;omega),show j-(cells.toList.take off).length=j-off by simp;omega];simpa using hu
       ·rw [List.getElem_append_left (by simp;omega),List.getElem_append_right (by simp;omega)]
        have:j-(cs.take off).length=j-off:=by simp;omega
        simp only [this];exact hru
      ·have hj':j<cs.length:=by simp at hj;omega
       obtain ⟨u,hu,hru⟩:=hr j hj'
       refine ⟨u,?_,?_⟩
       ·rw [List.getElem?_append_right (by simp;omega),List.getElem?_drop]
        rw [show off+(a.eval x).cells.toList.length+(j-(cells.toList.take off++(a.eval x).cells.toList).length)=j by simp;omega]
        simpa using hu
       ·rw [List.getElem_append_right (by simp;omega),List.getElem_drop]
        have:off+vs.length+(j-(cs.take off++vs).length)=j:=by simp;omega
        simp only [this];exact hru
    obtain ⟨cells',h4,h5,h6⟩:=Qon hg place rest (Qef cs off vs) cs' Qc1 hlen hrest ho2 h
    refine ⟨cells',?_,h5,h6⟩
    simp only [List.map_cons,Instr.fill,hp]
    rw [if_neg (by simp;omega),←hcells1]
    exact h4
   ·cases h
  ·cases h
theorem QCl {cs:List AV} {cells:Array Value} (h1:cells.size=cs.length) (h2:∀ i (hi:i<cs.length),∃ u,cells[i]? = some u∧RdP E σ cs[i] u):RdA E σ (.ag cs) (.agg cells):=by
 refine ⟨cells.toList,by simp,by simpa using h1,fun i hi hi2=>?_⟩
 obtain ⟨u,hu,hr⟩:=h2 i hi
 have hi3:i<cells.size:=by simpa using hi2
 rw [Array.getElem?_eq_getElem hi3] at hu
 have e:cells.toList[i]=u:=by rw [Array.getElem_toList];exact Option.some.inj hu
 rw [e]
 exact hr
def Qhu (P:Program) (σ:St) (d:Tmp) (t:TypeId) (parts:List (Nat × Operand)):Stp:=
 match Qao P t with
 | some { sh:=.strct,fields:=fs,fok:=true,zero:=z,zok:=true,.. }=>match Qp3 (Qfv fs) (z.map fun v=>.val (.sc v)) (evs σ parts) with
  | some cs=>some (Qm3 σ (evs σ parts),Qu2 parts++QlO σ parts,[(.s d,.av (.ag cs))])
  | none=>none
 | _=>none
theorem QsU (d:Tmp) (t:TypeId) (parts:List (Nat × Operand)):Qbl P C σ (some d) (.build t parts.toArray) (Qhu P σ d t parts):=by
 unfold Qhu
 split
 ·rename_i z e0 fs ht
  split
  ·rename_i cs hcs
   refine Qar fun hc ty pos af E σ' a w hr hg=>?_
   obtain ⟨it,dt,hit,hdt,_,_,_,_,_,_,_,_,hst,_,_,_,hfok,_⟩:=Qak ht
   obtain ⟨F,rfl,hF⟩:=hst rfl
   have hF:fs=_:=hF
   have hfok:=hfok.symm
   simp only at hfok
   obtain ⟨zv,hzv,hz⟩:=Qhr ht rfl w
   have hz:zv.cells.toList=z:=hz
   have hall:∀ f∈F.toList,(P.info? f.type).isSome=true:=fun f hf=>by simpa using List.all_eq_true.1 hfok f hf
   have hpl:(F.mapM fun f=>(do pure (f.offset,←sizeOf f.type):Sem (Nat × Nat))).run P w=.ok (F.toList.map fun f=>(f.offset,((P.info? f.type).map (·.size)).getD 0)).toArray w:=by
    have hmp:=Qe7 (P:=P) w F.toList hall
    rw [Array.mapM_eq_mapM_toList,Sem.run_map,hmp]
    rfl
   obtain ⟨hr,hr2⟩:=Qaq hr
   have hc:=Qiy (l:=parts) hr hr2 hc
   rw [←Qj3 hr] at hcs
   obtain ⟨cells',h1,h2,h3⟩:=Qon hg (Qfv fs) parts (z.map fun v=>.val (.sc v)) cs zv.cells (by rw [←hz];simp) (fun i hi=>by
    simp at hi
    rw [←hz] at hi
    refine ⟨zv.cells[i]'(by simpa using hi),by simp at hi;simp [hi],?_⟩
    simp [←hz];exact Rd.sc _) hc hcs
   refine ⟨.agg cells',?_,QCl h2 h3⟩
   have hpf:(fun i=>(F.toList.map fun f=>(f.offset,((P.info? f.type).map (·.size)).getD 0)).toArray[i]?)=Qfv fs:=by
    funext i
    simp only [Qfv,hF,List.getElem?_toArray,List.getElem?_map,Option.map_map]
    rfl
   have hmap:(List.map (fun p=>(p.1,a.eval p.2)) parts).toArray.toList=parts.map fun p=>(p.1,a.eval p.2):=by simp
   have hb:(Instr.build t (List.map (fun p=>(p.1,a.eval p.2)) parts).toArray).run P w=.ok (.agg cells') w:=by
    unfold Instr.build
    simp only [Sem.run_bind,hzv,run_underlying hdt,Result.andThen_ok,hpl,hpf,hmap,h1,Sem.run_pure]
   simp only [execOp,List.map_toArray,Sem.run_bind,hb,Result.andThen_ok,Sem.run_pure]
  ·intro _ _ _ h;cases h
 ·intro _ _ _ h;cases h
def Qoo (σ:St) (d:Tmp) (x:Operand):Stp:=
 match ev σ x with
 | .ag xs=>some (True,.g (d,0)::rdl x,QxH (d,0) (gg σ (d,0)) xs.length xs++[(.s d,.av (.ptr (d,0) (gg σ (d,0)+1) 0))])
 | _=>none
theorem QzA (d:Tmp) (t:TypeId) (x:Operand):Qbl P C σ (some d) (.box t x) (Qoo σ d x):=by
 unfold Qoo
 split
 ·rename_i xs hx
  refine QaV fun hc ty pos af E σ' a w hr hg hd=>?_
  have h5:=Qax hg x
  rw [Qae (fun l hl=>hr l (by simp [hl])),hx] at h5
  obtain ⟨ys,hv,hl,hrd⟩:=h5
  obtain ⟨E',h1,h2,h3⟩:=hg.object (d,0) (gg σ (d,0)) (Qaz (hr _ (by simp))) t ys.toArray xs (by simpa using hl) (fun i hi=>by
   have:=hrd i hi (by omega)
   simpa using this.toA) (C.np d hd) rfl
  exact ⟨.pointer (some ⟨w.heap.size,0,none⟩),_,E',by simp [execOp,hv,Instr.box,Value.cells,newVar,newRow,newObj];rfl,h1,h3⟩
 ·intro _ _ _ h;cases h
end
attribute [go_sem] Qhu Qoo Qp3 Qfg Qef Qm3 Qm2 QlO
section
variable {P:Program} {ops:Array Oper} {C:Ctx} {σ:St} {md:Bool} {K:St→List FP→Prop} {acc:List FP} {rest:List Oper}
theorem QsV {d:Tmp} {t:TypeId} {ps:List (Nat × Operand)} {ty:TypeId} {pos:String} {af:Array Edge} {c:Prop} {L:List Pl} {W:List (Pl × X)} (h:Qhu P σ d t ps=some (c,L,W)) (hc:c)
 (k:Run P ops C md K rest (Qaf σ W) ((L,QcP W)::acc)):Run P ops C md K (⟨some d,.build t ps.toArray,ty,pos,af,none⟩::rest) σ acc:=QaQ (QsU d t ps c L W h hc ops ty pos af) k
theorem QsW {d:Tmp} {t:TypeId} {x:Operand} {ty:TypeId} {pos:String} {af:Array Edge} {c:Prop} {L:List Pl} {W:List (Pl × X)} (h:Qoo σ d x=some (c,L,W)) (hc:c)
 (k:Qb7 P ops C md K rest (Qaf σ W) ((L,QcP W)::acc)):Run P ops C md K (⟨some d,.box t x,ty,pos,af,none⟩::rest) σ acc:=Qde (QzA d t x) h hc k
end
end Go.Proofs.YthfocmakkeonoaaGreatDoor
