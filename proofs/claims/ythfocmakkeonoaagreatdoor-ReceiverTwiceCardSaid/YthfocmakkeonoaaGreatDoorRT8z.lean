/- Rows that change, their room known: room told, made longer, put behind in place, zeros behind a part in a new row, a copy cut short, bounds looked at. -/
import Derived.Test.YthfocmakkeonoaaGreatDoorRT7z
import Derived.Lib.AppendZerosOnto
set_option linter.unusedVariables false
set_option linter.unusedSimpArgs false
set_option maxRecDepth 100000
set_option maxHeartbeats 16000000
namespace Go.Proofs.YthfocmakkeonoaaGreatDoor
open Go.RowKit
section
variable {P:Program} {ops:Array Oper} {C:Ctx} {E:Env} {σ:St} {a:Act} {w:World}
def QpD (σ:St) (d:Tmp):Option (Id × Nat × Nat):=match σ (.s d) with | .av (.cp k g c)=>some (k,g,c) | _=>none
theorem QBy {d:Tmp} {k:Id} {g c:Nat} (h:QpD σ d=some (k,g,c)):σ (.s d)=.av (.cp k g c):=by
 unfold QpD at h
 split at h
 ·rename_i k' g' c' h0;cases h;exact h0
 ·cases h
theorem QrK {d:Tmp} {k:Id} {g c:Nat} (hg:Gm C E σ a w) (h:QpD σ d=some (k,g,c)) (hc:gh σ k=g):Qfq (E.bv k)=c:=(hg.sl d _ (QBy h)).2 hc.symm
theorem Qgv {σ':St} {d:Tmp} (h:σ' (.s d)=σ (.s d)):QpD σ' d=QpD σ d:=by unfold QpD;rw [h]
def QrL (P:Program) (σ:St) (d:Tmp) (t:TypeId) (x:Operand):Stp:=
 match QpD σ d,ev σ x with
 | some (k,g,c),.ref k' g'=>some (k'=k∧g'=g∧gh σ k=g∧(Qao P t).map (·.sh)=some .slice∧(match σ (.r k) with | .tree (.rw _ _ _)=>True | _=>False),[.s d,.h k,.r k]++rdl x,[(.s d,.av (.val (.sc (.int .i64 c))))])
 | _,_=>none
theorem QBz (d:Tmp) (t:TypeId) (x:Operand):Qbl P C σ (some d) (.call { callee:=.builtin .cap,args:=#[x],argTypes:=#[t] }) (QrL P σ d t x):=by
 unfold QrL
 split
 ·rename_i k g c k' g' hd hx
  refine Qar fun hc ty pos af E σ' a w hr hg=>⟨_,?_,Rd.sc _⟩
  obtain ⟨rfl,rfl,c1,c2,c3⟩:=hc
  obtain ⟨h1,h2⟩:=Qaq hr
  have hgk:gh σ' k'=g':=by rw [QaL (h1 (.h k') (by simp))];exact c1
  have hcap:=QrK hg (by rw [Qgv (h1 (.s d) (by simp))];exact hd) hgk
  have hv:=Qax hg x
  rw [Qae h2,hx] at hv
  have hv:=hv.2 hgk.symm
  obtain ⟨e,he⟩:=QbM c2
  split at c3
  ·rename_i e0 sz es hr0
   obtain ⟨us,q1,_⟩:=Qbu hg (by rw [h1 (.r k') (by simp)];exact hr0)
   rcases QrG q1 with ⟨p1,p2⟩ | ⟨b,cap,p1,p2⟩
   ·rw [p1] at hv hcap
    simp only [Qfq] at hcap
    subst hcap
    simp [execOp,resolve,invoke,builtin,hv,Builtin.cap_,run_underlying he,goInt]
   ·rw [p1] at hv hcap
    simp only [Qfq] at hcap
    subst hcap
    simp [execOp,resolve,invoke,builtin,hv,Builtin.cap_,run_underlying he,goInt]
  ·exact c3.elim
 ·intro _ _ _ h;cases h
theorem QpE {e:TypeId} {sz n n':Nat} {v:Value} {us:List Value} (h:w.ownsRow 0 e sz v n us) (hn:n≤n') (hc:n'≤Qfq v) :
  ∃ A c us',v=.slice A n c∧n'≤c∧(A=none∧c=0∨∃ b,A=some ⟨b,0,none⟩)∧w.ownsRow 0 e sz (.slice A n' c) n' us'∧us'.take (n * sz)=us:=by
 have hmul:n * sz≤n' * sz:=Nat.mul_le_mul_right _ hn
 rcases h.2 with ⟨rfl,rfl⟩ | ⟨g,cap,cur,rfl,h0,hg,hnc,hcm,hcs,htake⟩
 ·simp only [Qfq] at hc
  obtain rfl:n'=0:=by omega
  exact ⟨none,0,[],rfl,Nat.le_refl _,.inl ⟨rfl,rfl⟩,⟨by simp,.inl ⟨rfl,rfl⟩⟩,by have:=h.1;simp at this;simp [this]⟩
 ·simp only [Qfq] at hc
  have hcl:cur.toList.length=cap * sz:=by simpa using hcs
  have hm2:n' * sz≤cap * sz:=Nat.mul_le_mul_right _ hc
  refine ⟨some ⟨g,0,none⟩,cap,cur.toList.take (n' * sz),rfl,hc,.inr ⟨g,rfl⟩,⟨?_,.inr ⟨g,cap,cur,rfl,h0,hg,hc,hcm,hcs,rfl⟩⟩,?_⟩
  ·rw [List.length_take];omega
  ·rw [List.take_take,Nat.min_eq_left hmul];exact htake
def longer (es:List (List V)) (sz h:Nat):List (List V):=es++List.replicate (h-es.length) (List.replicate sz .any)
theorem Qgw {es:List (List V)} {sz h:Nat} (hh:es.length≤h):(longer es sz h).length=h:=by unfold longer;simp;omega
theorem QrM {m:Mem} {es:List (List V)} {sz h:Nat} {us us':List Value} (hh:es.length≤h) (hz:∀ r∈es,r.length=sz) (hul:us'.length=h * sz) (ht:us'.take (es.length * sz)=us)
  (hr:∀ i j (hi:i<es.length) (hj:j<es[i].length),∃ u,us[i * sz+j]? = some u∧Rd m (es[i][j]) u) :
  (∀ r∈longer es sz h,r.length=sz)∧∀ i j (hi:i<(longer es sz h).length) (hj:j<(longer es sz h)[i].length),∃ u,us'[i * sz+j]? = some u∧Rd m ((longer es sz h)[i][j]) u:=by
 have hz':∀ r∈longer es sz h,r.length=sz:=fun r h1=>by
  unfold longer at h1
  rcases List.mem_append.1 h1 with h2 | h2
  ·exact hz r h2
  ·rw [(List.mem_replicate.1 h2).2];simp
 refine ⟨hz',fun i j hi hj=>?_⟩
 have hjs:j<sz:=by rw [←hz' _ (List.getElem_mem hi)];exact hj
 have hil:i<h:=by rw [Qgw hh] at hi;exact hi
 by_cases hi2:i<es.length
 ·have e1:(longer es sz h)[i]=es[i]:=by simp [longer,hi2]
  have hj2:j<es[i].length:=by rw [←e1];exact hj
  obtain ⟨u,r1,r2⟩:=hr i j hi2 hj2
  have hlt:i * sz+j<es.length * sz:=by
   have:(i+1) * sz≤es.length * sz:=Nat.mul_le_mul_right _ (by omega)
   rw [Nat.add_mul] at this;omega
  refine ⟨u,?_,by simp only [e1];exact r2⟩
  rw [←ht,List.getElem?_take,if_pos hlt] at r1
  exact r1
 ·have e1:(longer es sz h)[i]=List.replicate sz .any:=by simp [longer,List.getElem_append_right (Nat.le_of_not_lt hi2)]
  have hlt:i * sz+j<h * sz:=by
   have:(i+1) * sz≤h * sz:=Nat.mul_le_mul_right _ (by omega)
   rw [Nat.add_mul] at this;omega
  refine ⟨us'[i * sz+j]'(by omega),List.getElem?_eq_getElem _,?_⟩
  have:(longer es sz h)[i][j]=.any:=by simp only [e1];simp
  rw [this]
  exact Rd.any _
def QfO (P:Program) (σ:St) (d:Tmp) (t:TypeId) (x:Operand) (lo hi mx:Option Operand):Stp:=
 match QpD σ d,lo,QbN σ hi,mx with
 | some (k,g,c),none,some (some h),none=>match Qao P t,ev σ x with
  | some { sh:=.slice,elem:=e,.. },.ref k' g'=>match σ (.r k) with
   | .tree (.rw e' sz es)=>some ((Qao P e).map (·.size)=some sz∧k'=k∧g'=g∧gh σ k=g∧(es.length:Int)≤h∧h≤c,[.s d,.h k,.g k,.r k]++(rdl x++bl hi),
    Qcw σ k (.rw e' sz (longer es sz h.toNat))++[(.s d,.av (.ref k (gh σ k+1)))])
   | _=>none
  | _,_=>none
 | _,_,_,_=>none
theorem QrN (d:Tmp) (t:TypeId) (x:Operand) (lo hi mx:Option Operand):Qbl P C σ (some d) (.slice t x lo hi mx) (QfO P σ d t x lo hi mx):=by
 unfold QfO
 split
 ·rename_i k g c h hd hh
  split
  ·rename_i e _ _ _ k' g' ht hx
   split
   ·rename_i e' sz es hr
    refine QaV (W0:=Qcw σ k (.rw e' sz (longer es sz h.toNat))) fun hc ty pos af E σ' a w hr0 hg hd0=>?_
    obtain ⟨c0,rfl,rfl,c1,c2,c3⟩:=hc
    obtain ⟨h1,h2⟩:=Qaq hr0
    obtain ⟨h2,h3⟩:=Qaq h2
    obtain ⟨it,dt,_,hdt,_,_,_,hsl,_⟩:=Qak ht
    have hsl:dt=.slice e:=hsl rfl
    subst hsl
    have hse:(sizeOf e).run P w=.ok sz w:=by
     cases hte:Qao P e with
     | none=>rw [hte] at c0;cases c0
     | some T=>rw [hte] at c0;simp at c0;rw [QaH hte,c0]
    have e0:Qcw σ k' (.rw e' sz (longer es sz h.toNat))=Qcw σ' k' (.rw e' sz (longer es sz h.toNat)):=(Qe9 (h1 _ (by simp)) (h1 _ (by simp))).symm
    have e1:gh σ k'=gh σ' k':=(QaL (h1 (.h k') (by simp))).symm
    have hk':σ' (.r k')=.tree (.rw e' sz es):=by rw [h1 _ (by simp)];exact hr
    have hvs:=Qax hg x
    rw [Qae h2,hx] at hvs
    have hvs:=hvs.2 (by rw [←e1];exact c1.symm)
    have hcap:=QrK hg (by rw [Qgv (h1 (.s d) (by simp))];exact hd) (by rw [←e1];exact c1)
    obtain ⟨us,q1,q2,q3,q4,q5⟩:=Qbu hg hk'
    obtain ⟨n',hn'⟩:∃ n',n'=h.toNat:=⟨_,rfl⟩
    have hnl:es.length≤n':=by omega
    obtain ⟨A,cc,us',hA,hcc,hA2,hown,htk⟩:=QpE q1 hnl (by rw [hcap];omega)
    obtain ⟨k2,b2⟩:=Qa9 hh h3 hg
    have hb:=Qcx (P:=P) (n:=es.length) (cap:=cc) (k:=.i64) (k':=k2) (k'':=k2) (lo:=none) (hi:=some h) (by omega) (by simp [Qdz]) (by simp [Qdz,Qdl];omega) (by simp [Qdl];omega) w
    obtain ⟨l1,l2⟩:=QrM (h:=n') hnl q2 hown.1 htk q3
    have hob:(Value.slice A n' cc).ownBlock=(E.bv k').ownBlock:=by rw [hA];rcases hA2 with ⟨rfl,_⟩ | ⟨b,rfl⟩ <;> rfl
    have hll:=Qgw (sz:=sz) hnl
    have hh2:Hg E.m w [.rw e' sz (longer es sz n')] [.slice A n' cc] (Value.slice A n' cc).ownBlock.toList:=Qkc (by rw [hll];exact hown) l1 l2 (fun b hb=>by rw [hob] at hb;exact q4 b hb)
    obtain ⟨E',g1,g2,g3,g4⟩:=hg.newT k' _ _ (.slice A n' cc) _ w hk' (fun y h=>by cases h) (fun ys h=>by cases h) hh2 (fun b hb=>.inl (by rw [q5,←hob];exact hb)) (Chg.refl _ _)
    rw [e0,e1,←hn']
    refine ⟨.slice A n' cc,w,E',?_,g1,g4⟩
    simp only [Qdl,Qdz,Option.getD_some,Option.getD_none,←hn',Int.toNat_zero,Option.map_none,Option.map_some] at hb b2
    rw [hA] at hvs
    rcases hA2 with ⟨rfl,rfl⟩ | ⟨b,rfl⟩ <;> simp [execOp,hvs,b2,Instr.sliceAt,Instr.slice,run_underlying hdt,hb,hse,QaF]
   ·intro _ _ _ h;cases h
  ·intro _ _ _ h;cases h
 ·intro _ _ _ h;cases h
theorem QmI (hg:Gm C E σ a w) {k:Id} {e:TypeId} {sz:Nat} {es:List (List V)} (hr:σ (.r k)=.tree (.rw e sz es)) (hl:∀ i y,σ (.l k)≠.lent i y) {b:Nat} (hb:(E.bv k).ownBlock=some b) {p:Nat} {ys:List Value} (es':List (List V))
  (hp:p+ys.length≤es.length * sz) (h1:∀ y∈ys,y.oneCell'=true) (hn:es'.length=es.length) (hz:∀ r∈es',r.length=sz)
  (hrd:∀ us:List Value,us.length=es.length * sz→(∀ i j (hi:i<es.length) (hj:j<es[i].length),∃ u,us[i * sz+j]? = some u∧Rd E.m (es[i][j]) u) →
   ∀ i j (hi:i<es'.length) (hj:j<es'[i].length),∃ u,(us.take p++ys++us.drop (p+ys.length))[i * sz+j]? = some u∧Rd E.m (es'[i][j]) u) :
  ∃ w' E',(storeCells ⟨b,p,none⟩ ys 0).run P w=.ok () w'∧Gm C E' (Qaf σ (QaR σ k (.rw e sz es'))) a w'∧(∃ cap,E.bv k=.slice (some ⟨b,0,none⟩) es.length cap)∧Mo E σ E' (Qaf σ (QaR σ k (.rw e sz es')))∧E'.bv k=E.bv k:=by
 obtain ⟨us,q1,q2,q3,q4,q5⟩:=Qbu hg hr
 obtain ⟨w',r1,r2,r3,r4⟩:=Qln q1 hb hp h1
 have hh:Hg E.m w' [.rw e sz es'] [E.bv k] (E.bv k).ownBlock.toList:=Qkc (by rw [hn];exact r2) hz (hrd us q1.1 q3) q4
 have hbF:b∈E.bf k:=by rw [q5,hb];simp
 obtain ⟨E',g1,g2,_,g4⟩:=hg.setT k _ _ _ w' hr (fun ys h=>by cases h) (fun y h=>by cases h) (fun ys h=>by cases h) hh (fun i hi=>.inl (by rw [q5];exact hi)) (r3.mono fun i _ hi=>by rw [hi];exact hbF) (fun i y h=>absurd h (hl i y))
 exact ⟨w',E',r1 P,g1,r4,g2,g4⟩
theorem QdE (t tx ty e:TypeId) (i:TypeInfo) (ht:P.underlying t=some (.slice e)) (hi:P.info? e=some i) (base:Option Addr) (sLen sCap:Nat) (x:Value) (n:Nat) (news:List Value) (hs:Src P i.size tx x n news w)
  (hroom:sLen+n≤sCap) (w':World) (hst:∀ b,base=some b→(storeCells (b.add (sLen * i.size)) news 0).run P w=.ok () w') (hn:base=none→w'=w) :
  (Builtin.append_ #[t,tx] ty #[.slice base sLen sCap,x]).run P w=.ok (.slice base (sLen+n) sCap) w':=by
 cases base with
 | none=>
  rw [hn rfl]
  rcases hs.kind with ⟨e',hk⟩ | hk <;> simp [Builtin.append_,run_underlying ht,run_underlying hk,sizeOf,typeInfo,hi,hs.len,hroom,hs.cells]
 | some b=>
  have hst:=hst b rfl
  rcases hs.kind with ⟨e',hk⟩ | hk <;> simp [Builtin.append_,run_underlying ht,run_underlying hk,sizeOf,typeInfo,hi,hs.len,hroom,hs.cells,hst]
def Qd9 (P:Program) (σ:St) (d:Tmp) (t tx:TypeId) (s x:Operand):Stp:=
 match QpD σ d,Qao P t,Qgu σ (ev σ s) with
 | some _,some { sh:=.slice,elem:=e,.. },some (k,g,sz0,0,len)=>match σ (.r k),Qkd σ (ev σ x) with
  | .tree (.rw e' sz old),some new=>some (len+new.length≤old.length∧sz0=sz∧(Qao P e).map (·.size)=some sz∧(∀ r∈new,r.length=sz)∧(∀ r∈new,∀ y∈r,Qfn y=true) ∧
    (if Qcf (ev σ x) then (Qao P tx).map (·.sh)=some .slice else (Qao P tx).map (·.sh)=some .str∧sz=1)∧Qvz σ (ev σ x)∧gh σ k=g∧Qh7 (σ (.l k)),
   [.s d,.g k,.l k]++(vwL (ev σ s)++(vwL (ev σ x)++(rdl s++rdl x))),QaR σ k (.rw e' sz (old.take len++new++old.drop (len+new.length)))++[(.s d,.av (.vw k g sz 0 (len+new.length)))])
  | _,_=>none
 | _,_,_=>none
theorem QpF (d:Tmp) (t tx:TypeId) (s x:Operand):Qbl P C σ (some d) (.call { callee:=.builtin .append,args:=#[s,x],argTypes:=#[t,tx] }) (Qd9 P σ d t tx s x):=by
 unfold Qd9
 split
 ·rename_i _ e _ _ _ k g sz0 len _ ht hs
  split
  ·rename_i e' sz old new hr hnew
   refine QaV (W0:=QaR σ k (.rw e' sz (old.take len++new++old.drop (len+new.length)))) fun hc ty pos af E σ' a w hr0 hg hd=>?_
   obtain ⟨c2,rfl,c3,c4,c5,c6,c7,c8,c9⟩:=hc
   obtain ⟨h0,h1⟩:=Qaq hr0
   obtain ⟨h1,h2⟩:=Qaq h1
   obtain ⟨h2,h3⟩:=Qaq h2
   obtain ⟨h3,h4⟩:=Qaq h3
   obtain ⟨it,dt,_,hdt,_,_,_,hsl,_⟩:=Qak ht
   have hsl:dt=.slice e:=hsl rfl
   subst hsl
   obtain ⟨ie,hie,hsi⟩:∃ ie,P.info? e=some ie∧ie.size=sz0:=by
    cases hte:Qao P e with
    | none=>rw [hte] at c3;cases c3
    | some T=>obtain ⟨ie,de,hie,hde,hsz,_⟩:=Qak hte;rw [hte] at c3;simp at c3;exact ⟨ie,hie,by rw [←hsz,c3]⟩
   subst hsi
   have hin:=QdD hs
   have hk':σ' (.r k)=.tree (.rw e' ie.size old):=by rw [h1 (.r k) (by rw [hin];simp)];exact hr
   have hgh:gh σ' k=gh σ k:=QaL (h1 (.h k) (by rw [hin];simp))
   have hl':∀ i y,σ' (.l k)≠.lent i y:=by rw [h0 (.l k) (by simp)];exact Qd8 c9
   have hvs:=Qax hg s
   rw [Qae h3] at hvs
   have hvx:=Qax hg x
   rw [Qae h4] at hvx
   obtain ⟨s1,s2⟩:=Qey h2
   obtain ⟨us,q1,q2,q3,q4,q5,q6⟩:=Qdo hg hvs (by rw [Qbr h1];exact hs) (by rw [hgh];exact c8) hk'
   obtain ⟨news,hsrc,hnr⟩:=Qke (P:=P) (tx:=tx) hg hvx (by rw [s1];exact hnew) (s2.2 c7) c4 c5 (by
    split
    ·rename_i hb;rw [if_pos hb] at c6;exact QbM c6
    ·rename_i hb;rw [if_neg hb] at c6;exact ⟨QeU c6.1,c6.2⟩)
   have hnl:=hsrc.newsLen
   have e0:QaR σ k (.rw e' ie.size (old.take len++new++old.drop (len+new.length)))=QaR σ' k (.rw e' ie.size (old.take len++new++old.drop (len+new.length))):=by unfold QaR;rw [Qaz (h0 (.g k) (by simp))]
   have hlen:(old.take len++new++old.drop (len+new.length)).length=old.length:=by simp only [List.length_append,List.length_take,List.length_drop];omega
   obtain ⟨hz,_⟩:=QeY (off:=len) q2 q1.1 q3 hnl (by omega) c4 hnr
   have same:new=[]→old.take len++new++old.drop (len+new.length)=old:=by rintro rfl;simp
   have hghs:∀ y,gh (Qaf σ' (QaR σ' k y)) k=gh σ' k:=fun y=>QaL (by simp [QaR,Qaf,put])
   rw [e0]
   by_cases hn0:new=[]
   ·have hsame:=same hn0
    rw [hsame]
    obtain ⟨E',g1,g2,_,g4⟩:=hg.setT k _ (.rw e' ie.size old) _ w hk' (fun ys h=>by cases h) (fun y h=>by cases h) (fun ys h=>by cases h) (hg.tr.hg k _ hk').1 (fun b hb=>.inl hb) (Chg.refl _ _) (fun i y h=>absurd h (hl' i y))
    have hnews:news=[]:=List.eq_nil_of_length_eq_zero (by rw [hnl,hn0];simp)
    subst hn0
    subst hnews
    rcases q6 with ⟨r1,r2,r3,r4,r5⟩ | ⟨b,cap,o,r1,r2,r3,r4,r5⟩
    ·subst r4
     have hrun:=QdE (P:=P) (w:=w) t tx ty e ie hdt hie none 0 0 _ _ [] hsrc (by simp) w (fun g hg=>by cases hg) (fun _=>rfl)
     refine ⟨.slice none 0 0,w,E',by simp at hrun;simp [execOp,resolve,invoke,builtin,r3,hrun],g1,?_,fun _=>?_⟩
     ·rw [hghs,hgh];exact Nat.le_of_eq c8.symm
     ·rw [g4];exact .inl ⟨r1,rfl,rfl,rfl⟩
    ·obtain rfl:=r5 rfl
     have hrun:=QdE (P:=P) (w:=w) t tx ty e ie hdt hie (some ⟨b,0,none⟩) len (cap-0) _ _ [] hsrc (by simp at c2 ⊢;omega) w (fun g hg=>by simp [storeCells]) (fun h=>by cases h)
     refine ⟨.slice (some ⟨b,0,none⟩) (len+0) (cap-0),w,E',by simp at hrun;simp [execOp,resolve,invoke,builtin,r3,hrun],g1,?_,fun _=>?_⟩
     ·rw [hghs,hgh];exact Nat.le_of_eq c8.symm
     ·rw [g4];exact .inr ⟨b,old.length,cap,0,r1,rfl,fun _=>by simp,fun _=>rfl⟩
   ·have hn1:0<new.length:=List.length_pos_iff.2 hn0
    rcases q6 with ⟨r1,r2,r3,r4,r5⟩ | ⟨b,cap,o,r1,r2,r3,r4,r5⟩
    ·omega
    ·obtain rfl:=r5 rfl
     have hob:(E.bv k).ownBlock=some b:=by rw [r1];rfl
     have hmul:len * ie.size+news.length≤old.length * ie.size:=by rw [hnl,←Nat.add_mul];exact Nat.mul_le_mul_right _ (by omega)
     obtain ⟨w',E',t1,t2,⟨cap',t3⟩,t4,t5⟩:=QmI (P:=P) hg hk' hl' hob (p:=len * ie.size) (ys:=news) (old.take len++new++old.drop (len+new.length)) hmul hsrc.one hlen hz (fun us' u1 u3=>(QeY (off:=len) q2 u1 u3 hnl (by omega) c4 hnr).2)
     have hrun:=QdE (P:=P) (w:=w) t tx ty e ie hdt hie (some ⟨b,0,none⟩) len (cap-0) _ _ news hsrc (by omega) w' (fun g hg=>by cases hg;rw [QaF,Nat.zero_add];exact t1) (fun h=>by cases h)
     refine ⟨.slice (some ⟨b,0,none⟩) (len+new.length) (cap-0),w',E',by simp at hrun;simp [execOp,resolve,invoke,builtin,r3,hrun],t2,?_,fun _=>?_⟩
     ·rw [hghs,hgh];exact Nat.le_of_eq c8.symm
     ·rw [t5];exact .inr ⟨b,old.length,cap,0,r1,rfl,fun _=>by simp,fun _=>rfl⟩
  ·intro _ _ _ h;cases h
 ·intro _ _ _ h;cases h
def Qn2 (P:Program) (t:TypeId):Prop:=match (Qao P t).map TI.sh with | some (Sh.int _)=>True | _=>False
def Qea (P:Program) (σ:St) (d:Tmp) (t tx:TypeId) (s x:Operand):Stp:=
 match Qhq σ x with
 | some (.int ik n)=>match QpD σ d,Qao P t,ev σ s with
  | some (k,g,c),some { sh:=.slice,elem:=e,.. },.vw k' g' sz0 0 len=>match σ (.r k),Qao P e with
   | .tree (.rw e' sz' old),some { size:=sz,bytes:=by_,zero:=z,zok:=true,.. }=>
    some (k'=k∧g'=g∧gh σ k=g∧sz0=sz∧sz'=sz∧len≤old.length∧0<n∧(c:Int)<len+n∧z.length=sz∧0<sz∧(len+n) * by_≤140737488355328∧(len+n)≤9223372036854775807∧Qn2 P tx,
     [.s d,.h k,.r k,.h (d,1),.g (d,1)]++(rdl s++rdl x),QaA σ (d,1) (.rw e sz (old.take len++List.replicate n.toNat (z.map .sc)))++[(.s d,.av (.ref (d,1) (gh σ (d,1)+1)))])
   | _,_=>none
  | _,_,_=>none
 | _=>none
theorem QBA {t:TypeId} (h:Qn2 P t):∃ k,P.underlying t=some (.int k):=by
 unfold Qn2 at h
 cases hq:Qao P t with
 | none=>rw [hq] at h;exact h.elim
 | some T=>
  rw [hq] at h
  simp only [Option.map_some] at h
  split at h
  ·rename_i ik he
   obtain ⟨it,dt,_,hdt,_,_,_,_,_,_,hk,_⟩:=Qak hq
   exact ⟨ik,by rw [hdt,hk _ (Option.some.inj he)]⟩
  ·exact h.elim
theorem Qfa {σ':St} {k:Id} {x:T} (h1:σ' (.h k)=σ (.h k)) (h2:σ' (.g k)=σ (.g k)):QaA σ' k x=QaA σ k x:=by unfold QaA;rw [Qaz h2,QaL h1]
theorem QpG (d:Tmp) (t tx:TypeId) (s x:Operand):Qbl P C σ (some d) (.call { callee:=.builtin .append,args:=#[s,x],argTypes:=#[t,tx] }) (Qea P σ d t tx s x):=by
 unfold Qea
 split
 ·rename_i ik n hx
  split
  ·rename_i k g c _ e _ _ _ k' g' sz0 len hd ht hs
   split
   ·rename_i e' sz' old _ _ sz by_ z _ _ _ hr hte
    refine QaV (W0:=QaA σ (d,1) (.rw e sz (old.take len++List.replicate n.toNat (z.map .sc)))) fun hc ty pos af E σ' a w hr0 hg hd0=>?_
    obtain ⟨rfl,rfl,c1,rfl,rfl,c2,c3,c4,c5,c6,c7,c8,c9⟩:=hc
    obtain ⟨h1,h2⟩:=Qaq hr0
    obtain ⟨h2,h3⟩:=Qaq h2
    obtain ⟨m,hm⟩:∃ m:Nat,n=m:=⟨n.toNat,by omega⟩
    subst hm
    obtain ⟨it,dt,_,hdt,_,_,_,hsl,_⟩:=Qak ht
    have hsl:dt=.slice e:=hsl rfl
    subst hsl
    obtain ⟨ikn,htn⟩:=QBA c9
    obtain ⟨ie,de,hie,hde,hsz,hby,_,_,_,_,_,_,_,hz,_,_,_,hzk⟩:=Qak hte
    obtain ⟨zv,hzv⟩:=Option.isSome_iff_exists.1 hzk.symm
    have hzz:z=zv.cells.toList:=by rw [hzv] at hz;exact hz
    have hsz:=hsz
    simp only at hsz hby
    subst hsz
    subst hby
    have hk':σ' (.r k')=.tree (.rw e' ie.size old):=by rw [h1 _ (by simp)];exact hr
    have hgk:gh σ' k'=g':=by rw [QaL (h1 (.h k') (by simp))];exact c1
    have hcap:=QrK hg (by rw [Qgv (h1 (.s d) (by simp))];exact hd) hgk
    have hvs:=Qax hg s
    rw [Qae h2] at hvs
    have vx:=QaS hx h3 hg
    obtain ⟨us,q1,q2,q3,q4,q5,q6⟩:=Qdo hg hvs (by rw [hs];rfl) hgk hk'
    have hzs:zv.cells.size=ie.size:=by rw [←c5,hzz];simp
    obtain ⟨t1,t2,t3,t4⟩:=Qdp (off:=0) (len:=len) q2 q1.1 (by omega) q3
    simp only [Nat.zero_mul,List.drop_zero] at t1 t2 t3 t4
    obtain ⟨olds,holds⟩:∃ olds,olds=us.take (len * ie.size):=⟨_,rfl⟩
    rw [←holds] at t1 t4
    simp only [Int.toNat_natCast]
    -- the run
    have hold:∃ base cap,a.eval s=.slice base len cap∧cap<len+m∧(Builtin.firstCells ie.size len (.slice base len cap)).run P w.drew=.ok olds.toArray w.drew:=by
     rcases q6 with ⟨r1,r2,r3,r4,r5⟩ | ⟨b,cap,o,r1,r2,r3,r4,r5⟩
     ·subst r4
      refine ⟨none,0,r3,by omega,?_⟩
      have:olds=[]:=List.eq_nil_of_length_eq_zero (by rw [t1];simp)
      rw [this]
      exact run_firstCells_none w.drew ie.size 0 0 0
     ·obtain rfl:=r5 rfl
      rw [r1] at hcap
      simp only [Qfq] at hcap
      refine ⟨some ⟨b,0,none⟩,cap-0,r3,by omega,?_⟩
      refine run_firstCells_some w.drew ie.size len ⟨b,0,none⟩ len (cap-0) olds t1 fun j u hj=>?_
      rw [holds,List.getElem?_take] at hj
      split at hj
      ·have:=q1.cells (g:=b) (by rw [r1];rfl) j u hj
       simpa using this
      ·cases hj
    obtain ⟨base,cap,he,hcm,hold⟩:=hold
    have hsm:len+m≤9223372036854775807:=by omega
    have hb2:(len+m) * ie.bytes≤140737488355328:=by
     have:((len+m:Nat):Int) * (ie.bytes:Int)≤140737488355328:=by rw [Int.natCast_add];exact c7
     rw [←Int.natCast_mul] at this
     omega
    have hb3:m * ie.bytes≤(len+m) * ie.bytes:=Nat.mul_le_mul_right _ (by omega)
    have hrun:=Lib.run_append_grow_zeros (P:=P) w t tx ty e ie zv ik ikn hdt htn hie hzv base len cap olds hold m (by omega) c6 hcm (by omega) (by omega) (growslice_fits (by omega) hb2)
    have hge:=grownCap_ge w (len+m) cap e
    have hgm:grownCap w (len+m) cap e≤maxLen:=grownCap_le_maxLen w (len+m) cap e (by unfold maxLen;omega)
    obtain ⟨news,hnews⟩:∃ news,news=(Builtin.zeroCells zv.cells m).toList:=⟨_,rfl⟩
    have hnl:news.length=m * ie.size:=by rw [hnews];simp [size_zeroCells,hzs]
    have hlen:(olds++news).length=(len+m) * ie.size:=by rw [List.length_append,t1,hnl,Nat.add_mul]
    have hown:(w.drew.alloc (.cells (olds.toArray++Builtin.zeroCells zv.cells m++Builtin.zeroCells zv.cells (grownCap w (len+m) cap e-(len+m))) e)).ownsRow 0 e ie.size (.slice (some ⟨w.heap.size,0,none⟩) (len+m) (grownCap w (len+m) cap e)) (len+m) (olds++news):=by
     refine ⟨hlen,.inr ⟨w.heap.size,_,_,rfl,Nat.zero_le _,heap_alloc_new w.drew _,hge,hgm,?_,?_⟩⟩
     ·simp only [Array.size_append,List.size_toArray,size_zeroCells,hzs,t1,←Nat.add_mul]
      congr 1
      omega
     ·simp only [Array.toList_append]
      rw [←hnews,←hlen]
      exact List.take_left
    obtain ⟨new,hnew⟩:∃ new,new=List.replicate m (z.map V.sc):=⟨_,rfl⟩
    have hnewl:new.length=m:=by rw [hnew];simp
    have hsn:∀ r∈new,r.length=ie.size:=fun r h=>by rw [hnew] at h;rw [(List.mem_replicate.1 h).2,List.length_map,c5]
    have hnr:∀ i j (hi:i<new.length) (hj:j<new[i].length),∃ u,news[i * ie.size+j]? = some u∧Rd E.m (new[i][j]) u:=fun i j hi hj=>by
     have hj1:j<ie.size:=by rw [←hsn _ (List.getElem_mem hi)];exact hj
     have hj2:j<z.length:=by omega
     have e5:new[i]=z.map V.sc:=by simp [hnew]
     refine ⟨z[j],?_,by simp only [e5,List.getElem_map];exact Rd.sc _⟩
     rw [hnews,QfM zv.cells ie.size m i j hzs (by omega) hj1,←hzz,List.getElem?_eq_getElem hj2]
    rw [←hnew]
    have hl:(old.take len++new).length=len+m:=by rw [List.length_append,List.length_take,hnewl];omega
    have hch:Chg (fun b=>(Value.slice (some ⟨w.heap.size,0,none⟩) (len+m) (grownCap w (len+m) cap e)).ownBlock=some b) w (w.drew.alloc (.cells (olds.toArray++Builtin.zeroCells zv.cells m++Builtin.zeroCells zv.cells (grownCap w (len+m) cap e-(len+m))) e)):=((Chg.refl _ _).drew).alloc _
    obtain ⟨E',g1,g2⟩:=hg.treeAt (d,1) (by simp) (e:=e) (sz:=ie.size) (es:=old.take len++new) hch (fun b hb=>by cases hb;exact Nat.le_refl _) (by rw [hl];exact hown) (fun r h=>by
     rcases List.mem_append.1 h with h | h
     ·exact t3 r h
     ·exact hsn r h) (Qck (by rw [t1,t2]) (fun i h=>t3 _ (List.getElem_mem h)) t4 hnr)
    have e0:QaA σ (d,1) (.rw e ie.size (old.take len++new))=QaA σ' (d,1) (.rw e ie.size (old.take len++new)):=(Qfa (h1 _ (by simp)) (h1 _ (by simp))).symm
    have e1:gh σ (d,1)=gh σ' (d,1):=(QaL (h1 (.h (d,1)) (by simp))).symm
    rw [e0,e1]
    refine ⟨_,_,E',?_,g1,g2⟩
    simp [execOp,resolve,invoke,builtin,he,vx,hrun]
   ·intro _ _ _ h;cases h
  ·intro _ _ _ h;cases h
 ·intro _ _ _ h;cases h
theorem Qlp (dT sT ty elem:TypeId) (size:Nat) (base:Option Addr) (dLen dCap:Nat) (a2:Addr) (l2 c2:Nat) (news:List Value) (w':World) (hu:P.underlying dT=some (.slice elem)) (hs:(P.info? elem).map (·.size)=some size) (hle:dLen≤l2)
  (hc:(Builtin.firstCells size dLen (.slice (some a2) l2 c2)).run P w=.ok news.toArray w)
  (hst:∀ g,base=some g→(storeCells g news 0).run P w=.ok () w') (hn:base=none→w'=w):(Builtin.copy_ #[dT,sT] ty #[.slice base dLen dCap,.slice (some a2) l2 c2]).run P w=.ok (goInt dLen) w':=by
 have hmin:Nat.min l2 dLen=dLen:=Nat.min_eq_right hle
 cases hq:P.info? elem with
 | none=>rw [hq] at hs;cases hs
 | some i=>
  have hi:i.size=size:=by simpa [hq] using hs
  cases base with
  | none=>rw [hn rfl];simp [Builtin.copy_,run_underlying hu,Builtin.lenOf,sizeOf,typeInfo,hq,hmin,hi,hc]
  | some g=>simp [Builtin.copy_,run_underlying hu,Builtin.lenOf,sizeOf,typeInfo,hq,hmin,hi,hc,hst g rfl]
def Qh9 (P:Program) (σ:St) (d:Tmp) (t tx:TypeId) (s x:Operand):Stp:=
 match QpD σ d,Qao P t,Qgu σ (ev σ s),Qgu σ (ev σ x) with
 | some _,some { sh:=.slice,elem:=e,.. },some (k,g,sz0,off,len),some (k2,g2,sz2,off2,len2)=>match σ (.r k),σ (.r k2) with
  | .tree (.rw e' sz old),.tree (.rw _ sz3 old2)=>some (len≤len2∧off2+len2≤old2.length∧sz0=sz∧sz2=sz∧sz3=sz∧off+len≤old.length∧(Qao P e).map (·.size)=some sz∧(∀ r∈(old2.drop off2).take len,∀ y∈r,Qfn y=true)∧gh σ k2=g2∧gh σ k=g∧Qh7 (σ (.l k)),
   [.s d,.g k,.l k]++(vwL (ev σ s)++(vwL (ev σ x)++(rdl s++rdl x))),QaR σ k (.rw e' sz (old.take off++(old2.drop off2).take len++old.drop (off+len)))++[(.s d,.av (.val (.sc (.int .i64 len))))])
  | _,_=>none
 | _,_,_,_=>none
theorem QvB (d:Tmp) (t tx:TypeId) (s x:Operand):Qbl P C σ (some d) (.call { callee:=.builtin .copy,args:=#[s,x],argTypes:=#[t,tx] }) (Qh9 P σ d t tx s x):=by
 unfold Qh9
 split
 ·rename_i _ e _ _ _ k g sz0 off len k2 g2 sz2 off2 len2 _ ht hs hx
  split
  ·rename_i e' sz old e3 sz3 old2 hr hr2
   obtain ⟨new,hnew⟩:∃ new,new=(old2.drop off2).take len:=⟨_,rfl⟩
   rw [←hnew]
   refine QaV (W0:=QaR σ k (.rw e' sz (old.take off++new++old.drop (off+len)))) fun hc ty pos af E σ' a w hr0 hg hd=>?_
   obtain ⟨c1,c2,rfl,rfl,rfl,c3,c4,c5,c6,c7,c8⟩:=hc
   obtain ⟨h0,h1⟩:=Qaq hr0
   obtain ⟨h1,h2⟩:=Qaq h1
   obtain ⟨h2,h3⟩:=Qaq h2
   obtain ⟨h3,h4⟩:=Qaq h3
   obtain ⟨it,dt,_,hdt,_,_,_,hsl,_⟩:=Qak ht
   have hsl:dt=.slice e:=hsl rfl
   subst hsl
   have hie:(P.info? e).map (·.size)=some sz3:=by
    cases hte:Qao P e with
    | none=>rw [hte] at c4;cases c4
    | some T=>obtain ⟨ie,de,hie,hde,hsz,_⟩:=Qak hte;rw [hte] at c4;simp at c4;rw [hie];simp [←hsz,c4]
   have hin:=QdD hs
   have hin2:=QdD hx
   have hk':σ' (.r k)=.tree (.rw e' sz3 old):=by rw [h1 (.r k) (by rw [hin];simp)];exact hr
   have hk2:σ' (.r k2)=.tree (.rw e3 sz3 old2):=by rw [h2 (.r k2) (by rw [hin2];simp)];exact hr2
   have hgh:gh σ' k=gh σ k:=QaL (h1 (.h k) (by rw [hin];simp))
   have hgh2:gh σ' k2=gh σ k2:=QaL (h2 (.h k2) (by rw [hin2];simp))
   have hl':∀ i y,σ' (.l k)≠.lent i y:=by rw [h0 (.l k) (by simp)];exact Qd8 c8
   have hvs:=Qax hg s
   rw [Qae h3] at hvs
   have hvx:=Qax hg x
   rw [Qae h4] at hvx
   obtain ⟨us,q1,q2,q3,q4,q5,q6⟩:=Qdo hg hvs (by rw [Qbr h1];exact hs) (by rw [hgh];exact c7) hk'
   obtain ⟨us2,p1,p2,p3,p4,p5,p6⟩:=Qdo hg hvx (by rw [Qbr h2];exact hx) (by rw [hgh2];exact c6) hk2
   obtain ⟨t1,t2,t3,t4⟩:=Qdp (off:=off2) (len:=len) p2 p1.1 (by omega) p3
   obtain ⟨news,hnews⟩:∃ news,news=(us2.drop (off2 * sz3)).take (len * sz3):=⟨_,rfl⟩
   simp only [←hnew] at t2 t3 t4
   rw [←hnews] at t1 t4
   have hnl:news.length=new.length * sz3:=by rw [t1,t2]
   have e0:QaR σ k (.rw e' sz3 (old.take off++new++old.drop (off+len)))=QaR σ' k (.rw e' sz3 (old.take off++new++old.drop (off+len))):=by unfold QaR;rw [Qaz (h0 (.g k) (by simp))]
   have hlen:(old.take off++new++old.drop (off+len)).length=old.length:=by simp only [List.length_append,List.length_take,List.length_drop];omega
   have hz:∀ r∈old.take off++new++old.drop (off+len),r.length=sz3:=by have:=(QeY (off:=off) q2 q1.1 q3 hnl (by omega) t3 t4).1;rwa [t2] at this
   rw [e0]
   by_cases hn0:len=0
   ·have hne:new=[]:=List.eq_nil_of_length_eq_zero (by omega)
    have hsame:old.take off++new++old.drop (off+len)=old:=by rw [hne,hn0];simp
    rw [hsame]
    obtain ⟨E',g1,g2,_,_⟩:=hg.setT k _ (.rw e' sz3 old) _ w hk' (fun ys h=>by cases h) (fun y h=>by cases h) (fun ys h=>by cases h) (hg.tr.hg k _ hk').1 (fun b hb=>.inl hb) (Chg.refl _ _) (fun i y h=>absurd h (hl' i y))
    refine ⟨.int .i64 len,w,E',?_,by simpa using g1,Rd.sc _⟩
    subst hn0
    have hq:∃ i,P.info? e=some i∧i.size=sz3:=by
     cases hq:P.info? e with
     | none=>rw [hq] at hie;cases hie
     | some i=>rw [hq] at hie;exact ⟨i,rfl,by simpa using hie⟩
    obtain ⟨i,hq,hqs⟩:=hq
    have hb:∃ base cap,a.eval s=.slice base 0 cap:=by
     rcases q6 with ⟨r1,r2,r3,r4,r5⟩ | ⟨b,cap,o,r1,r2,r3,r4,r5⟩
     ·exact ⟨_,_,r3⟩
     ·exact ⟨_,_,r3⟩
    have hb2:∃ base cap,a.eval x=.slice base len2 cap:=by
     rcases p6 with ⟨r1,r2,r3,r4,r5⟩ | ⟨b,cap,o,r1,r2,r3,r4,r5⟩
     ·subst r4;exact ⟨_,_,r3⟩
     ·exact ⟨_,_,r3⟩
    obtain ⟨base,cap,hb⟩:=hb
    obtain ⟨base2,cap2,hb2⟩:=hb2
    have hf:(Builtin.firstCells i.size 0 (.slice base2 len2 cap2)).run P w=.ok #[] w:=by
     cases base2 with
     | none=>exact run_firstCells_none w i.size 0 len2 cap2
     | some b2=>exact run_firstCells_some w i.size 0 b2 len2 cap2 [] (by simp) (fun j u h=>by simp at h)
    cases base <;> simp [execOp,resolve,invoke,builtin,hb,hb2,Builtin.copy_,run_underlying hdt,Builtin.lenOf,sizeOf,typeInfo,hq,hf,storeCells,goInt]
   ·rcases q6 with ⟨r1,r2,r3,r4,r5⟩ | ⟨b,cap,o,r1,r2,r3,r4,r5⟩
    ·omega
    ·obtain rfl:=r4 (by omega)
     rcases p6 with ⟨r6,r7,r8,r9,r10⟩ | ⟨b2,cap2,o2,r6,r7,r8,r9,r10⟩
     ·omega
     ·obtain rfl:=r9 (by omega)
      have hone:∀ y∈news,y.oneCell'=true:=fun y hy=>by
       obtain ⟨q,hq,rfl⟩:=List.getElem_of_mem hy
       have hz0:0<sz3:=by rcases Nat.eq_zero_or_pos sz3 with h | h;rw [hnl,h] at hq;simp at hq;exact h
       have h1:q / sz3<new.length:=Nat.div_lt_of_lt_mul (by rw [Nat.mul_comm,←hnl];exact hq)
       obtain ⟨u,hu1,hu2⟩:=t4 (q / sz3) (q % sz3) h1 (by rw [t3 _ (List.getElem_mem h1)];exact Nat.mod_lt _ hz0)
       have e7:q / sz3 * sz3+q % sz3=q:=by rw [Nat.mul_comm];exact Nat.div_add_mod q sz3
       rw [e7,List.getElem?_eq_getElem hq] at hu1
       rw [Option.some.inj hu1]
       exact Qcu hu2 (c5 _ (List.getElem_mem h1) _ (List.getElem_mem _))
      have hob:(E.bv k).ownBlock=some b:=by rw [r1];rfl
      have hmul:off * sz3+news.length≤old.length * sz3:=by rw [hnl,←Nat.add_mul];exact Nat.mul_le_mul_right _ (by omega)
      obtain ⟨w',E',u1,u2,⟨cap',u3⟩,u4⟩:=QcR (P:=P) hg hk' hl' hob (p:=off * sz3) (ys:=news) (old.take off++new++old.drop (off+len)) hmul hone hlen hz (fun us' v1 v3=>by
       have:=(QeY (off:=off) q2 v1 v3 hnl (by omega) t3 t4).2
       rwa [t2] at this)
      have hf:(Builtin.firstCells sz3 len (.slice (some ⟨b2,off2 * sz3,none⟩) len2 (cap2-off2))).run P w=.ok news.toArray w:=run_firstCells_some w sz3 len _ len2 (cap2-off2) news (by rw [t1]) fun j u hj=>by
       rw [hnews,List.getElem?_take] at hj
       split at hj
       ·rw [List.getElem?_drop] at hj
        have:=p1.cells (g:=b2) (by rw [r6];rfl) _ u hj
        rw [QaF,Nat.zero_add] at this
        rw [QaF];exact this
       ·cases hj
      have hrun:=Qlp (P:=P) (w:=w) t tx ty e sz3 (some ⟨b,off * sz3,none⟩) len (cap-off) _ len2 _ news w' hdt hie c1 hf (fun g hg=>by cases hg;exact u1) (fun h=>by cases h)
      exact ⟨.int .i64 len,w',E',by simp [execOp,resolve,invoke,builtin,r3,r8,hrun,goInt],u2,Rd.sc _⟩
  ·intro _ _ _ h;cases h
 ·intro _ _ _ h;cases h
def QfP (P:Program) (σ:St) (d:Tmp) (t:TypeId) (x:Operand) (lo hi mx:Option Operand):Stp:=
 match QbN σ lo,QbN σ hi,QbN σ mx with
 | some l,some (some h),some (some m)=>match Qao P t,Qgu σ (ev σ x) with
  | some { sh:=.slice,elem:=e,.. },some (k,g,sz,off,len)=>match σ (.r k) with
   | .tree (.rw e' sz' es)=>some ((Qao P e).map (·.size)=some sz∧sz'=sz∧0≤Qdz l∧Qdz l≤h∧h≤m∧m≤len∧gh σ k=g∧off+len≤es.length,vwL (ev σ x)++(rdl x++(bl lo++(bl hi++bl mx))),
    [(.s d,.av (.val .any))])
   | _=>none
  | _,_=>none
 | _,_,_=>none
theorem QrO (d:Tmp) (t:TypeId) (x:Operand) (lo hi mx:Option Operand):Qbl P C σ (some d) (.slice t x lo hi mx) (QfP P σ d t x lo hi mx):=by
 unfold QfP
 split
 ·rename_i l h m hl hh hm
  split
  ·rename_i e _ _ _ k g sz off len ht hx
   split
   ·rename_i e' sz' es hr
    refine Qar fun hc ty pos af E σ' a w hr0 hg=>?_
    obtain ⟨c0,rfl,c1,c2,c3,c4,c5,c6⟩:=hc
    obtain ⟨h1,h2⟩:=Qaq hr0
    obtain ⟨h2,h3⟩:=Qaq h2
    obtain ⟨h3,h4⟩:=Qaq h3
    obtain ⟨h4,h5⟩:=Qaq h4
    obtain ⟨it,dt,_,hdt,_,_,_,hsl,_⟩:=Qak ht
    have hsl:dt=.slice e:=hsl rfl
    subst hsl
    have hse:(sizeOf e).run P w=.ok sz' w:=by
     cases hte:Qao P e with
     | none=>rw [hte] at c0;cases c0
     | some T=>rw [hte] at c0;simp at c0;rw [QaH hte,c0]
    have hin:=QdD hx
    have hk':σ' (.r k)=.tree (.rw e' sz' es):=by rw [h1 (.r k) (by rw [hin];simp)];exact hr
    have hgk:gh σ' k=g:=by rw [QaL (h1 (.h k) (by rw [hin];simp))];exact c5
    have hv:=Qax hg x
    rw [Qae h2] at hv
    have hx':Qgu σ' (ev σ x)=some (k,g,sz',off,len):=by rw [Qbr h1];exact hx
    obtain ⟨us,q1,_,_,_,_,q6⟩:=Qdo hg hv hx' hgk hk'
    obtain ⟨k1,b1⟩:=Qa9 hl h3 hg
    obtain ⟨k2,b2⟩:=Qa9 hh h4 hg
    obtain ⟨k3,b3⟩:=Qa9 hm h5 hg
    have key:∀ A cap,len≤cap→a.eval x=.slice A len cap→∃ v,(execOp a.eval ⟨some d,.slice t x lo hi mx,ty,pos,af,none⟩).run P w=.ok (.value v) w:=fun A cap hcap hA=>by
     have hb:=QbX (P:=P) (b:=true) (n:=len) (cap:=cap) (k:=k1) (k':=k2) (k'':=k3) (lo:=l) (hi:=some h) (mx:=some m) hcap c1 (by simpa [Qdl] using c2) (by simp [Qdl];omega) (fun m' h'=>by cases h';exact ⟨by simp,by simpa [Qdl] using c3,c4⟩) w
     simp only [Option.map_some] at hb
     cases A <;> simp [execOp,hA,b1,b2,b3,Instr.sliceAt,Instr.slice,run_underlying hdt,hb,hse]
    rcases q6 with ⟨p1,p2,p3,p4,p5⟩ | ⟨b,cap,o,p1,p2,p3,p4,p5⟩
    ·subst p4
     obtain ⟨v,hv⟩:=key _ 0 (Nat.le_refl _) p3
     exact ⟨v,hv,Rd.any _⟩
    ·obtain ⟨v,hv⟩:=key _ (cap-off) (by omega) p3
     exact ⟨v,hv,Rd.any _⟩
   ·intro _ _ _ h;cases h
  ·intro _ _ _ h;cases h
 ·intro _ _ _ h;cases h
def QfQ (P:Program) (σ:St) (d:Tmp) (t:TypeId) (len:Nat) (parts:List (Nat × Operand)):Stp:=
 match QpD σ d,parts with
 | some _,[]=>match Qao P t with
  | some { sh:=.slice,elem:=e,.. }=>match Qao P e with
   | some { size:=s,zok:=true,.. }=>some (len=0,[.s d,.h (d,1),.g (d,1)],QaA σ (d,1) (.rw e s [])++[(.s d,.av (.ref (d,1) (gh σ (d,1)+1)))])
   | _=>none
  | _=>none
 | _,_=>none
theorem QrP (d:Tmp) (t:TypeId) (len:Nat) (parts:List (Nat × Operand)):Qbl P C σ (some d) (.buildSlice t len parts.toArray) (QfQ P σ d t len parts):=by
 unfold QfQ
 split
 ·split
  ·rename_i e _ _ _ ht
   split
   ·rename_i s by_ z el fs fk hte
    refine QaV (W0:=QaA σ (d,1) (.rw e s [])) fun hc ty pos af E σ' a w h1 hg hd=>?_
    subst hc
    obtain ⟨it,dt,_,hdt,_,_,_,hsl,_⟩:=Qak ht
    have hsl:dt=.slice e:=hsl rfl
    subst hsl
    have hso:=QaH (P:=P) hte w
    have hown:(w.alloc (.cells #[] e)).ownsRow 0 e s (.slice (some ⟨w.heap.size,0,none⟩) 0 0) 0 []:=
     ⟨by simp,.inr ⟨w.heap.size,0,#[],rfl,Nat.zero_le _,heap_alloc_new w _,Nat.le_refl _,by unfold maxLen;omega,by simp,by simp⟩⟩
    have hch:Chg (fun b=>(Value.slice (some ⟨w.heap.size,0,none⟩) 0 0).ownBlock=some b) w (w.alloc (.cells #[] e)):=(Chg.refl _ _).alloc _
    obtain ⟨E',g1,g2⟩:=hg.treeAt (d,1) (by simp) (e:=e) (sz:=s) (es:=[]) (v:=.slice (some ⟨w.heap.size,0,none⟩) 0 0) hch (fun b hb=>by cases hb;exact Nat.le_refl _) hown (fun r h=>by cases h) (fun i j hi=>by simp at hi)
    have e0:QaA σ (d,1) (.rw e s [])=QaA σ' (d,1) (.rw e s []):=(Qfa (h1 _ (by simp)) (h1 _ (by simp))).symm
    have e1:gh σ (d,1)=gh σ' (d,1):=(QaL (h1 (.h (d,1)) (by simp))).symm
    rw [e0,e1]
    refine ⟨_,_,E',?_,g1,g2⟩
    have hb:(Instr.buildSlice t 0 #[]).run P w=.ok (.slice (some ⟨w.heap.size,0,none⟩) 0 0) (w.alloc (.cells #[] e)):=by
     unfold Instr.buildSlice
     have e2:Array.range 0 = #[]:=by rfl
     simp [run_underlying hdt,hso,Instr.fill,e2]
     rfl
    simp [execOp,hb]
   ·intro _ _ _ h;cases h
  ·intro _ _ _ h;cases h
 ·intro _ _ _ h;cases h
def Qeb (P:Program) (σ:St) (d:Tmp) (t tx:TypeId) (s x:Operand):Stp:=
 match Qao P t,ev σ s with
 | some { sh:=.slice,elem:=e,.. },.own k g e' sz' old=>match Qao P e,Qkd σ (ev σ x) with
  | some { size:=sz,bytes:=by_,zero:=z,zok:=true,.. },some new=>
   some (QyI P σ tx x new old.length by_ sz z∧e'=e∧sz'=sz∧gq σ k=g∧σ (.k k)=.row e sz old.length,[.q k,.k k]++(vwL (ev σ x)++(rdl s++rdl x)),[(.q k,.num g),(.k k,.row e sz (old.length+new.length))]++[(.s d,.av (.own k g e sz (old++new)))])
  | _,_=>none
 | _,_=>none
theorem QpH (d:Tmp) (t tx:TypeId) (s x:Operand):Qbl P C σ (some d) (.call { callee:=.builtin .append,args:=#[s,x],argTypes:=#[t,tx] }) (Qeb P σ d t tx s x):=by
 unfold Qeb
 split
 ·rename_i e _ _ _ k g e' sz' old ht hs
  obtain ⟨it,dt,_,hdt,_,_,_,hsl,_⟩:=Qak ht
  have hsl:dt=.slice e:=hsl rfl
  subst hsl
  split
  ·rename_i _ _ sz by_ z _ _ _ new hte hnew
   obtain ⟨ie,de,hie,hde,hsz,hby,_,_,_,_,_,_,_,hz,_,_,_,hzk⟩:=Qak hte
   obtain ⟨zv,hzv⟩:=Option.isSome_iff_exists.1 hzk.symm
   have hzz:z=zv.cells.toList:=by rw [hzv] at hz;exact hz
   refine QaV (W0:=[(.q k,.num g),(.k k,.row e sz (old.length+new.length))]) fun hc ty pos af E σ' a w hr hg hd=>?_
   obtain ⟨hc0,rfl,rfl,hcq,hck⟩:=hc
   obtain ⟨c1,c2,c3,c4,c5,c6,c7,c8⟩:=hc0
   obtain ⟨hr0,hr1⟩:=Qaq hr
   obtain ⟨hrv1,hr1⟩:=Qaq hr1
   obtain ⟨hr2,hr3⟩:=Qaq hr1
   have hq:gq σ' k=g:=by rw [Qda (hr0 _ (by simp))];exact hcq
   have hk:σ' (.k k)=.row e' sz' old.length:=by rw [hr0 _ (by simp)];exact hck
   have hx:=Qax hg s
   rw [Qae hr2,hs] at hx
   obtain ⟨hx1,hx2⟩:=hx
   have hrv:=(hx2.2 hq.symm e' sz' old.length hk).2 rfl
   obtain ⟨_,_,hrv⟩:=hrv
   obtain ⟨hown,hmm⟩:=hg.ro k e' sz' old.length hk
   have hvx:=Qax hg x
   rw [Qae hr3] at hvx
   obtain ⟨s1,s2⟩:=Qey hrv1
   obtain ⟨news,hsrc,h6⟩:=Qke (P:=P) (tx:=tx) hg hvx (by rw [s1];exact hnew) (s2.2 c8) c5 c6 (by
    split
    ·rename_i hb;rw [if_pos hb] at c7;exact QbM c7
    ·rename_i hb;rw [if_neg hb] at c7;exact ⟨QeU c7.1,c7.2⟩)
   have hzs:zv.cells.size=sz':=by rw [←c3,hzz];simp
   obtain ⟨v',w',h1,h2,h3,h4,h5⟩:=Qce w t tx ty e' ie zv sz' by_ hdt hie hzv hsz.symm hby.symm hzs c4 (E.rv k) old.length (E.rx k) hown _ _ _ hsrc (by unfold maxLen;omega) c1
   obtain ⟨E',g1,g2,_,g3,g4,g5⟩:=hg.row k g g hq e' sz' (old.length+new.length) v' w' (E.rx k++news) (.inl ⟨rfl,old.length,hk,by omega,fun h=>h5 (by omega)⟩)
    (fun b hb=>(h4 b hb).imp id (fun h=>⟨e',sz',old.length,hk,h,fun i hi=>List.getElem?_append_left hi⟩)) h2 h3
   have hold:∀ i j (hi:i<old.length) (hj:j<old[i].length),∃ u,(E.rx k)[i * sz'+j]? = some u∧Rd E.m (old[i][j]) u:=by
    intro i j hi hj
    rw [hrv] at hx1
    obtain ⟨A,cap,hA,_,_,hs0,ys,hyl,hyr,hym⟩:=QdA hx1
    obtain ⟨u,h7,h8⟩:=hyr i j hi hj
    refine ⟨u,?_,h8⟩
    obtain ⟨b,o,h9,h10⟩:=hym _ _ h7
    have hblk:(E.rv k).ownBlock=some b:=by rw [hA,h9];rfl
    have ho:o=0:=by
     rcases hown.2 with ⟨h11,_⟩ | ⟨gg,cap',cur,h11,_⟩
     ·rw [h11] at hA;injection hA with hA1;rw [←hA1] at h9;cases h9
     ·rw [h11] at hA;injection hA with hA1;rw [←hA1] at h9;cases h9;rfl
    subst ho
    rw [←((hmm b hblk).1 _),←h10];simp
   have hso:∀ i (h:i<old.length),old[i].length=sz':=by
    obtain ⟨A,cap,hA,_,_,hs0,_⟩:=QdA hx1
    exact hs0
   refine ⟨v',w',E',?_,g1,g5 (old++new) (by simp) (Qjq h2 (by simp) (fun i h=>?_) g3 ?_)⟩
   ·simp [execOp,resolve,invoke,builtin,hrv,h1]
   ·by_cases hlt:i<old.length
    ·rw [List.getElem_append_left hlt];exact hso i hlt
    ·rw [List.getElem_append_right (by omega)];exact c5 _ (by simp)
   ·intro i j hi hj
    obtain ⟨u,h7,h8⟩:=Qck hown.1 hso hold h6 i j hi hj
    exact ⟨u,h7,h8.mono g4⟩
  ·intro _ _ _ h;cases h
 ·intro _ _ _ h;cases h
def QfR (P:Program) (σ:St) (d:Tmp) (t:TypeId) (x y:Operand):Stp:=
 match Qao P t,Qhq σ y with
 | some { sh:=.array m,elem:=e,.. },some (.int _ n)=>match Qao P e,ev σ x with
  | some { size:=sz,.. },.ptr o g i=>some (0≤n∧n<m∧gg σ o=g,rdl x++rdl y++[.g o],[(.s d,.av (.ptr o g (i+n.toNat * sz)))])
  | _,_=>none
 | _,_=>none
theorem QrQ (d:Tmp) (t:TypeId) (x y:Operand):Qbl P C σ (some d) (.indexAddr t x y) (QfR P σ d t x y):=by
 unfold QfR
 split
 ·rename_i m _ _ _ _ e _ _ _ ik n ht hy
  split
  ·rename_i _ _ sz _ _ _ _ _ _ o g i hte hx
   refine Qar fun hc ty pos af E σ' a w hr hg=>?_
   obtain ⟨h1,h2⟩:=Qaq hr
   obtain ⟨h1,h3⟩:=Qaq h1
   obtain ⟨c1,c2,c3⟩:=hc
   obtain ⟨it,dt,_,hdt,_,_,_,_,har,_⟩:=Qak ht
   have har:dt=.array m e:=har m rfl
   subst har
   have hv:=Qax hg x
   rw [Qae h1,hx] at hv
   have h4:=hv.2 (by rw [Qaz (h2 (.g o) (by simp))];exact c3.symm)
   refine ⟨.pointer (some ⟨E.loc o,i+n.toNat * sz,none⟩),?_,?_⟩
   ·simp [execOp,h4,QaS hy h3 hg,Instr.indexAt,Instr.sureAddr,asIntOf,run_underlying hdt,QaH hte,QaF,c1,c2]
   ·exact ⟨hv.1,fun _=>rfl⟩
  ·intro _ _ _ h;cases h
 ·intro _ _ _ h;cases h
def QDs (σ:St) (d:Tmp):Option (Value × Id × Nat):=match σ (.s d) with | .av (.pv u o g)=>some (u,o,g) | _=>none
theorem QBB {d:Tmp} {u:Value} {o:Id} {g:Nat} (h:QDs σ d=some (u,o,g)):σ (.s d)=.av (.pv u o g):=by
 unfold QDs at h
 split at h
 ·rename_i u' o' g' h0;cases h;exact h0
 ·cases h
def Qia (P:Program) (σ:St) (d:Tmp) (t:TypeId) (x:Operand):Stp:=
 match QDs σ d with
 | some (u,o',g')=>match Qao P t,ev σ x with
  | some { agg:=false,.. },.elp k g sz i o=>match σ (.r k) with
   | .tree (.rw e sz' es)=>some (sz'=sz∧gh σ k=g∧i<es.length∧o<sz∧(es.getD i []).getD o .any=.sc u,[.s d]++([.h k,.r k]++rdl x),[(.s d,.av (.ptr o' g' 0))])
   | _=>none
  | _,_=>none
 | none=>none
theorem QvC (d:Tmp) (t:TypeId) (x:Operand):Qbl P C σ (some d) (.load t x) (Qia P σ d t x):=by
 unfold Qia
 split
 ·rename_i u o' g' hp
  split
  ·rename_i _ _ _ _ _ _ _ _ k g sz i o ht hx
   split
   ·rename_i e sz' es hr
    refine Qar fun hc ty pos af E σ' a w hr0 hg=>?_
    obtain ⟨h0,h1⟩:=Qaq hr0
    obtain ⟨h1,h2⟩:=Qaq h1
    obtain ⟨rfl,c2,c3,c4,c5⟩:=hc
    have h3:=Qax hg x
    rw [Qae h2,hx] at h3
    obtain ⟨b,h4,h5⟩:=h3.2 (by rw [QaL (h1 (.h k) (by simp))];exact c2.symm)
    obtain ⟨us,q1,q2,q3,_⟩:=Qbu hg (by rw [h1 (.r k) (by simp)];exact hr)
    have hlen:es[i].length=sz':=q2 _ (List.getElem_mem c3)
    obtain ⟨v,h6,h7⟩:=q3 i o c3 (by omega)
    have he:(es.getD i []).getD o .any=es[i][o]'(by omega):=by simp [List.getD_eq_getElem?_getD,c3,show o<es[i].length by omega]
    rw [he] at c5
    rw [c5] at h7
    have hv:=Rd.sc_eq h7
    subst hv
    have h8:=q1.cells (g:=b) h4 (i * sz'+o) v h6
    rw [QaF,Nat.zero_add] at h8
    exact ⟨v,by simp [execOp,h5,Instr.loadAt,Instr.sureAddr,loadVar,Qbp ht,h8],hg.sl d _ ((h0 _ (by simp)).trans (QBB hp))⟩
   ·intro _ _ _ h;cases h
  ·intro _ _ _ h;cases h
 ·intro _ _ _ h;cases h
end
end Go.Proofs.YthfocmakkeonoaaGreatDoor
