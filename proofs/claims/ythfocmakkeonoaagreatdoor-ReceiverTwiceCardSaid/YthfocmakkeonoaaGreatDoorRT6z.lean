/- Rows that change, owned whole. Rows that change: made, grown, cut short, copied into, read as a text, let go. -/
import Derived.Test.YthfocmakkeonoaaGreatDoorRT4z
import Derived.Lib.BufferWrite
import Derived.Laws.MakeOwn
import Derived.Laws.OwnMore
set_option linter.unusedVariables false
set_option linter.unusedSimpArgs false
set_option maxRecDepth 100000
set_option maxHeartbeats 16000000
namespace Go.Proofs.YthfocmakkeonoaaGreatDoor
open Go.RowKit
theorem Qew {sz:Nat}:∀ {es:List (List V)},(∀ r∈es,r.length=sz)→es.flatten.length=es.length * sz∧∀ i j (hi:i<es.length),j<sz→es.flatten[i * sz+j]? = (es[i])[j]?
 | [],_=>⟨by simp,fun i j hi=>by simp at hi⟩
 | r::es,h=>by
  obtain ⟨h1,h2⟩:=Qew (es:=es) fun r hr=>h r (List.mem_cons_of_mem _ hr)
  have hr:=h r (List.mem_cons_self ..)
  refine ⟨by rw [List.flatten_cons,List.length_append,h1,hr,List.length_cons,Nat.add_mul];omega,fun i j hi hj=>?_⟩
  rw [List.flatten_cons]
  cases i with
  | zero=>rw [List.getElem?_append_left (by omega)];simp
  | succ i=>
   rw [List.getElem?_append_right (by rw [hr,Nat.add_mul];omega),hr]
   have:=h2 i j (by simpa using hi) hj
   rw [show (i+1) * sz+j-sz=i * sz+j by rw [Nat.add_mul];omega]
   simpa using this
section
variable {m:Mem} {w:World} {e:TypeId} {sz:Nat} {es:List (List V)} {v:Value}
theorem QBv {F:List Nat} (h:Hg m w [.rw e sz es] [v] F) :
  ∃ us,w.ownsRow 0 e sz v es.length us∧(∀ r∈es,r.length=sz)∧(∀ i j (hi:i<es.length) (hj:j<es[i].length),∃ u,us[i * sz+j]? = some u∧Rd m (es[i][j]) u) ∧
   (∀ b,v.ownBlock=some b→∀ i,m b i=none)∧F=v.ownBlock.toList:=by
 cases h with
 | rw ho hz hr hm hs=>
  cases hs
  refine ⟨_,ho,hz,fun i j hi hj=>?_,fun b hb=>(hm b hb).1,by simp⟩
  have hj':j<sz:=by rw [←hz _ (List.getElem_mem hi)];exact hj
  have h1:=(Qew hz).2 i j hi hj'
  rw [List.getElem?_eq_getElem hj] at h1
  obtain ⟨h2,h3⟩:=List.getElem?_eq_some_iff.1 h1
  obtain ⟨h4,h5⟩:=hr
  have h6:=h5 (i * sz+j) h2 (by omega)
  exact ⟨_,List.getElem?_eq_getElem (by omega),by rw [h3] at h6;exact h6⟩
theorem Qkc {us:List Value} (ho:w.ownsRow 0 e sz v es.length us) (hz:∀ r∈es,r.length=sz) (hr:∀ i j (hi:i<es.length) (hj:j<es[i].length),∃ u,us[i * sz+j]? = some u∧Rd m (es[i][j]) u)
  (hm:∀ b,v.ownBlock=some b→∀ i,m b i=none):Hg m w [.rw e sz es] [v] v.ownBlock.toList:=by
 have h:=Hg.rw (m:=m) (xs:=[]) (vs:=[]) (F':=[]) ho hz ⟨by rw [(Qew hz).1,ho.1],fun p h1 h2=>?_⟩ (fun b hb=>⟨hm b hb,by simp⟩) .nil
 ·simpa using h
 ·rw [(Qew hz).1] at h1
  have h0:0<sz:=by rcases Nat.eq_zero_or_pos sz with h | h;subst h;simp at h1;exact h
  have hi:p / sz<es.length:=Nat.div_lt_of_lt_mul (by rw [Nat.mul_comm];exact h1)
  have hj:p % sz<sz:=Nat.mod_lt _ h0
  have hp:p / sz * sz+p % sz=p:=by rw [Nat.mul_comm];exact Nat.div_add_mod p sz
  have hj':p % sz<es[p / sz].length:=by rw [hz _ (List.getElem_mem hi)];exact hj
  have h3:=(Qew hz).2 (p / sz) (p % sz) hi hj
  rw [hp,List.getElem?_eq_getElem hj'] at h3
  obtain ⟨h4,h5⟩:=List.getElem?_eq_some_iff.1 h3
  obtain ⟨u,h6,h7⟩:=hr _ _ hi hj'
  rw [hp,List.getElem?_eq_getElem h2] at h6
  rw [h5,Option.some.inj h6]
  exact h7
theorem Qex {α:Type} (l ys:List α) (p q:Nat) (h:p+ys.length≤l.length):(l.take p++ys++l.drop (p+ys.length))[q]? = if q<p then l[q]? else if q<p+ys.length then ys[q-p]? else l[q]?:=by
 rw [List.append_assoc]
 split
 ·rw [List.getElem?_append_left (by rw [List.length_take];omega),List.getElem?_take,if_pos ‹_›]
 ·rw [List.getElem?_append_right (by rw [List.length_take];omega),List.length_take,Nat.min_eq_left (by omega)]
  split
  ·rw [List.getElem?_append_left (by omega)]
  ·rw [List.getElem?_append_right (by omega),List.getElem?_drop]
   congr 1
   omega
theorem QmH {cs vs:List V} {off:Nat} (h:off+vs.length≤cs.length):(QaN cs off vs).length=cs.length:=by
 unfold QaN
 simp only [List.length_append,List.length_take,List.length_drop]
 omega
theorem Qln {us ys:List Value} {n b p:Nat} (h:w.ownsRow 0 e sz v n us) (hb:v.ownBlock=some b) (hp:p+ys.length≤n * sz) (h1:∀ y∈ys,y.oneCell'=true) :
  ∃ w',(∀ P:Program,(storeCells ⟨b,p,none⟩ ys 0).run P w=.ok () w')∧w'.ownsRow 0 e sz v n (us.take p++ys++us.drop (p+ys.length))∧Chg (fun i=>i=b) w w'∧(∃ cap,v=.slice (some ⟨b,0,none⟩) n cap):=by
 have hul:=h.1
 rcases h.2 with ⟨rfl,_⟩ | ⟨g,cap,cur,rfl,h0,hg,hnc,hcm,hcs,htake⟩
 ·cases hb
 ·cases hb
  have hmul:n * sz≤cap * sz:=Nat.mul_le_mul_right _ hnc
  have hst:=fun P=>run_storeCells_at P g p e ys 0 cur w hg (by omega) h1
  simp only [Nat.add_zero] at hst
  refine ⟨_,hst,⟨?_,.inr ⟨g,cap,_,rfl,h0,setRow_heap w g cur _ e _ hg,hnc,hcm,?_,?_⟩⟩,⟨rfl,rfl,rfl,by simp,fun k _ hk=>setRow_other w g k _ hk⟩,cap,rfl⟩
  ·simp only [List.length_append,List.length_take,List.length_drop];omega
  ·simp only [List.size_toArray,List.length_append,List.length_take,List.length_drop,Array.length_toList];omega
  ·have hcl:cur.toList.length=cap * sz:=by simpa using hcs
   apply List.ext_getElem?
   intro q
   rw [List.getElem?_take,Qex _ _ _ _ (by omega),Qex _ _ _ _ (by omega),←htake]
   simp only [List.getElem?_take]
   by_cases hq:q<n * sz
   ·rw [if_pos hq,if_pos hq]
   ·rw [if_neg hq,if_neg hq,if_neg (by omega),if_neg (by omega)]
theorem QyF {us ys:List Value} {vs:List V} {i off:Nat} (hz:∀ r∈es,r.length=sz) (hul:us.length=es.length * sz) (hr:∀ i j (hi:i<es.length) (hj:j<es[i].length),∃ u,us[i * sz+j]? = some u∧Rd m (es[i][j]) u)
  (hi:i<es.length) (ho:off+vs.length≤sz) (hyl:ys.length=vs.length) (hy:∀ j (h:j<vs.length),∃ u,ys[j]? = some u∧Rd m vs[j] u) :
  (∀ r∈es.set i (QaN (es.getD i []) off vs),r.length=sz)∧∀ i' j (hi':i'<(es.set i (QaN (es.getD i []) off vs)).length) (hj:j<(es.set i (QaN (es.getD i []) off vs))[i'].length),
   ∃ u,(us.take (i * sz+off)++ys++us.drop (i * sz+off+ys.length))[i' * sz+j]? = some u∧Rd m ((es.set i (QaN (es.getD i []) off vs))[i'][j]) u:=by
 have hei:es.getD i []=es[i]:=by simp [List.getD_eq_getElem?_getD,hi]
 have hli:es[i].length=sz:=hz _ (List.getElem_mem hi)
 rw [hei]
 have hsl:(QaN es[i] off vs).length=sz:=by rw [QmH (by omega),hli]
 have hmul:i * sz+sz≤es.length * sz:=by
  calc i * sz+sz=(i+1) * sz:=by rw [Nat.add_mul,Nat.one_mul]
   _≤es.length * sz:=Nat.mul_le_mul_right _ hi
 refine ⟨fun r hr'=>?_,fun i' j hi' hj=>?_⟩
 ·rcases List.mem_or_eq_of_mem_set hr' with h | h
  ·exact hz r h
  ·rw [h];exact hsl
 ·have hi2:i'<es.length:=by simpa using hi'
  rw [Qex _ _ _ _ (by omega)]
  by_cases he:i'=i
  ·subst he
   have e1:(es.set i' (QaN es[i'] off vs))[i']=QaN es[i'] off vs:=by simp
   have hj2:j<(QaN es[i'] off vs).length:=by rw [←e1];exact hj
   have hjs:j<sz:=by omega
   have hg:=Qex es[i'] vs off j (by omega)
   have hget:(QaN es[i'] off vs)[j]? = some ((QaN es[i'] off vs)[j]):=List.getElem?_eq_getElem hj2
   have goal:∃ u,(if i' * sz+j<i' * sz+off then us[i' * sz+j]? else if i' * sz+j<i' * sz+off+ys.length then ys[i' * sz+j-(i' * sz+off)]? else us[i' * sz+j]?)=some u∧Rd m ((QaN es[i'] off vs)[j]) u:=by
    have hold:∀ x,es[i'][j]? = some x→∃ u,us[i' * sz+j]? = some u∧Rd m x u:=fun x hx=>by
     obtain ⟨h1,h2⟩:=List.getElem?_eq_some_iff.1 hx
     obtain ⟨u,h3,h4⟩:=hr i' j hi2 h1
     exact ⟨u,h3,h2 ▸ h4⟩
    unfold QaN at hget ⊢
    rw [hg] at hget
    by_cases c1:j<off
    ·rw [if_pos c1] at hget
     rw [if_pos (by omega)]
     exact hold _ hget
    ·rw [if_neg c1] at hget
     rw [if_neg (by omega)]
     by_cases c2:j<off+vs.length
     ·rw [if_pos c2] at hget
      rw [if_pos (by omega),show i' * sz+j-(i' * sz+off)=j-off by omega]
      obtain ⟨u,h3,h4⟩:=hy (j-off) (by omega)
      obtain ⟨_,h6⟩:=List.getElem?_eq_some_iff.1 hget
      exact ⟨u,h3,h6 ▸ h4⟩
     ·rw [if_neg c2] at hget
      rw [if_neg (by omega)]
      exact hold _ hget
   simpa only [e1] using goal
  ·have e1:(es.set i (QaN es[i] off vs))[i']=es[i']:=by rw [List.getElem_set_ne (Ne.symm he)]
   have hj2:j<es[i'].length:=by rw [←e1];exact hj
   have hjs:j<sz:=by rw [←hz _ (List.getElem_mem hi2)];exact hj2
   obtain ⟨u,h3,h4⟩:=hr i' j hi2 hj2
   refine ⟨u,?_,by simp only [e1];exact h4⟩
   rcases Nat.lt_or_gt_of_ne he with hlt | hgt
   ·have:i' * sz+sz≤i * sz:=by
     calc i' * sz+sz=(i'+1) * sz:=by rw [Nat.add_mul,Nat.one_mul]
      _≤i * sz:=Nat.mul_le_mul_right _ hlt
    rw [if_pos (by omega)];exact h3
   ·have:i * sz+sz≤i' * sz:=by
     calc i * sz+sz=(i+1) * sz:=by rw [Nat.add_mul,Nat.one_mul]
      _≤i' * sz:=Nat.mul_le_mul_right _ hgt
    rw [if_neg (by omega),if_neg (by omega)];exact h3
end
section
variable {P:Program} {ops:Array Oper} {C:Ctx} {E:Env} {σ:St} {a:Act} {w:World}
theorem Qbu (hg:Gm C E σ a w) {k:Id} {e:TypeId} {sz:Nat} {es:List (List V)} (hr:σ (.r k)=.tree (.rw e sz es)) :
 ∃ us,w.ownsRow 0 e sz (E.bv k) es.length us∧(∀ r∈es,r.length=sz)∧(∀ i j (hi:i<es.length) (hj:j<es[i].length),∃ u,us[i * sz+j]? = some u∧Rd E.m (es[i][j]) u) ∧
  (∀ b,(E.bv k).ownBlock=some b→∀ i,E.m b i=none)∧E.bf k=(E.bv k).ownBlock.toList:=QBv (hg.tr.hg k _ hr).1
def Qd3 (P:Program) (σ:St) (d:Tmp) (t:TypeId) (x y:Operand):Stp:=
 match Qao P t,ev σ x,Qhq σ y with
 | some { sh:=.slice,elem:=e,.. },.ref k g,some (.int _ n)=>match σ (.r k) with
  | .tree (.rw e0 sz es)=>some ((Qao P e).map (·.size)=some sz∧gh σ k=g∧0≤n∧n<es.length,[.h k,.r k]++(rdl x++rdl y),[(.s d,.av (.elp k g sz n.toNat 0))])
  | _=>none
 | _,_,_=>none
theorem Qpy (d:Tmp) (t:TypeId) (x y:Operand):Qbl P C σ (some d) (.indexAddr t x y) (Qd3 P σ d t x y):=by
 unfold Qd3
 split
 ·rename_i e _ _ _ k g ik n ht hx hy
  split
  ·rename_i e0 sz es hr
   refine Qar fun hc ty pos af E σ' a w hr0 hg=>?_
   obtain ⟨h1,h2⟩:=Qaq hr0
   obtain ⟨h2,h3⟩:=Qaq h2
   obtain ⟨c1,c2,c3,c4⟩:=hc
   obtain ⟨it,dt,_,hdt,_,_,_,hsl,_⟩:=Qak ht
   have hsl:dt=.slice e:=hsl rfl
   subst hsl
   have hse:(sizeOf e).run P w=.ok sz w:=by
    cases hte:Qao P e with
    | none=>rw [hte] at c1;cases c1
    | some T=>rw [hte] at c1;simp at c1;rw [QaH hte,c1]
   have hv:=Qax hg x
   rw [Qae h2,hx] at hv
   have hgk:gh σ' k=g:=by rw [QaL (h1 (.h k) (by simp))];exact c2
   have hv:=hv.2 hgk.symm
   obtain ⟨us,q1,_⟩:=Qbu hg (by rw [h1 (.r k) (by simp)];exact hr)
   rcases q1.2 with ⟨q2,q3⟩ | ⟨b,cap,cur,q2,_⟩
   ·omega
   ·refine ⟨.pointer (some ⟨b,n.toNat * sz,none⟩),?_,Nat.le_of_eq hgk.symm,fun _=>⟨b,by rw [q2];rfl,by simp⟩⟩
    simp [execOp,hv,q2,QaS hy h3 hg,Instr.indexAt,asIntOf,run_underlying hdt,hse,QaF,c3,c4]
  ·intro _ _ _ h;cases h
 ·intro _ _ _ h;cases h
def Qd4 (P:Program) (σ:St) (d:Tmp) (s:TypeId) (x:Operand) (f:Nat):Stp:=
 match Qao P s,ev σ x with
 | some { sh:=.strct,fields:=fs,fok:=true,.. },.elp k g sz i o=>match fs[f]? with
  | some (off,size,_)=>some (size≠0∧gh σ k=g,rdl x++[.h k],[(.s d,.av (.elp k g sz i (o+off)))])
  | none=>none
 | _,_=>none
theorem Qpz (d:Tmp) (s:TypeId) (x:Operand) (f:Nat):Qbl P C σ (some d) (.fieldAddr s x f) (Qd4 P σ d s x f):=by
 unfold Qd4
 split
 ·rename_i _ _ _ _ _ fs _ k g sz i o ht hx
  split
  ·rename_i off size ag2 hf
   refine Qar fun hc ty pos af E σ' a w hr hg=>?_
   obtain ⟨h1,h2⟩:=Qaq hr
   have h3:=Qax hg x
   rw [Qae h1,hx] at h3
   obtain ⟨b,h4,h5⟩:=h3.2 (by rw [QaL (h2 (.h k) (by simp))];exact hc.2.symm)
   refine ⟨.pointer (some ⟨b,i * sz+o+off,none⟩),?_,h3.1,fun _=>⟨b,h4,by rw [Nat.add_assoc]⟩⟩
   simp [execOp,h5,Qe5 ht rfl rfl rfl hf hc.1]
  ·intro _ _ _ h;cases h
 ·intro _ _ _ h;cases h
def Qh5 (P:Program) (σ:St) (d:Tmp) (t:TypeId) (x:Operand):Stp:=
 match Qao P t,ev σ x with
 | some { agg:=false,.. },.elp k g sz i o=>match σ (.r k) with
  | .tree (.rw e sz' es)=>some (sz'=sz∧gh σ k=g∧i<es.length∧o<sz,[.h k,.r k]++rdl x,[(.s d,.av (.val ((es.getD i []).getD o .any)))])
  | _=>none
 | some { agg:=true,size:=s,.. },.elp k g sz i o=>match σ (.r k) with
  | .tree (.rw e sz' es)=>some (sz'=sz∧gh σ k=g∧i<es.length∧o+s≤sz,[.h k,.r k]++rdl x,[(.s d,.av (.val (.agg (((es.getD i []).drop o).take s))))])
  | _=>none
 | _,_=>none
theorem Qvw (d:Tmp) (t:TypeId) (x:Operand):Qbl P C σ (some d) (.load t x) (Qh5 P σ d t x):=by
 have cells:∀ (E:Env) (σ':St) (a:Act) (w:World),Gm C E σ' a w→∀ {k:Id} {e:TypeId} {sz:Nat} {es:List (List V)} {b:Nat},σ' (.r k)=.tree (.rw e sz es)→(E.bv k).ownBlock=some b →
   ∀ {i:Nat} (hi:i<es.length),es[i].length=sz∧∀ j (hj:j<es[i].length),∃ u,w.cell? ⟨b,i * sz+j,none⟩=some u∧Rd E.m (es[i][j]) u:=by
  intro E σ' a w hg k e sz es b hr hb i hi
  obtain ⟨us,q1,q2,q3,_⟩:=Qbu hg hr
  refine ⟨q2 _ (List.getElem_mem hi),fun j hj=>?_⟩
  obtain ⟨u,h1,h2⟩:=q3 i j hi hj
  refine ⟨u,?_,h2⟩
  have:=q1.cells (g:=b) hb (i * sz+j) u h1
  rwa [QaF,Nat.zero_add] at this
 unfold Qh5
 split
 ·rename_i _ _ _ _ _ _ _ _ k g sz i o ht hx
  split
  ·rename_i e sz' es hr
   refine Qar fun hc ty pos af E σ' a w hr0 hg=>?_
   obtain ⟨h1,h2⟩:=Qaq hr0
   obtain ⟨rfl,c2,c3,c4⟩:=hc
   have h3:=Qax hg x
   rw [Qae h2,hx] at h3
   obtain ⟨b,h4,h5⟩:=h3.2 (by rw [QaL (h1 (.h k) (by simp))];exact c2.symm)
   obtain ⟨q1,q2⟩:=cells E σ' a w hg (by rw [h1 (.r k) (by simp)];exact hr) h4 c3
   obtain ⟨u,h6,h7⟩:=q2 o (by omega)
   have he:(es.getD i []).getD o .any=es[i][o]'(by omega):=by simp [List.getD_eq_getElem?_getD,c3,show o<es[i].length by omega]
   rw [he]
   exact ⟨u,by simp [execOp,h5,Instr.loadAt,Instr.sureAddr,loadVar,Qbp ht,h6],h7⟩
  ·intro _ _ _ h;cases h
 ·rename_i _ s _ _ _ _ _ _ k g sz i o ht hx
  split
  ·rename_i e sz' es hr
   refine Qar fun hc ty pos af E σ' a w hr0 hg=>?_
   obtain ⟨h1,h2⟩:=Qaq hr0
   obtain ⟨rfl,c2,c3,c4⟩:=hc
   have h3:=Qax hg x
   rw [Qae h2,hx] at h3
   obtain ⟨b,h4,h5⟩:=h3.2 (by rw [QaL (h1 (.h k) (by simp))];exact c2.symm)
   obtain ⟨q1,q2⟩:=cells E σ' a w hg (by rw [h1 (.r k) (by simp)];exact hr) h4 c3
   have he:es.getD i []=es[i]:=by simp [List.getD_eq_getElem?_getD,c3]
   rw [he]
   have hcell:∀ j,j<s→∃ u,w.cell? ⟨b,i * sz'+o+j,none⟩=some u∧∀ h:o+j<es[i].length,Rd E.m (es[i][o+j]) u:=fun j hj=>by
    obtain ⟨u,h6,h7⟩:=q2 (o+j) (by omega)
    exact ⟨u,by rw [Nat.add_assoc];exact h6,fun _=>h7⟩
   obtain ⟨f,hf⟩:∃ f:Nat→Value,∀ j,j<s→w.cell? ⟨b,i * sz'+o+j,none⟩=some (f j)∧∀ h:o+j<es[i].length,Rd E.m (es[i][o+j]) (f j):=
    ⟨fun j=>if h:j<s then (hcell j h).choose else undef,fun j h=>by simp only [dif_pos h];exact (hcell j h).choose_spec⟩
   have hl:=run_loadCells (P:=P) w ⟨b,i * sz'+o,none⟩ s f (fun j hj=>by rw [QaF];exact (hf j hj).1)
   refine ⟨.agg ((List.range s).map f).toArray,by simp [execOp,h5,Instr.loadAt,Instr.sureAddr,loadVar,Qbp ht,QaH ht,hl],?_⟩
   refine Rd.agg _ _ (by simp;omega) (fun j hj=>?_)
   have hj':j<s:=by rw [List.length_take] at hj;omega
   have:=(hf j hj').2 (by omega)
   simpa using this
  ·intro _ _ _ h;cases h
 ·intro _ _ _ h;cases h
theorem QcR (hg:Gm C E σ a w) {k:Id} {e:TypeId} {sz:Nat} {es:List (List V)} (hr:σ (.r k)=.tree (.rw e sz es)) (hl:∀ i y,σ (.l k)≠.lent i y) {b:Nat} (hb:(E.bv k).ownBlock=some b) {p:Nat} {ys:List Value} (es':List (List V))
  (hp:p+ys.length≤es.length * sz) (h1:∀ y∈ys,y.oneCell'=true) (hn:es'.length=es.length) (hz:∀ r∈es',r.length=sz)
  (hrd:∀ us:List Value,us.length=es.length * sz→(∀ i j (hi:i<es.length) (hj:j<es[i].length),∃ u,us[i * sz+j]? = some u∧Rd E.m (es[i][j]) u) →
   ∀ i j (hi:i<es'.length) (hj:j<es'[i].length),∃ u,(us.take p++ys++us.drop (p+ys.length))[i * sz+j]? = some u∧Rd E.m (es'[i][j]) u) :
  ∃ w' E',(storeCells ⟨b,p,none⟩ ys 0).run P w=.ok () w'∧Gm C E' (Qaf σ (QaR σ k (.rw e sz es'))) a w'∧(∃ cap,E.bv k=.slice (some ⟨b,0,none⟩) es.length cap)∧Mo E σ E' (Qaf σ (QaR σ k (.rw e sz es'))):=by
 obtain ⟨us,q1,q2,q3,q4,q5⟩:=Qbu hg hr
 obtain ⟨w',r1,r2,r3,r4⟩:=Qln q1 hb hp h1
 have hh:Hg E.m w' [.rw e sz es'] [E.bv k] (E.bv k).ownBlock.toList:=Qkc (by rw [hn];exact r2) hz (hrd us q1.1 q3) q4
 have hbF:b∈E.bf k:=by rw [q5,hb];simp
 obtain ⟨E',g1,g2,_,_⟩:=hg.setT k _ _ _ w' hr (fun ys h=>by cases h) (fun y h=>by cases h) (fun ys h=>by cases h) hh (fun i hi=>.inl (by rw [q5];exact hi)) (r3.mono fun i _ hi=>by rw [hi];exact hbF) (fun i y h=>absurd h (hl i y))
 exact ⟨w',E',r1 P,g1,r4,g2⟩
def QfJ (P:Program) (σ:St) (t:TypeId) (x y:Operand):Stp:=
 match Qao P t,ev σ x,Qbs (ev σ y) with
 | some { size:=s,.. },.elp k g sz i o,some vs=>match σ (.r k),σ (.l k) with
  | .tree (.rw e sz' es),.lent _ _=>none
  | .tree (.rw e sz' es),_=>some (vs.length=s∧sz'=sz∧gh σ k=g∧i<es.length∧o+s≤sz∧vs.all Qfn=true,[.h k,.g k,.r k,.l k]++(rdl x++rdl y),QaR σ k (.rw e sz (es.set i (QaN (es.getD i []) o vs))))
  | _,_=>none
 | _,_,_=>none
theorem QrF (t:TypeId) (x y:Operand):Qbl P C σ none (.store t x y) (QfJ P σ t x y):=by
 unfold QfJ
 split
 ·rename_i _ _ s _ _ _ _ _ _ k g sz i o vs ht hx hy
  have key:∀ e sz' es,σ (.r k)=.tree (.rw e sz' es)→(∀ i y,σ (.l k)≠.lent i y)→Qbl P C σ none (.store t x y) (some (vs.length=s∧sz'=sz∧gh σ k=g∧i<es.length∧o+s≤sz∧vs.all Qfn=true,[.h k,.g k,.r k,.l k]++(rdl x++rdl y),QaR σ k (.rw e sz (es.set i (QaN (es.getD i []) o vs))))):=by
   intro e sz' es hr hl c' L' W' he hc ops ty pos af E σ' a w Kt Q hd hr0 hg hK
   simp only [Option.some.injEq,Prod.mk.injEq] at he
   obtain ⟨rfl,rfl,rfl⟩:=he
   obtain ⟨c1,rfl,c3,c4,c5,c6⟩:=hc
   obtain ⟨h1,h2⟩:=Qaq (QcS hr0)
   obtain ⟨h2,h3⟩:=Qaq h2
   have hpt:=Qax hg x
   rw [Qae h2,hx] at hpt
   obtain ⟨b,h4,h5⟩:=hpt.2 (by rw [QaL (h1 (.h k) (by simp))];exact c3.symm)
   have hval:=Qax hg y
   rw [Qae h3] at hval
   obtain ⟨p1,p2⟩:=Qj2 hval hy
   have hr':σ' (.r k)=.tree (.rw e sz' es):=by rw [h1 _ (by simp)];exact hr
   have hl':∀ i y,σ' (.l k)≠.lent i y:=fun i y=>by rw [h1 _ (by simp)];exact hl i y
   have hyl:(a.eval y).cells.toList.length=vs.length:=by simpa using p1
   have hmul:i * sz'+sz'≤es.length * sz':=by
    calc i * sz'+sz'=(i+1) * sz':=by rw [Nat.add_mul,Nat.one_mul]
     _≤es.length * sz':=Nat.mul_le_mul_right _ c4
   have hpart:=fun us q1 q3=>QyF (m:=E.m) (us:=us) (ys:=(a.eval y).cells.toList) (vs:=vs) (i:=i) (off:=o) (Qbu hg hr').choose_spec.2.1 q1 q3 c4 (by omega) hyl (fun j hj=>by
    obtain ⟨u,h6,h7⟩:=p2 j hj
    exact ⟨u,by simpa using h6,h7⟩)
   obtain ⟨us0,u1,u2,u3,_⟩:=Qbu hg hr'
   obtain ⟨w',E',r1,r2,r3,_⟩:=QcR (P:=P) hg hr' hl' h4 (p:=i * sz'+o) (ys:=(a.eval y).cells.toList) (es.set i (QaN (es.getD i []) o vs)) (by omega) (fun v hv=>by
     obtain ⟨j,hj,rfl⟩:=List.getElem_of_mem hv
     obtain ⟨u,h6,h7⟩:=p2 j (by omega)
     have h8:=Qcu h7 (List.all_eq_true.1 c6 vs[j] (List.getElem_mem (by omega)))
     have:(a.eval y).cells.toList[j]=u:=by
      have:=List.getElem?_eq_getElem hj
      rw [Array.getElem?_toList,h6] at this
      exact (Option.some.inj this).symm
     rw [this];exact h8) (by simp) (hpart us0 u1.1 u3).1 (fun us q1 q3=>(hpart us q1 q3).2)
   have e0:QaR σ k (.rw e sz' (es.set i (QaN (es.getD i []) o vs)))=QaR σ' k (.rw e sz' (es.set i (QaN (es.getD i []) o vs))):=by unfold QaR;rw [Qaz (h1 (.g k) (by simp))]
   rw [e0] at hK
   rw [if_pos (by simp [Region.wanted])]
   have hrun:(execOp a.eval ⟨none,.store t x y,ty,pos,af,none⟩).run P w=.ok .skip w':=by
    have hsz:=QaH (P:=P) ht w
    have hcs:(a.eval y).cells.size=s:=by omega
    simp [execOp,h5,Instr.storeAt,Instr.sureAddr,storeVar,hsz,hcs,r1]
   show Oper.upon _ _ _ _ _ _
   rw [hrun]
   exact hK _ _ E' (by simpa [Act.put] using r2)
  split
  ·intro _ _ _ h;cases h
  ·rename_i e sz' es hr hl
   exact key e sz' es hr (fun i y h=>hl i y h)
  ·intro _ _ _ h;cases h
 ·intro _ _ _ h;cases h
end
end Go.Proofs.YthfocmakkeonoaaGreatDoor
namespace Go.Proofs.YthfocmakkeonoaaGreatDoor
open Go.RowKit
section
variable {P:Program} {ops:Array Oper} {C:Ctx} {E:Env} {σ:St} {a:Act} {w:World}
theorem Gm.fresh (hg:Gm C E σ a w) {b:Nat} (hb:w.heap.size≤b) (i:Nat):E.m b i=none:=by
 cases hc:E.m b i with
 | none=>rfl
 | some v=>
  have h1:=World.block_lt_of_cell? w _ (hg.ms _ _ _ hc)
  exact absurd h1 (Nat.not_lt.2 hb)
theorem Gm.treeAt (hg:Gm C E σ a w) (k:Id) (hk:k.2≠0) {e:TypeId} {sz:Nat} {es:List (List V)} {v:Value} {w':World} {us:List Value} (hc:Chg (fun b=>v.ownBlock=some b) w w') (hb:∀ b,v.ownBlock=some b→w.heap.size≤b) (ho:w'.ownsRow 0 e sz v es.length us)
  (hz:∀ r∈es,r.length=sz) (hr:∀ i j (hi:i<es.length) (hj:j<es[i].length),∃ u,us[i * sz+j]? = some u∧Rd E.m (es[i][j]) u) :
  ∃ E',Gm C E' (Qaf σ (QaA σ k (.rw e sz es))) a w'∧RdA E' (Qaf σ (QaA σ k (.rw e sz es))) (.ref k (gh σ k+1)) v:=by
 have hc0:Chg (fun _=>False) w w':=⟨hc.os,hc.tape,hc.output,hc.size,fun b h1 _=>hc.block b h1 fun h2=>by have:=hb b h2;omega⟩
 have hA:Gm C { E with m:=E.m } σ a w':=hg.turn (fun _=>False) w' E.m hc0 (Mem.le_refl _) (fun b i u hu=>by
   have h1:=hg.ms _ _ _ hu
   have hlt:=World.block_lt_of_cell? w _ h1
   rw [World.cell?_of_block (w:=w) (hc0.block _ hlt id)];exact h1) (fun b h=>h.elim) (fun b _ h=>h) (fun b mb n bs l _ h=>h) (fun b i _ _=>rfl)
 obtain ⟨E',g1,_,_,_,_,g6⟩:=hA.gainTree k (.rw e sz es) v v.ownBlock.toList (fun y h=>by cases h) (Qkc ho hz hr fun b h i=>hg.fresh (hb b h) i) (fun b h=>by
  have h1:v.ownBlock=some b:=by simpa using h
  have h2:=hb b h1
  exact ⟨.inr (Nat.le_trans hg.fr.size h2),fun ⟨t,ht⟩=>by have:=(hg.ho_dd (E:=E) (t:=t) (by cases t <;> exact ht)).1;omega⟩) hk
 exact ⟨E',g1,g6.toA⟩
def QBw (P:Program) (σ:St) (tx:TypeId) (x:Operand) (new:List (List V)) (n by_ sz:Nat) (z:List Value):Prop:=
 (n+new.length) * by_≤140737488355328∧n+new.length≤9223372036854775807∧z.length=sz∧0<sz∧(∀ r∈new,r.length=sz)∧(∀ r∈new,∀ y∈r,Qfn y=true) ∧
  (if Qba (ev σ x) then (Qao P tx).map (·.sh)=some .slice else (Qao P tx).map (·.sh)=some .str∧sz=1)
def Qd5 (P:Program) (σ:St) (d:Tmp) (t tx:TypeId) (s x:Operand):Stp:=
 match Qao P t,ev σ s with
 | some { sh:=.slice,elem:=e,.. },.ref k g=>match σ (.r k),Qao P e,QaW (ev σ x) with
  | .tree (.rw e' sz' old),some { size:=sz,bytes:=by_,zero:=z,zok:=true,.. },some new=>
   some (QBw P σ tx x new old.length by_ sz z∧e'=e∧sz'=sz∧gh σ k=g,[.h k,.g k,.r k]++(rdl s++rdl x),Qcw σ k (.rw e sz (old++new))++[(.s d,.av (.ref k (gh σ k+1)))])
  | _,_,_=>none
 | _,_=>none
theorem Qe9 {σ':St} {k:Id} {x:T} (h1:σ' (.g k)=σ (.g k)) (h2:σ' (.h k)=σ (.h k)):Qcw σ' k x=Qcw σ k x:=by unfold Qcw;rw [Qaz h1,QaL h2]
theorem QpA (d:Tmp) (t tx:TypeId) (s x:Operand):Qbl P C σ (some d) (.call { callee:=.builtin .append,args:=#[s,x],argTypes:=#[t,tx] }) (Qd5 P σ d t tx s x):=by
 unfold Qd5
 split
 ·rename_i e _ _ _ k g ht hs
  split
  ·rename_i e' sz' old _ _ sz by_ z _ _ _ new hr hte hnew
   refine QaV (W0:=Qcw σ k (.rw e sz (old++new))) fun hc ty pos af E σ' a w hr0 hg hd=>?_
   obtain ⟨hc0,rfl,rfl,hcg⟩:=hc
   obtain ⟨c1,c2,c3,c4,c5,c6,c7⟩:=hc0
   obtain ⟨h1,h2⟩:=Qaq hr0
   obtain ⟨h2,h3⟩:=Qaq h2
   obtain ⟨it,dt,_,hdt,_,_,_,hsl,_⟩:=Qak ht
   have hsl:dt=.slice e':=hsl rfl
   subst hsl
   obtain ⟨ie,de,hie,hde,hsz,hby,_,_,_,_,_,_,_,hz,_,_,_,hzk⟩:=Qak hte
   obtain ⟨zv,hzv⟩:=Option.isSome_iff_exists.1 hzk.symm
   have hz:z=zv.cells.toList:=by rw [hzv] at hz;exact hz
   have hk':σ' (.r k)=.tree (.rw e' sz' old):=by rw [h1 _ (by simp)];exact hr
   have e0:Qcw σ k (.rw e' sz' (old++new))=Qcw σ' k (.rw e' sz' (old++new)):=(Qe9 (h1 _ (by simp)) (h1 _ (by simp))).symm
   have e1:gh σ k=gh σ' k:=(QaL (h1 (.h k) (by simp))).symm
   have hvs:=Qax hg s
   rw [Qae h2,hs] at hvs
   have hvs:=hvs.2 (by rw [←e1];exact hcg.symm)
   have hvx:=Qax hg x
   rw [Qae h3] at hvx
   obtain ⟨us,q1,q2,q3,q4,q5⟩:=Qbu hg hk'
   obtain ⟨news,hsrc,hnr⟩:=Qla (P:=P) (tx:=tx) hg hvx hnew c5 c6 (by
    split
    ·rename_i hb;rw [if_pos hb] at c7;exact QbM c7
    ·rename_i hb;rw [if_neg hb] at c7;exact ⟨QeU c7.1,c7.2⟩)
   have hzs:zv.cells.size=sz':=by rw [←c3,hz];simp
   obtain ⟨v',w',r1,r2,r3,r4,_⟩:=Qce w t tx ty e' ie zv sz' by_ hdt hie hzv hsz.symm hby.symm hzs c4 (E.bv k) old.length us q1 _ _ _ hsrc (by unfold maxLen;omega) c1
   have hl:(old++new).length=old.length+new.length:=by simp
   have hfr:∀ b,v'.ownBlock=some b→∀ i,E.m b i=none:=fun b hb i=>by
    rcases r4 b hb with h | h
    ·exact hg.fresh h i
    ·exact q4 b h i
   have hh:Hg E.m w' [.rw e' sz' (old++new)] [v'] v'.ownBlock.toList:=Qkc (by rw [hl];exact r2) (fun r h=>by
    rcases List.mem_append.1 h with h | h
    ·exact q2 r h
    ·exact c5 r h) (Qck q1.1 (fun i h=>q2 _ (List.getElem_mem h)) q3 hnr) hfr
   have hF:∀ b∈v'.ownBlock.toList,b∈E.bf k∨w.heap.size≤b:=fun b hb=>by
    have hb:v'.ownBlock=some b:=by simpa using hb
    rcases r4 b hb with h | h
    ·exact .inr h
    ·exact .inl (by rw [q5,h];simp)
   have hch:Chg (fun b=>b∈E.bf k) w w':=⟨r3.os,r3.tape,r3.output,r3.size,fun b h5 h6=>r3.block b h5 fun h7=>by
    rcases r4 b h7 with h | h
    ·omega
    ·exact h6 (by rw [q5,h];simp)⟩
   obtain ⟨E',g1,g2,g3,g4⟩:=hg.newT k _ _ v' _ w' hk' (fun y h=>by cases h) (fun ys h=>by cases h) hh hF hch
   rw [e0,e1]
   refine ⟨v',w',E',?_,g1,g4⟩
   simp [execOp,resolve,invoke,builtin,hvs,r1]
  ·intro _ _ _ h;cases h
 ·intro _ _ _ h;cases h
def Qvx (P:Program) (σ:St) (d:Tmp) (t:TypeId) (x:Operand) (lo hi mx:Option Operand):Stp:=
 match QbN σ lo,QbN σ hi,mx with
 | some l,some h,none=>match Qao P t,ev σ x with
  | some { sh:=.slice,elem:=e,.. },.ref k g=>match σ (.r k) with
   | .tree (.rw e' sz es)=>some ((Qao P e).map (·.size)=some sz∧Qdz l=0∧0≤Qdl es.length h∧Qdl es.length h≤es.length∧gh σ k=g,[.h k,.g k,.r k]++(rdl x++(bl lo++bl hi)),
    Qcw σ k (.rw e' sz (es.take (Qdl es.length h).toNat))++[(.s d,.av (.ref k (gh σ k+1)))])
   | _=>none
  | _,_=>none
 | _,_,_=>none
theorem Qn1 {b e:Nat} {sz n n':Nat} {v:Value} {us:List Value} (h:w.ownsRow 0 e sz v n us) (hn:n'≤n):∃ A c,v=.slice A n c∧n≤c∧(A=none∨∃ b,A=some ⟨b,0,none⟩)∧w.ownsRow 0 e sz (.slice A n' c) n' (us.take (n' * sz)):=by
 have hmul:n' * sz≤n * sz:=Nat.mul_le_mul_right _ hn
 rcases h.2 with ⟨rfl,rfl⟩ | ⟨g,cap,cur,rfl,h0,hg,hnc,hcm,hcs,htake⟩
 ·obtain rfl:n'=0:=by omega
  exact ⟨none,0,rfl,Nat.le_refl _,.inl rfl,by simp,.inl ⟨rfl,rfl⟩⟩
 ·refine ⟨some ⟨g,0,none⟩,cap,rfl,hnc,.inr ⟨g,rfl⟩,?_,.inr ⟨g,cap,cur,rfl,h0,hg,by omega,hcm,hcs,?_⟩⟩
  ·rw [List.length_take,h.1];omega
  ·rw [←htake,List.take_take,Nat.min_eq_left hmul]
theorem Qcm (dT sT ty elem:TypeId) (size:Nat) (base:Option Addr) (dLen dCap:Nat) (x:Value) (m:Nat) (news:List Value) (w':World) (hu:P.underlying dT=some (.slice elem)) (hs:(P.info? elem).map (·.size)=some size) (hsrc:Src P size sT x m news w) (hle:m≤dLen)
  (hst:∀ g,base=some g→(storeCells g news 0).run P w=.ok () w') (hn:base=none→w'=w):(Builtin.copy_ #[dT,sT] ty #[.slice base dLen dCap,x]).run P w=.ok (goInt m) w':=by
 have hmin:Nat.min m dLen=m:=Nat.min_eq_left hle
 cases hq:P.info? elem with
 | none=>rw [hq] at hs;cases hs
 | some i=>
  have hi:i.size=size:=by simpa [hq] using hs
  cases base with
  | none=>rw [hn rfl];simp [Builtin.copy_,run_underlying hu,hsrc.len,sizeOf,typeInfo,hq,hmin,hi,hsrc.cells]
  | some g=>simp [Builtin.copy_,run_underlying hu,hsrc.len,sizeOf,typeInfo,hq,hmin,hi,hsrc.cells,hst g rfl]
def Qh6 (P:Program) (σ:St) (d:Tmp) (t tx:TypeId) (s x:Operand):Stp:=
 match Qao P t,ev σ s with
 | some { sh:=.slice,elem:=e,.. },.ref k g=>match σ (.r k),σ (.l k),QaW (ev σ x) with
  | .tree (.rw e' sz old),.lent _ _,some new=>none
  | .tree (.rw e' sz old),_,some new=>some (new.length≤old.length∧(Qao P e).map (·.size)=some sz∧(∀ r∈new,r.length=sz)∧(∀ r∈new,∀ y∈r,Qfn y=true)∧(if Qba (ev σ x) then (Qao P tx).map (·.sh)=some .slice else (Qao P tx).map (·.sh)=some .str∧sz=1)∧gh σ k=g,
   [.h k,.g k,.r k,.l k]++(rdl s++rdl x),QaR σ k (.rw e' sz (new++old.drop new.length))++[(.s d,.av (.val (.sc (.int .i64 new.length))))])
  | _,_,_=>none
 | _,_=>none
theorem QyG {m:Mem} {old new:List (List V)} {us news:List Value} {sz:Nat} (hul:us.length=old.length * sz) (hso:∀ r∈old,r.length=sz) (hnl:news.length=new.length * sz) (hle:new.length≤old.length) (hsn:∀ r∈new,r.length=sz)
  (h1:∀ i j (hi:i<old.length) (hj:j<old[i].length),∃ u,us[i * sz+j]? = some u∧Rd m (old[i][j]) u) (h2:∀ i j (hi:i<new.length) (hj:j<new[i].length),∃ u,news[i * sz+j]? = some u∧Rd m (new[i][j]) u) :
  ∀ i j (hi:i<(new++old.drop new.length).length) (hj:j<(new++old.drop new.length)[i].length),∃ u,(us.take 0++news++us.drop (0+news.length))[i * sz+j]? = some u∧Rd m ((new++old.drop new.length)[i][j]) u:=by
 have h3:=Qck (m:=m) (old:=new) (new:=old.drop new.length) (xs:=news) (news:=us.drop (new.length * sz)) (sz:=sz) hnl (fun i h=>hsn _ (List.getElem_mem h)) h2 (fun i j hi hj=>by
  have hi2:new.length+i<old.length:=by rw [List.length_drop] at hi;omega
  have e1:(old.drop new.length)[i]=old[new.length+i]:=by simp
  have hj2:j<old[new.length+i].length:=by rw [←e1];exact hj
  obtain ⟨u,q1,q2⟩:=h1 _ j hi2 hj2
  exact ⟨u,by rw [List.getElem?_drop,←q1];congr 1;rw [Nat.add_mul];omega,by simp only [e1];exact q2⟩)
 simpa [hnl] using h3
theorem Qvy (d:Tmp) (t tx:TypeId) (s x:Operand):Qbl P C σ (some d) (.call { callee:=.builtin .copy,args:=#[s,x],argTypes:=#[t,tx] }) (Qh6 P σ d t tx s x):=by
 unfold Qh6
 split
 ·rename_i e _ _ _ k g ht hs
  have key:∀ e' sz old new,σ (.r k)=.tree (.rw e' sz old)→(∀ i y,σ (.l k)≠.lent i y)→QaW (ev σ x)=some new→Qbl P C σ (some d) (.call { callee:=.builtin .copy,args:=#[s,x],argTypes:=#[t,tx] })
    (some (new.length≤old.length∧(Qao P e).map (·.size)=some sz∧(∀ r∈new,r.length=sz)∧(∀ r∈new,∀ y∈r,Qfn y=true)∧(if Qba (ev σ x) then (Qao P tx).map (·.sh)=some .slice else (Qao P tx).map (·.sh)=some .str∧sz=1)∧gh σ k=g,
    [.h k,.g k,.r k,.l k]++(rdl s++rdl x),QaR σ k (.rw e' sz (new++old.drop new.length))++[(.s d,.av (.val (.sc (.int .i64 new.length))))])):=by
   intro e' sz old new hr hl hnew
   refine QaV (W0:=QaR σ k (.rw e' sz (new++old.drop new.length))) fun hc ty pos af E σ' a w hr0 hg hd=>?_
   obtain ⟨c1,c2,c3,c4,c5,c6⟩:=hc
   obtain ⟨h1,h2⟩:=Qaq hr0
   obtain ⟨h2,h3⟩:=Qaq h2
   obtain ⟨it,dt,_,hdt,_,_,_,hsl,_⟩:=Qak ht
   have hsl:dt=.slice e:=hsl rfl
   subst hsl
   have hie:(P.info? e).map (·.size)=some sz:=by
    cases hte:Qao P e with
    | none=>rw [hte] at c2;cases c2
    | some T=>obtain ⟨ie,de,hie,hde,hsz,_⟩:=Qak hte;rw [hte] at c2;simp at c2;rw [hie];simp [←hsz,c2]
   have hk':σ' (.r k)=.tree (.rw e' sz old):=by rw [h1 _ (by simp)];exact hr
   have hl':∀ i y,σ' (.l k)≠.lent i y:=fun i y=>by rw [h1 _ (by simp)];exact hl i y
   have hvs:=Qax hg s
   rw [Qae h2,hs] at hvs
   have hvs:=hvs.2 (by rw [QaL (h1 (.h k) (by simp))];exact c6.symm)
   have hvx:=Qax hg x
   rw [Qae h3] at hvx
   obtain ⟨us,q1,q2,q3,q4,q5⟩:=Qbu hg hk'
   obtain ⟨news,hsrc,hnr⟩:=Qla (P:=P) (tx:=tx) hg hvx hnew c3 c4 (by
    split
    ·rename_i hb;rw [if_pos hb] at c5;exact QbM c5
    ·rename_i hb;rw [if_neg hb] at c5;exact ⟨QeU c5.1,c5.2⟩)
   have hnl:=hsrc.newsLen
   have e0:QaR σ k (.rw e' sz (new++old.drop new.length))=QaR σ' k (.rw e' sz (new++old.drop new.length)):=by unfold QaR;rw [Qaz (h1 (.g k) (by simp))]
   have hz:∀ r∈new++old.drop new.length,r.length=sz:=fun r h=>by
    rcases List.mem_append.1 h with h | h
    ·exact c3 r h
    ·exact q2 r (List.mem_of_mem_drop h)
   have hlen:(new++old.drop new.length).length=old.length:=by simp;omega
   rw [e0]
   cases hob:(E.bv k).ownBlock with
   | some b=>
    have hmul:new.length * sz≤old.length * sz:=Nat.mul_le_mul_right _ c1
    obtain ⟨w',E',r1,r2,⟨cap,r3⟩,r4⟩:=QcR (P:=P) hg hk' hl' hob (p:=0) (ys:=news) (new++old.drop new.length) (by omega) hsrc.one hlen hz (fun us' u1 u3=>QyG u1 q2 hnl c1 c3 u3 hnr)
    have hrun:=Qcm (P:=P) (w:=w) t tx ty e sz (some ⟨b,0,none⟩) old.length cap _ _ news w' hdt hie hsrc c1 (fun g hg=>by cases hg;exact r1) (fun h=>by cases h)
    rw [r3] at hvs
    exact ⟨.int .i64 new.length,w',E',by simp [execOp,resolve,invoke,builtin,hvs,hrun,goInt],r2,Rd.sc _⟩
   | none=>
    rcases q1.2 with ⟨p1,p2⟩ | ⟨b,cap,cur,p1,_⟩
    ·have hn0:new.length=0:=by omega
     have hne:new=[]:=List.eq_nil_of_length_eq_zero hn0
     have hoe:old=[]:=List.eq_nil_of_length_eq_zero p2
     subst hne
     subst hoe
     have hrun:=Qcm (P:=P) (w:=w) t tx ty e sz none 0 0 _ _ news w hdt hie hsrc c1 (fun g hg=>by cases hg) (fun _=>rfl)
     obtain ⟨E',g1,g2,_,_⟩:=hg.setT k _ (.rw e' sz []) _ w hk' (fun ys h=>by cases h) (fun y h=>by cases h) (fun ys h=>by cases h) (hg.tr.hg k _ hk').1 (fun b hb=>.inl hb) (Chg.refl _ _) (fun i y h=>absurd h (hl' i y))
     rw [p1] at hvs
     exact ⟨.int .i64 0,w,E',by simp at hrun;simp [execOp,resolve,invoke,builtin,hvs,hrun,goInt],by simpa using g1,Rd.sc _⟩
    ·rw [p1] at hob;cases hob
  split
  ·intro _ _ _ h;cases h
  ·rename_i e' sz old new hr hnew hl
   exact key e' sz old new hr (fun i y h=>hl i y h) hnew
  ·intro _ _ _ h;cases h
 ·intro _ _ _ h;cases h
end
end Go.Proofs.YthfocmakkeonoaaGreatDoor
