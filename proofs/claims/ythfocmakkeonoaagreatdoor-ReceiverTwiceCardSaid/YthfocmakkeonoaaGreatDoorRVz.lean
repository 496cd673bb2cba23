/- Calls of functions that only read: all that is known, also what changes, is lent as it stands. -/
import Derived.Test.YthfocmakkeonoaaGreatDoorRLz
import Derived.Test.YthfocmakkeonoaaGreatDoorTiz
import Derived.Lib.Overlaps
set_option linter.unusedVariables false
set_option linter.unusedSimpArgs false
set_option maxRecDepth 100000
set_option maxHeartbeats 16000000
namespace Go.Proofs.YthfocmakkeonoaaGreatDoor
open Go.RowKit
mutual
theorem Qio:∀ x:V,QdQ x x
 | .agg xs=>by simpa [QdQ] using QeA xs
 | .tup xs=>by simpa [QdQ] using QeA xs
 | .ifc t x=>by simpa [QdQ] using Qio x
 | .sc u=>by cases u <;> simp [QdQ]
 | .lst s es=>by simp [QdQ]
 | .ep xs=>by simp [QdQ]
 | .any=>by simp [QdQ]
theorem QeA:∀ xs:List V,Qjb xs xs
 | []=>trivial
 | x::xs=>⟨Qio x,QeA xs⟩
end
theorem QpZ (xs:List V):Qjb xs xs=True:=eq_true (QeA xs)
theorem QsG (x:V):QdQ x x=True:=eq_true (Qio x)
attribute [go_sem] QpZ QsG
def QsH:V→Prop
 | .sc _ | .any=>True
 | _=>False
def Qob:List V→Prop
 | []=>True
 | x::xs=>QsH x∧Qob xs
def Qzk:V→Prop
 | .agg xs | .tup xs=>Qob xs
 | x=>QsH x
def Qoc:List V→Prop
 | []=>True
 | x::xs=>Qzk x∧Qoc xs
def QmW:V→Prop
 | .agg xs | .tup xs=>Qoc xs
 | x=>QsH x
theorem Qwe {m m':Mem} {x:V} {v:Value} (hf:QsH x) (h:Rd m x v):Rd m' x v:=by
 cases h <;> first | exact Rd.sc _ | exact Rd.any _ | exact hf.elim
theorem Qip {m m':Mem}:∀ {xs:List V},Qob xs→∀ i (h:i<xs.length) v,Rd m xs[i] v→Rd m' xs[i] v
 | x::xs,hf,0,_,v,hr=>Qwe hf.1 hr
 | x::xs,hf,i+1,h,v,hr=>Qip (xs:=xs) hf.2 i (by simpa using h) v hr
theorem Qwf {m m':Mem} {x:V} {v:Value} (hf:Qzk x) (h:Rd m x v):Rd m' x v:=by
 cases h with
 | agg xs ys hl h=>exact .agg xs ys hl fun i hi=>Qip hf i hi _ (h i hi)
 | tup xs ys hl h=>exact .tup xs ys hl fun i hi=>Qip hf i hi _ (h i hi)
 | sc=>exact Rd.sc _
 | any=>exact Rd.any _
 | _=>exact hf.elim
theorem Qiq {m m':Mem}:∀ {xs:List V},Qoc xs→∀ i (h:i<xs.length) v,Rd m xs[i] v→Rd m' xs[i] v
 | x::xs,hf,0,_,v,hr=>Qwf hf.1 hr
 | x::xs,hf,i+1,h,v,hr=>Qiq (xs:=xs) hf.2 i (by simpa using h) v hr
theorem Qwg {m m':Mem} {x:V} {v:Value} (hf:QmW x) (h:Rd m x v):Rd m' x v:=by
 cases h with
 | agg xs ys hl h=>exact .agg xs ys hl fun i hi=>Qiq hf i hi _ (h i hi)
 | tup xs ys hl h=>exact .tup xs ys hl fun i hi=>Qiq hf i hi _ (h i hi)
 | sc=>exact Rd.sc _
 | any=>exact Rd.any _
 | _=>exact hf.elim
theorem QlH {α:Type} {sz:Nat}:∀ {es:List (List α)},(∀ r∈es,r.length=sz)→es.flatten.length=es.length * sz∧∀ i j (hi:i<es.length),j<sz→es.flatten[i * sz+j]? = (es[i])[j]?
 | [],_=>⟨by simp,fun i j hi=>by simp at hi⟩
 | r::es,h=>by
  obtain ⟨h1,h2⟩:=QlH (es:=es) fun r hr=>h r (List.mem_cons_of_mem _ hr)
  have hr:=h r (List.mem_cons_self ..)
  refine ⟨by rw [List.flatten_cons,List.length_append,h1,hr,List.length_cons,Nat.add_mul];omega,fun i j hi hj=>?_⟩
  rw [List.flatten_cons]
  cases i with
  | zero=>rw [List.getElem?_append_left (by omega)];simp
  | succ i=>
   rw [List.getElem?_append_right (by rw [hr,Nat.add_mul];omega),hr]
   have:=h2 i j (by simpa using hi) hj
   rw [show (i+1) * sz+j-sz=i * sz+j by rw [Nat.add_mul];omega]
   simpa using this
def QmX:Nat→T→V
 | 0,_=>.any
 | _+1,.av x=>x
 | n+1,.box xs=>.ep (xs.map (QmX n))
 | n+1,.row _ sz es=>.lst sz (es.map (·.map (QmX n)))
 | _+1,.rw _ sz es=>.lst sz es
 | _+1,.mp _=>.any
 | _+1,.pm _=>.any
 | _+1,.bag _=>.any
theorem QEW {m m2:Mem} {w:World} (hm:m.le m2) (hw:∀ b i v,w.cell? ⟨b,i,none⟩=some v→m2 b i=some v) {xs:List T} {vs:List Value} {F:List Nat} (h:Hg m w xs vs F) :
  ∀ (i:Nat) (x:T) (v:Value),xs[i]? = some x→vs[i]? = some v→∀ n,Rd m2 (QmX n x) v:=by
 induction h with
 | nil=>intro i x v h;simp at h
 | av hr hs ih=>
  intro i x v h1 h2 n
  cases i with
  | succ i=>exact ih i x v (by simpa using h1) (by simpa using h2) n
  | zero=>
   simp at h1 h2
   subst h1 h2
   cases n with
   | zero=>exact Rd.any _
   | succ n=>exact hr.mono hm
 | @box ys xs b us ty F vs F' hb hm0 hg hs h1 h2 h3 ih ih'=>
  intro i x v q1 q2 n
  cases i with
  | succ i=>exact ih' i x v (by simpa using q1) (by simpa using q2) n
  | zero=>
   simp at q1 q2
   subst q1 q2
   cases n with
   | zero=>exact Rd.any _
   | succ n=>
    have hl:=hg.len
    refine Rd.ep _ b 0 (fun j=>us.getD j undef) (fun j hj=>?_) (fun j hj=>?_)
    ·have hj2:j<us.length:=by simpa [hl] using hj
     rw [Nat.zero_add]
     apply hw
     rw [cell_of_row _ _ _ _ _ _ hb]
     simp [List.getD_eq_getElem?_getD,hj2]
    ·have hj1:j<ys.length:=by simpa using hj
     have hj2:j<us.length:=by omega
     rw [List.getElem_map]
     have:=ih j ys[j] us[j] (by simp [hj1]) (by simp [hj2]) n
     simpa [List.getD_eq_getElem?_getD,hj2] using this
 | @row e sz es xs v0 us F vs F' ho hz hm0 hg hs h3 ih ih'=>
  intro i x v q1 q2 n
  cases i with
  | succ i=>exact ih' i x v (by simpa using q1) (by simpa using q2) n
  | zero=>
   simp at q1 q2
   subst q1 q2
   cases n with
   | zero=>exact Rd.any _
   | succ n=>
    have hl:=hg.len
    refine Qjq ho (by simp) (fun i hi=>by rw [List.getElem_map,List.length_map];exact hz _ (List.getElem_mem _)) (fun b i u h1 h2=>?_) (fun i j hi hj=>?_)
    ·have:=ho.cells (g:=b) h1 i u h2
     rw [QaF,Nat.zero_add] at this
     exact hw _ _ _ this
    ·have hi1:i<es.length:=by simpa using hi
     have hj1:j<es[i].length:=by simpa using hj
     have hjs:j<sz:=by rw [←hz _ (List.getElem_mem hi1)];exact hj1
     obtain ⟨f1,f2⟩:=QlH hz
     have hlt:i * sz+j<es.flatten.length:=by
      rw [f1]
      have:(i+1) * sz≤es.length * sz:=Nat.mul_le_mul_right _ hi1
      rw [Nat.add_mul] at this;omega
     have hlu:i * sz+j<us.length:=by omega
     have hx:=f2 i j hi1 hjs
     refine ⟨us[i * sz+j],by simp [hlu],?_⟩
     have:=ih (i * sz+j) (es[i][j]) us[i * sz+j] (by rw [hx];simp [hj1]) (by simp [hlu]) n
     simpa using this
 | @rw e sz es xs v0 us vs F' ho hz hr hm0 hs ih=>
  intro i x v q1 q2 n
  cases i with
  | succ i=>exact ih i x v (by simpa using q1) (by simpa using q2) n
  | zero=>
   simp at q1 q2
   subst q1 q2
   cases n with
   | zero=>exact Rd.any _
   | succ n=>
    refine Qjq ho rfl (fun i hi=>hz _ (List.getElem_mem _)) (fun b i u h1 h2=>?_) (fun i j hi hj=>?_)
    ·have:=ho.cells (g:=b) h1 i u h2
     rw [QaF,Nat.zero_add] at this
     exact hw _ _ _ this
    ·have hjs:j<sz:=by rw [←hz _ (List.getElem_mem hi)];exact hj
     obtain ⟨f1,f2⟩:=Qew hz
     have hlt:i * sz+j<es.flatten.length:=by
      rw [f1]
      have:(i+1) * sz≤es.length * sz:=Nat.mul_le_mul_right _ hi
      rw [Nat.add_mul] at this;omega
     have hlu:i * sz+j<us.length:=by rw [hr.1];exact hlt
     have hx:=f2 i j hi hjs
     refine ⟨us[i * sz+j],by simp [hlu],?_⟩
     have:=hr.2 (i * sz+j) hlt hlu
     have he:es.flatten[i * sz+j]=es[i][j]:=by
      have h5:es.flatten[i * sz+j]? = some es.flatten[i * sz+j]:=List.getElem?_eq_getElem hlt
      rw [hx] at h5
      simpa [hj] using h5.symm
     rw [he] at this
     exact this.mono hm
 | mp hb hm0 hk hk2 hn hc hg hs h1 h2 h3 ih ih'=>
  intro i x v q1 q2 n
  cases i with
  | succ i=>exact ih' i x v (by simpa using q1) (by simpa using q2) n
  | zero=>
   simp at q1 q2
   subst q1 q2
   cases n with
   | zero=>exact Rd.any _
   | succ n=>exact Rd.any _
 | pm hp h hs h3 ih ih'=>
  intro i x v q1 q2 n
  cases i with
  | succ i=>exact ih' i x v (by simpa using q1) (by simpa using q2) n
  | zero=>
   simp at q1 q2
   subst q1 q2
   cases n with
   | zero=>exact Rd.any _
   | succ n=>exact Rd.any _
 | bag h hs h3 ih ih'=>
  intro i x v q1 q2 n
  cases i with
  | succ i=>exact ih' i x v (by simpa using q1) (by simpa using q2) n
  | zero=>
   simp at q1 q2
   subst q1 q2
   cases n with
   | zero=>exact Rd.any _
   | succ n=>exact Rd.any _
def pV (σ:St):AV→V
 | .ref k g=>match σ (.r k) with | .tree x=>QmX 4 x | _=>.any
 | x=>plain x
def QA4:AV→List Pl
 | .ref k _=>[.h k,.r k]
 | _=>[]
def QxM (σ:St):AV→Prop
 | .ref k g=>gh σ k=g
 | _=>True
def Qb8 (σ:St) (o:Id):Nat→Nat→List V
 | _,0=>[]
 | i,n+1=>pV σ (Qbj σ o i)::Qb8 σ o (i+1) n
def Qfe (σ:St) (o:Id):Nat→Nat→List Pl
 | _,0=>[]
 | i,n+1=>.c o i::(QA4 (Qbj σ o i)++Qfe σ o (i+1) n)
def Qff (σ:St) (o:Id):Nat→Nat→Prop
 | _,0=>True
 | i,n+1=>QxM σ (Qbj σ o i)∧Qff σ o (i+1) n
def QlI:X→Option Nat
 | .num n=>some n
 | _=>none
def Qjd (σ:St):AV→V
 | .ptr o g off=>match QlI (σ (.o o)) with | some n=>.ep (Qb8 σ o off (n-off)) | none=>.any
 | x=>pV σ x
def Qje (σ:St):AV→Prop
 | .ptr o g off=>gg σ o=g∧match QlI (σ (.o o)) with | some n=>Qff σ o off (n-off) | none=>True
 | x=>QxM σ x
def QlJ (σ:St):AV→List Pl
 | .ptr o g off=>[.g o,.o o]++match QlI (σ (.o o)) with | some n=>Qfe σ o off (n-off) | none=>[]
 | x=>QA4 x
def Qzl (σ:St):List AV→List FC→Prop
 | [],[]=>True
 | x::xs,.val y::cs=>Qje σ x∧QdQ (Qjd σ x) y∧Qzl σ xs cs
 | _,_=>False
def pFL (σ:St):List AV→List Pl
 | []=>[]
 | x::xs=>QlJ σ x++pFL σ xs
def Qwh (σ:St):AV→Arg→Prop
 | .fn K zs,.fn K' cs=>K=K'∧Qzl σ zs cs
 | .val (.sc (.func (.func K) a b)),.fn K' []=>K=K'∧a = #[]∧b = #[]
 | x,.ca (.val y)=>Qje σ x∧QdQ (Qjd σ x) y
 | _,_=>False
def Qzm (σ:St):AV→List Pl
 | .fn K zs=>pFL σ zs
 | x=>QlJ σ x
def Qjf (σ:St):List AV→List Arg→Prop
 | [],[]=>True
 | x::xs,a::as'=>Qwh σ x a∧Qjf σ xs as'
 | _,_=>False
def Qg4 (σ:St):List AV→List Pl
 | []=>[]
 | x::xs=>Qzm σ x++Qg4 σ xs
attribute [go_sem] QsH Qob Qzk Qoc QmW pV QA4 QxM Qb8 Qfe Qff QlI Qjd Qje QlJ Qzl pFL Qwh Qzm Qjf Qg4 QmX List.map_cons List.map_nil
section
variable {P:Program} {ops:Array Oper} {C:Ctx} {E:Env} {σ σ':St} {a:Act} {w:World} {md:Bool} {K:St→List FP→Prop} {acc:List FP} {rest:List Oper} {Q:Exit→St→Prop}
theorem Qbg {x:AV} (h:∀ l∈QA4 x,σ' l=σ l):(QxM σ' x↔QxM σ x)∧pV σ' x=pV σ x:=by
 cases x with
 | ref k g=>
  have h1:=h (.h k) (by simp [QA4])
  have h2:=h (.r k) (by simp [QA4])
  exact ⟨by simp only [QxM,QaL h1],by simp only [pV,h2]⟩
 | _=>exact ⟨Iff.rfl,rfl⟩
theorem Qg5 (o:Id):∀ (n i:Nat),(∀ l∈Qfe σ o i n,σ' l=σ l)→(Qff σ' o i n↔Qff σ o i n)∧Qb8 σ' o i n=Qb8 σ o i n
 | 0,_,_=>⟨Iff.rfl,rfl⟩
 | n+1,i,h=>by
  have h0:Qbj σ' o i=Qbj σ o i:=Qc3 (h _ (by simp [Qfe]))
  obtain ⟨h1,h2⟩:=Qbg (σ:=σ) (σ':=σ') (x:=Qbj σ o i) fun l hl=>h l (by simp [Qfe,hl])
  obtain ⟨h3,h4⟩:=Qg5 o n (i+1) fun l hl=>h l (by simp [Qfe,hl])
  exact ⟨by unfold Qff;rw [h0,h1,h3],by unfold Qb8;rw [h0,h2,h4]⟩
theorem Qjy {x:AV} (h:∀ l∈QlJ σ x,σ' l=σ l):(Qje σ' x↔Qje σ x)∧Qjd σ' x=Qjd σ x:=by
 cases x with
 | ptr o g off=>
  have h1:=h (.g o) (by simp [QlJ])
  have h2:=h (.o o) (by simp [QlJ])
  have hg:=Qaz h1
  cases hn:QlI (σ (.o o)) with
  | none=>exact ⟨by simp only [Qje,hg,h2,hn],by simp only [Qjd,h2,hn]⟩
  | some n=>
   obtain ⟨h3,h4⟩:=Qg5 (σ:=σ) (σ':=σ') o (n-off) off fun l hl=>h l (by simp [QlJ,hn,hl])
   exact ⟨by simp only [Qje,hg,h2,hn,h3],by simp only [Qjd,h2,hn,h4]⟩
 | val x=>exact Qbg (x:=.val x) h
 | own k g e sz es=>exact Qbg (x:=.own k g e sz es) h
 | ref k g=>exact Qbg (x:=.ref k g) h
 | elp k g sz i off=>exact Qbg (x:=.elp k g sz i off) h
 | vw k g sz off len=>exact Qbg (x:=.vw k g sz off len) h
 | cp k g c=>exact Qbg (x:=.cp k g c) h
 | pv u o g=>exact Qbg (x:=.pv u o g) h
 | nv u k g=>exact Qbg (x:=.nv u k g) h
 | ag xs=>exact Qbg (x:=.ag xs) h
 | fn K xs=>exact Qbg (x:=.fn K xs) h
theorem Qjz:∀ {xs:List AV} {cs:List FC},(∀ l∈pFL σ xs,σ' l=σ l)→Qzl σ xs cs→Qzl σ' xs cs
 | [],[],_,h=>h
 | x::xs,.val y::cs,hl,h=>by
  obtain ⟨h1,h2⟩:=Qjy (σ:=σ) (σ':=σ') (x:=x) fun l q=>hl l (List.mem_append_left _ q)
  exact ⟨h1.2 h.1,by rw [h2];exact h.2.1,Qjz (fun l q=>hl l (List.mem_append_right _ q)) h.2.2⟩
 | [],_::_,_,h=>h.elim
 | _::_,[],_,h=>h.elim
 | _::_,.ptr _ _::_,_,h=>h.elim
theorem QsI (hg:Gm C E σ a w) {x:AV} {v:Value} (h:RdA E σ x v) (hc:QxM σ x):Rd (cellsOf w) (pV σ x) v:=by
 have hm:E.m.le (cellsOf w):=fun b i u hu=>hg.ms b i u hu
 cases x with
 | ref k g=>
  show Rd (cellsOf w) (match σ (.r k) with | .tree x=>QmX 4 x | _=>.any) v
  cases hx:σ (.r k) with
  | tree x=>
   obtain ⟨h1,_⟩:=hg.tr.hg k x hx
   have hv:v=E.bv k:=h.2 hc.symm
   subst hv
   exact QEW (m2:=cellsOf w) hm (fun b i u hu=>hu) h1 0 x _ rfl rfl 4
  | _=>exact Rd.any _
 | _=>exact (Qc2 h).mono hm
theorem Qdf (σ:St) (o:Id):∀ (n i:Nat),(Qb8 σ o i n).length=n
 | 0,_=>rfl
 | n+1,i=>by simp [Qb8,Qdf σ o n]
theorem Qir (σ:St) (o:Id):∀ (n i j:Nat) (h:j<(Qb8 σ o i n).length),(Qb8 σ o i n)[j]=pV σ (Qbj σ o (i+j))
 | n+1,i,0,h=>rfl
 | n+1,i,j+1,h=>by
  show (Qb8 σ o (i+1) n)[j]'_=_
  rw [Qir σ o n (i+1) j,show i+(j+1)=i+1+j by omega]
theorem Qis:∀ {o:Id} {n i:Nat},Qff σ o i n→∀ j,j<n→QxM σ (Qbj σ o (i+j))
 | o,n+1,i,h,0,_=>h.1
 | o,n+1,i,h,j+1,hj=>by
  have:=Qis h.2 j (by omega)
  rwa [show i+(j+1)=i+1+j by omega]
theorem Qod (hg:Gm C E σ a w) {x:AV} {v:Value} (h:RdA E σ x v) (hc:Qje σ x):Rd (cellsOf w) (Qjd σ x) v:=by
 cases x with
 | ptr o g off=>
  obtain ⟨c1,c2⟩:=hc
  show Rd (cellsOf w) (match QlI (σ (.o o)) with | some n=>.ep (Qb8 σ o off (n-off)) | none=>.any) v
  cases hn:QlI (σ (.o o)) with
  | none=>exact Rd.any _
  | some n=>
   rw [hn] at c2
   dsimp only at c2
   show Rd (cellsOf w) (.ep (Qb8 σ o off (n-off))) v
   have ho:σ (.o o)=.num n:=by
    cases hx:σ (.o o) <;> rw [hx] at hn <;> simp [QlI] at hn
    rw [hn]
   have hv:v=.pointer (some ⟨E.loc o,off,none⟩):=h.2 c1.symm
   subst hv
   have key:∀ j,j<n-off→∃ u,w.cell? ⟨E.loc o,off+j,none⟩=some u∧RdA E σ (Qbj σ o (off+j)) u:=fun j hj=>Qdk hg ho (by omega)
   refine Rd.ep _ _ _ (fun j=>if hj:j<n-off then (key j hj).choose else undef) (fun j hj=>?_) (fun j hj=>?_)
   ·rw [Qdf] at hj
    simp only [dif_pos hj]
    exact (key j hj).choose_spec.1
   ·have hj2:=hj
    rw [Qdf] at hj2
    simp only [dif_pos hj2]
    rw [Qir]
    exact QsI hg (key j hj2).choose_spec.2 (Qis c2 j hj2)
 | _=>exact QsI hg h hc
theorem QsJ (hg:Gm C E σ a w):∀ {zs:List AV} {cs:List FC} {ys:List Value},Qzl σ zs cs→ys.length=zs.length→(∀ (i:Nat) (h1:i<zs.length) (h2:i<ys.length),RdP E σ zs[i] ys[i]) →
  ys.length=cs.length∧∀ (i:Nat) (c:FC) (y:Value),cs[i]? = some c→ys[i]? = some y→QDO (cellsOf w) [] c y
 | [],[],ys,_,hl,_=>⟨hl,fun i c y h=>by simp at h⟩
 | z::zs,.val x::cs,[],_,hl,_=>by simp at hl
 | z::zs,.val x::cs,y::ys,h,hl,hr=>by
  obtain ⟨h1,h2,h3⟩:=h
  obtain ⟨h4,h5⟩:=QsJ hg h3 (by simpa using hl) (fun i a b=>by have:=hr (i+1) (by simpa using a) (by simpa using b);simpa using this)
  refine ⟨by simp [h4],fun i c' y' q1 q2=>?_⟩
  cases i with
  | succ i=>exact h5 i c' y' (by simpa using q1) (by simpa using q2)
  | zero=>
   simp at q1 q2
   subst q1 q2
   have h0:=hr 0 (by simp) (by simp)
   simp only [List.getElem_cons_zero] at h0
   exact Qec _ _ h2 _ _ (Qod hg h0.toA h1)
 | [],_::_,_,h,_,_=>h.elim
 | _::_,[],_,h,_,_=>h.elim
 | _::_,.ptr _ _::_,_,h,_,_=>h.elim
theorem Qoe {x:AV} {y:V} (h:Qje σ x∧QdQ (Qjd σ x) y):Qwh σ x (.ca (.val y)):=by
 cases x with
 | val v=>
  cases v with
  | sc u=>
   cases u with
   | func f a b=>cases f <;> exact h
   | _=>exact h
  | _=>exact h
 | _=>exact h
theorem QjA {x:AV} {b:Arg} (h:Qwh σ x b):(∃ K zs cs,x=.fn K zs∧b=.fn K cs∧Qzl σ zs cs)∨(∃ K,x=.val (.sc (.func (.func K) #[] #[]))∧b=.fn K [])∨∃ y,b=.ca (.val y)∧Qje σ x∧QdQ (Qjd σ x) y:=by
 unfold Qwh at h
 split at h
 ·obtain ⟨rfl,h⟩:=h;exact .inl ⟨_,_,_,rfl,rfl,h⟩
 ·obtain ⟨rfl,rfl,rfl⟩:=h;exact .inr (.inl ⟨_,rfl,rfl⟩)
 ·exact .inr (.inr ⟨_,rfl,h⟩)
 ·exact h.elim
theorem Qzn (hg:Gm C E σ a w) {x:AV} {b:Arg} {v:Value} (h:Qwh σ x b) (hv:RdA E σ x v):Qrw (cellsOf w) w [] b v []:=by
 rcases QjA h with ⟨K,zs,cs,rfl,rfl,h2⟩ | ⟨K,rfl,rfl⟩ | ⟨y,rfl,h1,h2⟩
 ·obtain ⟨ys,rfl,hl,hr⟩:=hv
  obtain ⟨p1,p2⟩:=QsJ hg h2 hl hr
  exact ⟨⟨ys,rfl,p1,p2⟩,rfl⟩
 ·have hv3:=Rd.sc_eq hv
  subst hv3
  exact ⟨⟨[],rfl,rfl,fun i c y q=>by simp at q⟩,rfl⟩
 ·exact ⟨Qec _ _ h2 _ _ (Qod hg hv h1),rfl⟩
theorem Qof (hg:Gm C E σ a w):∀ {xs:List AV} {args:List Arg} {vs:List Value},Qjf σ xs args→AllA E σ xs vs→ArgsOk (cellsOf w) w [] args vs []
 | [],[],[],_,_=>.nil
 | [],[],_::_,_,h=>h.elim
 | [],_::_,_,h,_=>h.elim
 | _::_,_,[],_,h=>h.elim
 | _::_,[],_::_,h,_=>h.elim
 | x::xs,arg::as',v::vs,h,hv=>ArgsOk.cons (F:=[]) (F':=[]) (Qzn hg h.1 hv.1) (Qof hg h.2 hv.2) (fun b hb=>by cases hb)
theorem Qp0 {x:AV} {b:Arg} (hl:∀ l∈Qzm σ x,σ' l=σ l) (h:Qwh σ x b):Qwh σ' x b:=by
 rcases QjA h with ⟨K,zs,cs,rfl,rfl,h2⟩ | ⟨K,rfl,rfl⟩ | ⟨y,rfl,h1,h2⟩
 ·exact ⟨rfl,Qjz hl h2⟩
 ·exact ⟨rfl,rfl,rfl⟩
 ·have key:(∀ l∈QlJ σ x,σ' l=σ l)→Qwh σ' x (.ca (.val y)):=fun hl=>by
   obtain ⟨h3,h4⟩:=Qjy hl
   exact Qoe ⟨h3.2 h1,by rw [h4];exact h2⟩
  cases x with
  | fn K zs=>exact Qoe ⟨trivial,h2⟩
  | _=>exact key hl
theorem Qit:∀ {xs:List AV} {args:List Arg},(∀ l∈Qg4 σ xs,σ' l=σ l)→Qjf σ xs args→Qjf σ' xs args
 | [],[],_,_=>trivial
 | [],_::_,_,h=>h.elim
 | _::_,[],_,h=>h.elim
 | x::xs,arg::as',hl,h=>⟨Qp0 (fun l q=>hl l (List.mem_append_left _ q)) h.1,Qit (fun l q=>hl l (List.mem_append_right _ q)) h.2⟩
theorem Qog {d:Tmp} {callee:Callee} {F:FuncId} {xs:List Operand} {tys:Array TypeId} {args:List Arg} {y:V} {zs:List AV} {L0:List Pl} (hspec:Qan P F args [] (.ca (.val y)) []) (hfl:QmW y)
  (hz:∀ (E:Env) (σ':St) (a:Act) (w:World),(∀ l∈L0,σ' l=σ l)→Gm C E σ' a w→∃ us:List Value,us.length=zs.length∧(∀ (j:Nat) (x:AV) (v:Value),zs[j]? = some x→us[j]? = some v→RdA E σ' x v) ∧
   ∀ ty pos af,(execOp a.eval ⟨some d,.call { callee:=callee,args:=xs.toArray,argTypes:=tys },ty,pos,af,none⟩).run P w=.ok (.enter F ((xs.map a.eval)++us).toArray) w)
  (h:Qjf σ (xs.map (ev σ)++zs) args) (ty:TypeId) (pos:String) (af:Array Edge) :
  OpOk P ops C ⟨some d,.call { callee:=callee,args:=xs.toArray,argTypes:=tys },ty,pos,af,none⟩ (rds σ (L0++(QcC xs++Qg4 σ (xs.map (ev σ)++zs)))) [(.s d,.av (.val y))]:=by
 intro E σ' a w Kt Q hd hr hg hK'
 have hr:=QcS hr
 have hd0:=hd d rfl
 obtain ⟨hr0,hr⟩:=Qaq hr
 obtain ⟨hr1,hr2⟩:=Qaq hr
 have h':=Qit (σ':=σ') hr2 h
 rw [←QfD hr1] at h'
 obtain ⟨us,hu1,hu2,hrun⟩:=hz E σ' a w hr0 hg
 have hall:AllA E σ' (xs.map (ev σ')++zs) (xs.map a.eval++us):=Qj6 (by simp [hu1]) fun j x v q1 q2=>by
  rcases Nat.lt_or_ge j xs.length with hj | hj
  ·rw [List.getElem?_append_left (by simpa using hj),List.getElem?_map,List.getElem?_eq_getElem hj] at q1 q2
   cases q1;cases q2;exact Qax hg _
  ·rw [List.getElem?_append_right (by simpa using hj)] at q1 q2
   simp only [List.length_map] at q1 q2
   exact hu2 _ x v q1 q2
 have hH:Holds (cellsOf w) w (xs.map a.eval++us) args [] [] [] []:=⟨fun b i v h=>h,Qof hg h' hall,.nil,fun b hb=>by cases hb⟩
 have hcall:=hspec (cellsOf w) w _ [] [] [] hH
 rw [if_pos (by simp [Region.wanted])]
 show Oper.upon _ _ _ _ _ _
 rw [hrun]
 show Calls _ _ _ _ _
 refine hcall.mono ?_
 rintro e w' ⟨v,m',bs',F',G',rfl,hH',hmle,hchg,hbs',hmk,hnew⟩
 show Kt (a.put (some d) v) w'
 have hc0:Chg (fun _=>False) w w':=⟨hchg.os,hchg.tape,hchg.output,hchg.size,fun b h1 _=>hchg.block b h1 fun h2=>by simp at h2⟩
 have g2:Gm C { E with m:=E.m } σ' a w':=hg.turn (fun _=>False) w' E.m hc0 (Mem.le_refl _) (fun b i u hu=>by
   have h1:=hg.ms _ _ _ hu
   have hlt:=World.block_lt_of_cell? w _ h1
   rw [World.cell?_of_block (w:=w) (hc0.block _ hlt id)];exact h1) (fun b h=>h.elim) (fun b _ h=>h) (fun b mb n bs l _ h=>h) (fun b i _ _=>rfl)
 have hres:=hH'.ar
 cases hres with
 | @cons _ _ F0 _ _ F1 q1 q2 q3=>
  refine hK' _ _ E ?_
  exact Gm.slot g2 d (.val y) v hd0 (Qwg hfl q1.1)
theorem QB7 {d:Tmp} {F:FuncId} (hK:∀ args w,(callFunc F args).run P w=.ok (.enter F args) w) {xs:List Operand} {tys:Array TypeId} {args:List Arg} {y:V} (hspec:Qan P F args [] (.ca (.val y)) []) (hfl:QmW y)
  (h:Qjf σ (xs.map (ev σ)) args) (ty:TypeId) (pos:String) (af:Array Edge) :
  OpOk P ops C ⟨some d,.call { callee:=.value (.func F),args:=xs.toArray,argTypes:=tys },ty,pos,af,none⟩ (rds σ (QcC xs++Qg4 σ (xs.map (ev σ)))) [(.s d,.av (.val y))]:=by
 have:=Qog (P:=P) (ops:=ops) (C:=C) (σ:=σ) (d:=d) (callee:=.value (.func F)) (xs:=xs) (tys:=tys) (zs:=[]) (L0:=[]) hspec hfl (fun E σ' a w _ hg=>⟨[],rfl,fun j x v q=>by simp at q,fun ty pos af=>by
  simp [execOp,resolve,Act.eval,Deferred.ofValue,invoke,hK]⟩) (by rw [List.append_nil];exact h) ty pos af
 simpa using this
theorem QxN {d:Tmp} {F:FuncId} (hK:∀ args w,(callFunc F args).run P w=.ok (.enter F args) w) {f:Operand} {zs:List AV} (hf:QA2 F zs (ev σ f)) {xs:List Operand} {tys:Array TypeId} {args:List Arg} {y:V} (hspec:Qan P F args [] (.ca (.val y)) []) (hfl:QmW y)
  (h:Qjf σ (xs.map (ev σ)++zs) args) (ty:TypeId) (pos:String) (af:Array Edge) :
  OpOk P ops C ⟨some d,.call { callee:=.value f,args:=xs.toArray,argTypes:=tys },ty,pos,af,none⟩ (rds σ (rdl f++(QcC xs++Qg4 σ (xs.map (ev σ)++zs)))) [(.s d,.av (.val y))]:=
 Qog (L0:=rdl f) hspec hfl (fun E σ' a w hr hg=>by
   have hv:=Qax hg f
   rw [Qae hr] at hv
   rcases Qsd hf with hf2 | ⟨hf2,hz2⟩
   ·rw [hf2] at hv
    obtain ⟨ys,h3,h4,h5⟩:=hv
    refine ⟨ys,h4,fun j x v q1 q2=>?_,fun ty pos af=>by simp [execOp,resolve,h3,Deferred.ofValue,invoke,hK]⟩
    obtain ⟨q3,rfl⟩:=List.getElem?_eq_some_iff.1 q1
    obtain ⟨q4,rfl⟩:=List.getElem?_eq_some_iff.1 q2
    exact (h5 j q3 q4).toA
   ·subst hz2
    rw [hf2] at hv
    have hv:=Rd.sc_eq hv
    exact ⟨[],rfl,fun j x v h=>by simp at h,fun ty pos af=>by simp [execOp,resolve,hv,Deferred.ofValue,invoke,hK]⟩) h ty pos af
theorem Qee {d:Tmp} {F:FuncId} (hK:∀ args w,(callFunc F args).run P w=.ok (.enter F args) w) {xs:List Operand} {tys:Array TypeId} {args:List Arg} {y:V} {ty:TypeId} {pos:String} {af:Array Edge} {g:Option (Nat × Bool)} (hspec:Qan P F args [] (.ca (.val y)) [])
  (h:QmW y∧gOk ops σ g∧Qjf σ (xs.map (ev σ)) args)
  (k:Qb7 P ops C md K rest (put σ (.s d) (.av (.val y))) ((gL ops g++(QcC xs++Qg4 σ (xs.map (ev σ))),[.s d])::acc)) :
  Run P ops C md K (⟨some d,.call { callee:=.value (.func F),args:=xs.toArray,argTypes:=tys },ty,pos,af,g⟩::rest) σ acc:=by
 obtain ⟨h1,h2,h3⟩:=h
 cases g with
 | none=>exact QaQ (QB7 hK hspec h1 h3 ty pos af) (QaJ k)
 | some g=>
  obtain ⟨j,b⟩:=g
  exact QaQ (Qc5 h2.1 h2.2 (QB7 hK hspec h1 h3 ty pos af)) (QaJ k)
theorem Qci {d:Tmp} {F:FuncId} (hK:∀ args w,(callFunc F args).run P w=.ok (.enter F args) w) {xs:List Operand} {tys:Array TypeId} {args:List Arg} {y:V} {ty:TypeId} {pos:String} {af:Array Edge} {g:Option (Nat × Bool)} (zs:List AV) {f:Operand} (hspec:Qan P F args [] (.ca (.val y)) [])
  (h:QmW y∧gOk ops σ g∧QA2 F zs (ev σ f)∧Qjf σ (xs.map (ev σ)++zs) args)
  (k:Qb7 P ops C md K rest (put σ (.s d) (.av (.val y))) ((gL ops g++(rdl f++(QcC xs++Qg4 σ (xs.map (ev σ)++zs))),[.s d])::acc)) :
  Run P ops C md K (⟨some d,.call { callee:=.value f,args:=xs.toArray,argTypes:=tys },ty,pos,af,g⟩::rest) σ acc:=by
 obtain ⟨h1,h2,h3,h4⟩:=h
 cases g with
 | none=>exact QaQ (QxN hK h3 hspec h1 h4 ty pos af) (QaJ k)
 | some g=>
  obtain ⟨j,b⟩:=g
  exact QaQ (Qc5 h2.1 h2.2 (QxN hK h3 hspec h1 h4 ty pos af)) (QaJ k)
end
end Go.Proofs.YthfocmakkeonoaaGreatDoor
namespace Go.Proofs.YthfocmakkeonoaaGreatDoor
open Go.RowKit
section
variable {P:Program} {ops:Array Oper} {C:Ctx} {E:Env} {σ:St} {a:Act} {w:World} {Q:Exit→St→Prop}
theorem Qp1 (a:Act) (t:Nat):a.put (some t) (a.tmps.getD t undef)=a:=by
 have:a.tmps.setIfInBounds t (a.tmps.getD t undef)=a.tmps:=by
  by_cases h:t<a.tmps.size
  ·apply Array.ext'
   apply List.ext_getElem?
   intro i
   by_cases hi:t=i
   ·subst hi;simp [Array.getD,h]
   ·simp [Array.toList_setIfInBounds,List.getElem?_set_ne hi]
  ·exact Array.setIfInBounds_eq_of_size_le (by omega)
 unfold Act.put
 simp only
 rw [this]
theorem Gm.ghost (hg:Gm C E σ a w) (t:Nat) (x:AV) (ht:t<C.nt) (hx:RdA E σ x (a.tmps.getD t undef)):Gm C E (put σ (.s t) (.av x)) a w:=by
 have:=hg.slot t x _ ht hx
 rwa [Qp1] at this
@[go_sem] def QDw (k:Id) (g c:Nat) (ts:List Nat):List (Pl × X):=ts.map fun t=>(.s t,.av (.cp k g c))
theorem Gm.caps (k:Id):∀ (ts:List Nat) (σ:St),Gm C E σ a w→(∀ t∈ts,t<C.nt)→Gm C E (Qaf σ (QDw k (gh σ k) (Qfq (E.bv k)) ts)) a w
 | [],σ,hg,_=>hg
 | t::ts,σ,hg,ht=>by
  have h1:=hg.ghost t (.cp k (gh σ k) (Qfq (E.bv k))) (ht t (List.mem_cons_self ..)) ⟨Nat.le_refl _,fun _=>rfl⟩
  have h2:=Gm.caps k ts _ h1 fun u hu=>ht u (List.mem_cons_of_mem _ hu)
  have h3:gh (put σ (.s t) (.av (.cp k (gh σ k) (Qfq (E.bv k))))) k=gh σ k:=QaL (Qag _ _ (by simp))
  rw [h3] at h2
  exact h2
theorem Qzo {c:Code} (k:Id) (ts:List Nat) (e:TypeId) (sz:Nat) (es:List (List V)) (h:(σ (.r k)=.tree (.rw e sz es)∧∀ t∈ts,t<C.nt)∧∀ n,es.length≤n→n≤maxLen→AW P C c (Qaf σ (QDw k (gh σ k) n ts)) Q):AW P C c σ Q:=by
 obtain ⟨⟨h1,h2⟩,h3⟩:=h
 intro E a w hg
 obtain ⟨us,q1,_⟩:=Qbu hg h1
 refine h3 (Qfq (E.bv k)) ?_ ?_ E a w (Gm.caps k ts σ hg h2)
 ·rcases QrG q1 with ⟨p1,p2⟩ | ⟨b,cap,p1,p2⟩
  ·rw [p2];exact Nat.zero_le _
  ·rw [p1];exact p2
 ·rcases q1.2 with ⟨p1,p2⟩ | ⟨g,cap,cur,p1,_,_,_,p2,_⟩
  ·rw [p1];exact Nat.zero_le _
  ·rw [p1];exact p2
theorem Qas (n:Nat) {l:Array Oper} {d:Bool} {y:Code} {Q:Exit→St→Prop} (h:AW P C (.seq (.region n l d) y) σ Q):AW P C (.seq (.region n l d) y) σ Q:=h
theorem Qay (n:Nat) {l:Array Oper} {d:Bool} {Q:Exit→St→Prop} (h:AW P C (.region n l d) σ Q):AW P C (.region n l d) σ Q:=h
theorem Qzp {c:Code} (t:Nat) (k:Id) (len:Nat) (e:TypeId) (sz:Nat) (es:List (List V)) (h:(σ (.s t)=.av (.vw k (gh σ k) sz 0 len)∧σ (.r k)=.tree (.rw e sz es)∧len≤es.length∧t<C.nt) ∧
  AW P C c (Qaf σ (Qcw σ k (.rw e sz (es.take len))++[(.s t,.av (.ref k (gh σ k+1)))])) Q):AW P C c σ Q:=by
 obtain ⟨⟨h1,h2,h3,h4⟩,h5⟩:=h
 intro E a w hg
 have hv:=(hg.sl t _ h1).2 rfl
 obtain ⟨us,q1,q2,q3,q4,q5⟩:=Qbu hg h2
 obtain ⟨A,cc,hA,hcap,hA2,hown⟩:=Qn1 (b:=0) q1 h3
 have hval:a.tmps.getD t undef=.slice A len cc:=by
  rcases hv with ⟨r1,r2,r3,r4⟩ | ⟨b,n,cap,o,r1,r2,r3,r4⟩
  ·rw [r1] at hA;injection hA with x1 x2 x3;rw [r2,r3,←x1,←x3]
  ·rw [r1] at hA;injection hA with x1 x2 x3;have h0:=r4 rfl;rw [r2,←x1,←x3,h0];rfl
 have hob:(Value.slice A len cc).ownBlock=(E.bv k).ownBlock:=by rw [hA];rcases hA2 with rfl | ⟨b,rfl⟩ <;> rfl
 have hlen:(es.take len).length=len:=by rw [List.length_take];omega
 have hh:Hg E.m w [.rw e sz (es.take len)] [.slice A len cc] (Value.slice A len cc).ownBlock.toList:=Qkc (by rw [hlen];exact hown) (fun r h=>q2 r (List.mem_of_mem_take h)) (fun i j hi hj=>by
  have hi2:i<es.length:=by omega
  have e2:(es.take len)[i]=es[i]:=by simp
  have hj2:j<es[i].length:=by rw [←e2];exact hj
  obtain ⟨u,r1,r2⟩:=q3 i j hi2 hj2
  have hjs:j<sz:=by rw [←q2 _ (List.getElem_mem hi2)];exact hj2
  have hlt:i * sz+j<len * sz:=by
   have:(i+1) * sz≤len * sz:=Nat.mul_le_mul_right _ (by omega)
   rw [Nat.add_mul] at this;omega
  exact ⟨u,by rw [List.getElem?_take,if_pos hlt];exact r1,by simp only [e2];exact r2⟩) (fun b hb=>by rw [hob] at hb;exact q4 b hb)
 obtain ⟨E',g1,g2,g3,g4⟩:=hg.newT k _ _ (.slice A len cc) _ w h2 (fun y h=>by cases h) (fun ys h=>by cases h) hh (fun b hb=>.inl (by rw [q5,←hob];exact hb)) (Chg.refl _ _)
 have g5:=g1.ghost t _ h4 (by rw [hval];exact g4)
 rw [Qal] at h5
 exact h5 E' a w g5
theorem QB8 {d:Tmp} {F:FuncId} {x y:Operand} {tys:Array TypeId} {tS tR e:TypeId} {sz:Nat} {kx k:Id} {ex e':TypeId} {g off len:Nat} {vs es:List (List V)}
  (hF:∀ u v w w',(Extern.SlicesOverlaps.overlaps #[tS,tS] #[tR] #[u,v]).run P w=.ok (.bool false) w'→(callFunc F #[u,v]).run P w=.ok (.value (.bool false)) w')
  (ht:P.underlying tS=some (.slice e)) (hz:(Qao P e).map (·.size)=some sz) (hs:0<sz) (hx:ev σ x=.own kx (gq σ kx) ex sz vs) (hk:σ (.k kx)=.row ex sz vs.length) (hv0:0<vs.length)
  (hy:Qgu σ (ev σ y)=some (k,gh σ k,sz,off,len)) (hr:σ (.r k)=.tree (.rw e' sz es)) (he:0<es.length) :
  Qbl P C σ (some d) (.call { callee:=.value (.func F),args:=#[x,y],argTypes:=tys }) (some (True,[.q kx,.k kx,.h k,.r k]++(vwL (ev σ y)++(rdl x++rdl y)),[(.s d,.av (.val (.sc (.bool false))))])):=by
 refine Qar fun _ ty pos af E σ' a w hr0 hg=>⟨.bool false,?_,Rd.sc _⟩
 obtain ⟨h1,h2⟩:=Qaq hr0
 obtain ⟨h2,h3⟩:=Qaq h2
 obtain ⟨h3,h4⟩:=Qaq h3
 have hk':σ' (.k kx)=.row ex sz vs.length:=by rw [h1 _ (by simp)];exact hk
 have hr':σ' (.r k)=.tree (.rw e' sz es):=by rw [h1 _ (by simp)];exact hr
 have hgh:gh σ' k=gh σ k:=QaL (h1 (.h k) (by simp))
 have hgq:gq σ' kx=gq σ kx:=Qda (h1 (.q kx) (by simp))
 have vx:=Qax hg x
 rw [Qae h3,hx] at vx
 have vy:=Qax hg y
 rw [Qae h4] at vy
 obtain ⟨us,q1,q2,q3,q4,q5,q6⟩:=Qdo hg vy (by rw [Qbr h2];exact hy) hgh hr'
 have hxv:a.eval x=E.rv kx:=(((vx.2.2 hgq.symm) _ _ _ hk').2 rfl).2.2
 have ⟨p1,p2⟩:=hg.ro kx _ _ _ hk'
 have hse:∀ w,(sizeOf e).run P w=.ok sz w:=fun w=>by
  cases hte:Qao P e with
  | none=>rw [hte] at hz;cases hz
  | some T=>rw [hte] at hz;simp at hz;rw [QaH hte,hz]
 rcases p1.2 with ⟨_,r2⟩ | ⟨bx,cx,curx,r1,_,r3,r4,r5,r6,r7⟩
 ·omega
 rcases q6 with ⟨_,s2,_⟩ | ⟨b,cap,o,s1,s2,s3,s4,s5⟩
 ·omega
 rcases q1.2 with ⟨_,t2⟩ | ⟨b',cap',cur,t1,_,t3,t4,t5,t6,t7⟩
 ·omega
 rw [t1] at s1
 injection s1 with x1 x2 x3
 injection x1 with x1
 injection x1 with x1
 subst x1 x3
 have hne:bx≠b':=fun h=>by
  subst h
  exact hg.tr.tk kx _ _ _ k _ bx hk' hr' (by rw [q5,t1];simp [Value.ownBlock]) (by rw [r1];rfl)
 have hcap:0<cap':=by omega
 have hrun:=Lib.run_overlaps_apart (P:=P) w tS tR e ht sz hse ⟨bx,0,none⟩ ⟨b',o,none⟩ vs.length cx len (cap'-off) hne ex e' curx.size cur.size (by simp [World.shape?,r3]) (by simp [World.shape?,t3]) (by rw [t6];exact Nat.ne_of_gt (Nat.mul_pos hcap hs)) (by simp [World.frozen?,r3]) (by simp [World.frozen?,r3])
 have hrun2:=hF _ _ _ _ hrun
 rw [r1] at hxv
 simp [execOp,resolve,Act.eval,Deferred.ofValue,invoke] at hxv s3 ⊢
 simp [hxv,s3,hrun2]
end
section
variable {P:Program} {ops:Array Oper} {C:Ctx} {σ:St} {md:Bool} {K:St→List FP→Prop} {acc:List FP} {rest:List Oper}
theorem QEX {d:Tmp} {F:FuncId} {x y:Operand} {tys:Array TypeId} {ty:TypeId} {pos:String} {af:Array Edge} {tS tR e:TypeId} {sz:Nat} (kx k:Id) {ex e':TypeId} {off len:Nat} {vs es:List (List V)}
  (hF:∀ u v w w',(Extern.SlicesOverlaps.overlaps #[tS,tS] #[tR] #[u,v]).run P w=.ok (.bool false) w'→(callFunc F #[u,v]).run P w=.ok (.value (.bool false)) w')
  (ht:P.underlying tS=some (.slice e)) (hz:(Qao P e).map (·.size)=some sz) (hs:0<sz) (hx:ev σ x=.own kx (gq σ kx) ex sz vs) (hk:σ (.k kx)=.row ex sz vs.length) (hv0:0<vs.length)
  (hy:Qgu σ (ev σ y)=some (k,gh σ k,sz,off,len)) (hr:σ (.r k)=.tree (.rw e' sz es)) (he:0<es.length)
  (h:Qb7 P ops C md K rest (Qaf σ [(.s d,.av (.val (.sc (.bool false))))]) (([.q kx,.k kx,.h k,.r k]++(vwL (ev σ y)++(rdl x++rdl y)),[.s d])::acc)) :
  Run P ops C md K (⟨some d,.call { callee:=.value (.func F),args:=#[x,y],argTypes:=tys },ty,pos,af,none⟩::rest) σ acc:=
 Qde (QB8 (g:=0) hF ht hz hs hx hk hv0 hy hr he) rfl trivial h
end
section
variable {P:Program} {ops:Array Oper} {C:Ctx} {σ:St} {md:Bool} {K:St→List FP→Prop} {acc:List FP} {rest:List Oper}
end
section
variable {P:Program} {ops:Array Oper} {C:Ctx} {σ:St} {md:Bool} {K:St→List FP→Prop} {acc:List FP} {rest:List Oper}
def QEY (σ:St):AV→Prop
 | .ptr o g _=>gg σ o=g
 | _=>False
def QDx:AV→List Pl
 | .ptr o _ _=>[.g o]
 | _=>[]
theorem QsK {d:Tmp} {op:BinOp} {t t':TypeId} {x:Operand} (hop:op=.eql∨op=.neq) (ht:(Qao P t).map (·.sh)=some .ptr) (hx:QEY σ (ev σ x)) :
  Qbl P C σ (some d) (.binOp op t x (.const (.pointer none)) t') (some (True,rdl x++QDx (ev σ x),[(.s d,.av (.val (.sc (.bool (if op=.eql then false else true)))))])):=by
 refine Qar fun _ ty pos af E σ' a w hr hg=>⟨_,?_,Rd.sc _⟩
 obtain ⟨h1,h2⟩:=Qaq hr
 have hv:=Qax hg x
 rw [Qae h1] at hv
 cases he:ev σ x with
 | ptr o g off=>
  rw [he] at hx hv h2
  have hgo:gg σ' o=g:=by rw [Qaz (h2 (.g o) (by simp [QDx]))];exact hx
  have hv:=hv.2 hgo.symm
  have hc:a.eval (.const (.pointer none))=.pointer none:=rfl
  obtain ⟨te,hte⟩:∃ te,P.underlying t=some (.pointer te):=by
   cases hq:Qao P t with
   | none=>rw [hq] at ht;cases ht
   | some T=>
    rw [hq] at ht
    simp at ht
    obtain ⟨it,dt,_,hdt,_,_,_,_,_,_,_,_,_,_,_,hp,_⟩:=Qak hq
    exact ⟨_,by rw [hdt,hp ht]⟩
  have hq:∀ n A,(Op.equalIn (n+1) t (.pointer (some A)) (.pointer none)).run P w=.ok false w:=fun n A=>by
   simp [Op.equalIn,run_underlying hte]
  have hb:∀ A,(binOp op t (.pointer (some A)) (.pointer none)).run P w=.ok (.bool (if op=.eql then false else true)) w:=fun A=>by
   have h2:=hq 9999 A
   rcases hop with rfl | rfl <;> simp [binOp,Op.equal,Op.maxDepth,h2]
  have hg2:∀ A,(eqGuard op t x (.const (.pointer none)) (.pointer (some A)) (.pointer none)).run P w=.ok () w:=fun A=>by
   unfold eqGuard
   rcases hop with rfl | rfl <;> simp
  simp [execOp,hc,hv,hg2,hb]
 | _=>rw [he] at hx;exact hx.elim
theorem QxO {d:Tmp} {op:BinOp} {t t':TypeId} {x:Operand} {ty:TypeId} {pos:String} {af:Array Edge} {g:Option (Nat × Bool)} (hop:op=.eql∨op=.neq) (h:gOk ops σ g∧(Qao P t).map (·.sh)=some .ptr∧QEY σ (ev σ x))
  (k:Qb7 P ops C md K rest (put σ (.s d) (.av (.val (.sc (.bool (if op=.eql then false else true)))))) ((gL ops g++(rdl x++QDx (ev σ x)),[.s d])::acc)) :
  Run P ops C md K (⟨some d,.binOp op t x (.const (.pointer none)) t',ty,pos,af,g⟩::rest) σ acc:=by
 obtain ⟨h1,h2,h3⟩:=h
 cases g with
 | none=>exact QaQ (QsK hop h2 h3 _ _ _ rfl trivial ops ty pos af) (QaJ k)
 | some g=>
  obtain ⟨j,b⟩:=g
  exact QaQ (Qc5 h1.1 h1.2 (QsK hop h2 h3 _ _ _ rfl trivial ops ty pos af)) (QaJ k)
attribute [go_sem] QEY QDx
end
section
variable {P:Program} {C:Ctx} {σ:St} {Q Q2:Exit→St→Prop}
theorem Qzq {α:Type} {id:Nat} {x y:Code} (I:α→List (Pl × X)) (h1:AW P C x σ (Qg1 id (Qib (Qv9 I) Q2))) (h2:∀ a,AW P C y (Qja (I a)) Q):AW P C x σ (Qg1 id (Qib (fun σ'=>AW P C y σ' Q) Q2)):=
 fun E a w hg=>by
  refine Code.wp_mono (fun e a' w' hq=>?_) (h1 E a w hg)
  obtain ⟨E',σ',h3,h4⟩:=hq
  refine ⟨E',σ',?_,h4⟩
  have key:∀ e,Qib (Qv9 I) Q2 e σ'→Qib (fun σ'=>AW P C y σ' Q) Q2 e σ':=fun e h=>by
   cases e with
   | normal=>obtain ⟨z,h5⟩:=h;exact QmJ (I z) (Qez h5) (h2 z)
   | _=>exact h
  cases e with
  | exit i=>
   simp only [Qg1] at h3 ⊢
   split at h3
   ·rename_i hi;rw [if_pos hi];exact key _ h3
   ·rename_i hi;rw [if_neg hi];exact key _ h3
  | normal=>exact key .normal h3
  | _=>exact h3
end
section
variable {P:Program} {C:Ctx} {E:Env} {σ:St} {a:Act} {w:World} {Q:Exit→St→Prop}
end
section
variable {P:Program} {ops:Array Oper} {C:Ctx} {σ:St} {md:Bool} {K:St→List FP→Prop} {acc:List FP} {rest:List Oper}
def fieldAt (P:Program) (t:TypeId) (f:Nat):Option (TypeId × Nat):=match P.underlying t with
 | some (.struct fs)=>(fs[f]?).map fun x=>(x.type,x.offset)
 | _=>none
def Qwi (T:TI) (off:Nat) (xs:List V):Option V:=
 if T.agg then (if off+T.size≤xs.length then some (.agg ((xs.drop off).take T.size)) else none) else xs[off]?
theorem QxP {d:Tmp} {t ft:TypeId} {x:Operand} {f off:Nat} {xs:List V} {y:V} {T:TI} (hf:fieldAt P t f=some (ft,off)) (hT:Qao P ft=some T) (hx:ev σ x=.val (.agg xs)) (hy:Qwi T off xs=some y) :
  Qbl P C σ (some d) (.field t x f) (some (True,rdl x,[(.s d,.av (.val y))])):=by
 refine Qar fun _ ty pos af E σ' a w hr hg=>?_
 have hv:=Qax hg x
 rw [Qae hr,hx] at hv
 have hv:Rd E.m (.agg xs) (a.eval x):=hv
 generalize hav:a.eval x=v at hv
 unfold fieldAt at hf
 split at hf
 ·rename_i fs hu
  cases hfs:fs[f]? with
  | none=>rw [hfs] at hf;cases hf
  | some F=>
   rw [hfs] at hf
   simp only [Option.map_some,Option.some.injEq,Prod.mk.injEq] at hf
   obtain ⟨rfl,rfl⟩:=hf
   cases hv with
   | agg _ ys hl h=>
    unfold Qwi at hy
    split at hy
    ·rename_i hag
     split at hy
     ·rename_i hle
      cases hy
      refine ⟨.agg (ys.extract F.offset (F.offset+T.size)),?_,.agg _ _ ?_ fun i hi=>?_⟩
      ·simp [execOp,hav,Instr.field,run_underlying hu,hfs,asAgg,part,Qbp hT,hag,QaH hT]
      ·simp;omega
      ·have hi2:F.offset+i<xs.length:=by simp at hi;omega
       have:=h (F.offset+i) hi2
       simpa using this
     ·cases hy
    ·rename_i hag
     have hag:T.agg=false:=by simpa using hag
     obtain ⟨h1,h2⟩:=List.getElem?_eq_some_iff.1 hy
     have h3:=h _ h1
     rw [h2] at h3
     refine ⟨ys[F.offset]'(hl ▸ h1),?_,h3⟩
     have h4:ys[F.offset]? = some (ys[F.offset]'(hl ▸ h1)):=Array.getElem?_eq_getElem (hl ▸ h1)
     simp [execOp,hav,Instr.field,run_underlying hu,hfs,asAgg,part,Qbp hT,hag,h4]
 ·cases hf
theorem QB9 {d:Tmp} {t:TypeId} {x:Operand} {f:Nat} {ty:TypeId} {pos:String} {af:Array Edge} (ft:TypeId) (off:Nat) (T:TI) (xs:List V) (y:V) (hf:fieldAt P t f=some (ft,off)) (hT:Qao P ft=some T) (hx:ev σ x=.val (.agg xs)) (hy:Qwi T off xs=some y)
  (k:Qb7 P ops C md K rest (put σ (.s d) (.av (.val y))) ((rdl x,[.s d])::acc)):Run P ops C md K (⟨some d,.field t x f,ty,pos,af,none⟩::rest) σ acc:=
 Qde (QxP hf hT hx hy) rfl trivial k
theorem QsL {d:Tmp} {t:TypeId} {x:Operand} {f:Nat}:Qa8 P σ (some d) (.field t x f)=none:=rfl
attribute [go_sem] QsL
end
end Go.Proofs.YthfocmakkeonoaaGreatDoor
namespace Go.Proofs.YthfocmakkeonoaaGreatDoor
open Go.RowKit
def QEZ (σ:St) (k:Id) (x:T):List (Pl × X):=[(.g k,.num (gg σ k+1)),(.o k,.non),(.l k,.non),(.r k,.tree x)]
section
variable {P:Program} {ops:Array Oper} {C:Ctx} {E:Env} {σ:St} {a:Act} {w:World}
end
section
variable {m:Mem} {w:World}
theorem Hg.erase {xs:List T} {vs:List Value} {F:List Nat} (h:Hg m w xs vs F):∀ j,∃ F',Hg m w (xs.eraseIdx j) (vs.eraseIdx j) F'∧∀ b∈F',b∈F:=by
 induction h with
 | nil=>intro j;exact ⟨_,.nil,fun b h=>h⟩
 | av h0 hs ih=>
  intro j
  cases j with
  | zero=>exact ⟨_,hs,fun b h=>h⟩
  | succ j=>obtain ⟨F',h1,h2⟩:=ih j;exact ⟨F',.av h0 h1,h2⟩
 | box a1 a2 a3 hs a5 a6 a7 _ ih=>
  intro j
  cases j with
  | zero=>exact ⟨_,hs,fun b h=>by simp [h]⟩
  | succ j=>
   obtain ⟨F',h1,h2⟩:=ih j
   refine ⟨_,.box a1 a2 a3 h1 a5 (fun h=>a6 (h2 _ h)) (fun i hi hF=>a7 i hi (h2 _ hF)),fun b h=>?_⟩
   rcases List.mem_cons.1 h with rfl | h
   ·simp
   ·rcases List.mem_append.1 h with h | h
    ·simp [h]
    ·simp [h2 b h]
 | row a1 a2 a3 a4 hs a6 _ ih=>
  intro j
  cases j with
  | zero=>exact ⟨_,hs,fun b h=>by simp [h]⟩
  | succ j=>
   obtain ⟨F',h1,h2⟩:=ih j
   refine ⟨_,.row a1 a2 (fun b hb=>⟨(a3 b hb).1,(a3 b hb).2.1,fun h=>(a3 b hb).2.2 (h2 _ h)⟩) a4 h1 (fun i hi hF=>a6 i hi (h2 _ hF)),fun b h=>?_⟩
   rcases List.mem_append.1 h with h | h
   ·exact List.mem_append_left _ h
   ·rcases List.mem_append.1 h with h | h
    ·exact List.mem_append_right _ (List.mem_append_left _ h)
    ·exact List.mem_append_right _ (List.mem_append_right _ (h2 _ h))
 | rw a1 a2 a3 a4 hs ih=>
  intro j
  cases j with
  | zero=>exact ⟨_,hs,fun b h=>by simp [h]⟩
  | succ j=>
   obtain ⟨F',h1,h2⟩:=ih j
   refine ⟨_,.rw a1 a2 a3 (fun b hb=>⟨(a4 b hb).1,fun h=>(a4 b hb).2 (h2 _ h)⟩) h1,fun b h=>?_⟩
   rcases List.mem_append.1 h with h | h
   ·exact List.mem_append_left _ h
   ·exact List.mem_append_right _ (h2 _ h)
 | mp a1 a2 a3 a4 a5 a6 a7 hs a9 a10 a11 _ ih=>
  intro j
  cases j with
  | zero=>exact ⟨_,hs,fun b h=>by simp [h]⟩
  | succ j=>
   obtain ⟨F',h1,h2⟩:=ih j
   refine ⟨_,.mp a1 a2 a3 a4 a5 a6 a7 h1 a9 (fun h=>a10 (h2 _ h)) (fun i hi hF=>a11 i hi (h2 _ hF)),fun b h=>?_⟩
   rcases List.mem_cons.1 h with rfl | h
   ·simp
   ·rcases List.mem_append.1 h with h | h
    ·simp [h]
    ·simp [h2 b h]
 | pm a1 a2 hs a4 _ ih=>
  intro j
  cases j with
  | zero=>exact ⟨_,hs,fun b h=>by simp [h]⟩
  | succ j=>
   obtain ⟨F',h1,h2⟩:=ih j
   refine ⟨_,.pm a1 a2 h1 (fun i hi hF=>a4 i hi (h2 _ hF)),fun b h=>?_⟩
   rcases List.mem_append.1 h with h | h
   ·simp [h]
   ·simp [h2 b h]
 | bag a2 hs a4 _ ih=>
  intro j
  cases j with
  | zero=>exact ⟨_,hs,fun b h=>by simp [h]⟩
  | succ j=>
   obtain ⟨F',h1,h2⟩:=ih j
   refine ⟨_,.bag a2 h1 (fun i hi hF=>a4 i hi (h2 _ hF)),fun b h=>?_⟩
   rcases List.mem_append.1 h with h | h
   ·simp [h]
   ·simp [h2 b h]
end
section
variable {P:Program} {ops:Array Oper} {C:Ctx} {E:Env} {σ:St} {a:Act} {w:World}
def Qg6 (id:Id):List (Pl × X):=[(.l id,.non),(.r id,.non)]
theorem Gm.let_go (h:Gm C E σ a w) (id:Id):Gm C E (Qaf σ (Qg6 id)) a w∧Mo E σ E (Qaf σ (Qg6 id))∧(∀ t b,HoB E (Qaf σ (Qg6 id)) t b→HoB E σ t b∧t≠.r id):=by
 have q:∀ l,Qaf σ (Qg6 id) l=if l=.r id then .non else if l=.l id then .non else σ l:=fun l=>by
  show put (put σ (.l id) _) (.r id) _ l=_
  unfold put;rfl
 obtain ⟨h1,h2,h3⟩:=h.drop (Qaf σ (Qg6 id)) (fun t=>by rw [q];simp) (fun o i=>by rw [q];simp) (fun o=>by rw [q];simp) (fun o n h=>by rw [q] at h;simpa using h) (fun k e sz T h=>by rw [q] at h;simpa using h)
  (fun k=>.inl (by rw [q];simp)) (fun k x h=>by rw [q] at h;by_cases e:k=id;(subst e;simp at h);simpa [e] using h) (fun k i y h=>by rw [q] at h;by_cases e:k=id;(subst e;simp at h);simpa [e] using h) (fun k=>by rw [q];simp) (fun o k g s h=>by rw [q] at h;simpa using h)
 refine ⟨h1,h2,fun t b hb=>⟨h3 t b hb,fun e=>?_⟩⟩
 subst e
 obtain ⟨x,hx,_⟩:=hb
 rw [q] at hx
 simp at hx
def QGd (σ:St) (id k2:Id) (x y:T) (j:Nat):List (Pl × X):=Qg6 id++(QEZ σ id x++(QaA σ k2 y++[(.l id,.lent j (.ref k2 (gh σ k2+1)))]))
def QGe (σ:St) (id k2:Id) (x:T):List (Pl × X):=Qg6 k2++(Qg6 id++QEZ σ id x)
theorem Qiu {α β:Type} (f:α→β):∀ (l:List α) (j:Nat),(l.eraseIdx j).map f=(l.map f).eraseIdx j
 | [],_=>rfl
 | _::_,0=>rfl
 | x::l,j+1=>congrArg (f x :: ·) (Qiu f l j)
end
section
variable {P:Program} {ops:Array Oper} {C:Ctx} {E:Env} {σ:St} {a:Act} {w:World}
theorem Gm.regen (h:Gm C E σ a w) (σ':St) (hs:∀ l,(∀ o,l≠.g o)→σ' l=σ l) (hg:∀ o,gg σ' o=gg σ o):Gm C E σ' a w:=by
 have es:∀ t,σ' (.s t)=σ (.s t):=fun t=>hs _ (by simp)
 have ec:∀ o i,σ' (.c o i)=σ (.c o i):=fun o i=>hs _ (by simp)
 have eo:∀ o,σ' (.o o)=σ (.o o):=fun o=>hs _ (by simp)
 have ek:∀ o,σ' (.k o)=σ (.k o):=fun o=>hs _ (by simp)
 have eq:∀ o,σ' (.q o)=σ (.q o):=fun o=>hs _ (by simp)
 have er:∀ o,σ' (.r o)=σ (.r o):=fun o=>hs _ (by simp)
 have el:∀ o,σ' (.l o)=σ (.l o):=fun o=>hs _ (by simp)
 have eh:∀ o,σ' (.h o)=σ (.h o):=fun o=>hs _ (by simp)
 have hmo:Mo E σ E σ':=⟨Mem.le_refl _,fun o=>⟨Nat.le_of_eq (hg o).symm,fun _=>rfl⟩,fun k=>⟨Nat.le_of_eq (Qda (eq k)).symm,fun _ e sz T h3=>⟨T,by rw [←ek];exact h3,Nat.le_refl _,fun _=>rfl⟩⟩,fun k=>⟨Nat.le_of_eq (QaL (eh k)).symm,fun _=>rfl⟩⟩
 refine ⟨h.sz,h.df,h.ms,h.fr,fun t x h1=>(h.sl t x (by rw [←es];exact h1)).mo hmo,fun o i x n h1 h2 h3=>?_,fun o n h1=>h.ob o n (by rw [←eo];exact h1),fun k e s T h1=>h.ro k e s T (by rw [←ek];exact h1),fun o o' n n' h1 h2=>h.oo o o' n n' (by rw [←eo];exact h1) (by rw [←eo];exact h2),
  fun k k' e s T e' s' T' b h1 h2=>h.rr k k' e s T e' s' T' b (by rw [←ek];exact h1) (by rw [←ek];exact h2),fun o n k e s T h1 h2=>h.or o n k e s T (by rw [←eo];exact h1) (by rw [←ek];exact h2),h.pi,h.ml,h.mx,
  h.tr.step hmo rfl rfl (fun k x hx=>by rw [←er];exact hx) (fun k i y hy=>by rw [←el];exact hy) (fun _ _ _ _=>rfl) (fun k x b h1 h2 h3 h4=>⟨rfl,h4⟩) (fun o n k x h1 _ _ _=>⟨n,by rw [←eo];exact h1,rfl⟩) (fun k' e s T b k x h1 _ _ h4 _=>⟨e,s,T,by rw [←ek];exact h1,h4⟩) (fun o k g s h1=>⟨by rw [←eo];exact h1,rfl⟩) (fun _ _ _ _ _ _=>rfl)⟩
 obtain ⟨v,hv,hr⟩:=h.ce o i x n (by rw [←ec];exact h1) (by rw [←eo];exact h2) h3
 exact ⟨v,hv,hr.mo hmo⟩
def Qzr:List Id→Id→Bool
 | [],_=>false
 | x::l,o=>if x.1=o.1∧x.2=o.2 then true else Qzr l o
def isG (ids:List Id):Pl→Bool
 | .g o=>Qzr ids o
 | _=>false
def noG (ids:List Id):List (Pl × X)→List (Pl × X)
 | []=>[]
 | p::W=>match isG ids p.1 with | true=>noG ids W | false=>p::noG ids W
def QFt (σ:St):Pl→X→Prop
 | .g o,x=>x=.num (gg σ o)
 | _,_=>True
def okG (σ:St) (ids:List Id):List (Pl × X)→Prop
 | []=>True
 | p::W=>(match isG ids p.1 with | true=>QFt σ p.1 p.2 | false=>True)∧okG σ ids W
end
section
variable {P:Program} {ops:Array Oper} {C:Ctx} {σ:St} {md:Bool} {K:St→List FP→Prop} {acc:List FP} {rest:List Oper}
end
attribute [go_sem] noG isG okG QFt Qzr
attribute [go_sem] QGd Qg6 QEZ QGe
section
variable {P:Program} {ops:Array Oper} {C:Ctx} {σ:St} {md:Bool} {K:St→List FP→Prop} {acc:List FP} {rest:List Oper} {Q:Exit→St→Prop}
theorem Qbf (h:AW P C .ret σ Q):AW P C .ret σ Q:=h
end
end Go.Proofs.YthfocmakkeonoaaGreatDoor
namespace Go.Proofs.YthfocmakkeonoaaGreatDoor
open Go.RowKit
section
variable {P:Program} {ops:Array Oper} {C:Ctx} {σ:St}
end
section
variable {P:Program} {ops:Array Oper} {C:Ctx} {σ:St} {K:St→List FP→Prop} {acc:List FP} {rest:List Oper}
end
section
variable {P:Program} {ops:Array Oper} {C:Ctx} {E:Env} {σ:St} {a:Act} {w:World}
def QCa {α:Type} (P:Program) (rs:List ResultVar) (n:Nat) (ok:α→Prop) (res:α→Arg) (objs':α→List (List CA)):Exit→St→Prop
 | .ret,σ=>∃ y,ok y∧Qid P σ rs n (res y) (objs' y)
 | .normal,σ=>∃ y,ok y∧Qid P σ rs n (res y) (objs' y)
 | _,_=>False
theorem Qzs {α:Type} {rs:List ResultVar} {n:Nat} {ok:α→Prop} {res:α→Arg} {objs:α→List (List CA)}:QCa P rs n ok res objs .ret σ = ∃ y,ok y∧Qid P σ rs n (res y) (objs y):=rfl
theorem Qzt {α:Type} {rs:List ResultVar} {n:Nat} {ok:α→Prop} {res:α→Arg} {objs:α→List (List CA)}:QCa P rs n ok res objs .normal σ = ∃ y,ok y∧Qid P σ rs n (res y) (objs y):=rfl
attribute [go_sem] Qzs Qzt
end
end Go.Proofs.YthfocmakkeonoaaGreatDoor
