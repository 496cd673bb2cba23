/- Structs compared; a law's call, by what its function is known to do. Where ways meet. Arguments of any type made of numbers, truths, texts, structs and slices, opened. -/
import Derived.Test.YthfocmakkeonoaaGreatDoorOpenz
import Derived.Test.YthfocmakkeonoaaGreatDoorOpenz
import Derived.Laws.StructEq
import Derived.Laws.OwnMore
import Derived.Lib.SliceRun
import Derived.WalkSpells
set_option linter.unusedVariables false
set_option linter.unusedSimpArgs false
set_option maxRecDepth 100000
set_option maxHeartbeats 16000000
namespace Go.Proofs.YthfocmakkeonoaaGreatDoor
open Go.RowKit
section
variable {P:Program} {ops:Array Oper} {C:Ctx} {md:Bool} {σ:St} {K:St→List FP→Prop} {acc:List FP} {rest:List Oper}
theorem QlD {m:Mem} {xs:List Value} {v:Value} (h:Rd m (.agg (xs.map .sc)) v):v=.agg xs.toArray:=by
 cases h with
 | agg _ ys hl hh=>
  congr 1
  apply Array.ext
  ·simpa using hl
  ·intro i h1 h2
   have h3:i<(xs.map V.sc).length:=by omega
   have:=hh i h3
   rw [List.getElem_map] at this
   have:=Rd.sc_eq this
   simpa using this
theorem Qsz {d:Tmp} {op:BinOp} {t t':TypeId} {x y:Operand} {xs ys:List Value} {b:Bool} (hop:op=.eql∨op=.neq) (hx:ev σ x=.val (.agg (xs.map .sc))) (hy:ev σ y=.val (.agg (ys.map .sc)))
  (hm:P.eqGuardType P.depth t=false) (hq:∀ w,(binOp op t (.agg xs.toArray) (.agg ys.toArray)).run P w=.ok (.bool b) w) :
  Qbl P C σ (some d) (.binOp op t x y t') (some (True,rdl x++rdl y,[(.s d,.av (.val (.sc (.bool b))))])):=by
 refine Qar fun hc ty pos af E σ' a w hr hg=>?_
 obtain ⟨h1,h2⟩:=Qaq hr
 have e1:=Qax hg x
 have e2:=Qax hg y
 rw [Qae h1,hx] at e1
 rw [Qae h2,hy] at e2
 have e1:=QlD e1
 have e2:=QlD e2
 refine ⟨.bool b,?_,Rd.sc _⟩
 rcases hop with rfl | rfl <;> simp [execOp,e1,e2,run_eqGuard_agg (hm:=hm),hq]
theorem Qcn {d:Tmp} {op:BinOp} {t t':TypeId} {x y:Operand} {ty:TypeId} {pos:String} {af:Array Edge} (xs ys:List Value) (b:Bool) (hop:op=.eql∨op=.neq) (hx:ev σ x=.val (.agg (xs.map .sc))) (hy:ev σ y=.val (.agg (ys.map .sc)))
  (hm:P.eqGuardType P.depth t=false) (hq:∀ w,(binOp op t (.agg xs.toArray) (.agg ys.toArray)).run P w=.ok (.bool b) w)
  (k:Qb7 P ops C md K rest (put σ (.s d) (.av (.val (.sc (.bool b))))) ((rdl x++rdl y,[.s d])::acc)):Run P ops C md K (⟨some d,.binOp op t x y t',ty,pos,af,none⟩::rest) σ acc:=
 Qde (Qsz hop hx hy hm hq) rfl trivial k
end
def cellsOf (w:World):Mem:=fun b i=>w.cell? ⟨b,i,none⟩
theorem Qik {m:Mem} {w:World}:∀ {xs:List V} {vals:List Value},vals.length=xs.length→(∀ (j:Nat) (x:V) (v:Value),xs[j]? = some x→vals[j]? = some v→Rd m x v)→ArgsOk m w [] (xs.map fun x=>.ca (.val x)) vals []
 | [],[],_,_=>.nil
 | x::xs,v::vs,hl,h=>by
  have:=ArgsOk.cons (m:=m) (w:=w) (bs:=[]) (a:=.ca (.val x)) (v:=v) (F:=[]) ⟨h 0 x v rfl rfl,rfl⟩ (Qik (w:=w) (xs:=xs) (vals:=vs) (by simpa using hl) fun j y u h1 h2=>h (j+1) y u (by simpa using h1) (by simpa using h2)) (fun b h=>by cases h)
  exact this
 | [],_::_,hl,_=>by simp at hl
 | _::_,[],hl,_=>by simp at hl
theorem QpX {w:World} {vals:List Value} {xs:List V} (h:vals.length=xs.length) (hv:∀ (j:Nat) (x:V) (v:Value),xs[j]? = some x→vals[j]? = some v→Rd (cellsOf w) x v):Holds (cellsOf w) w vals (xs.map fun x=>.ca (.val x)) [] [] [] [] where
 ms:=fun b i v h=>h
 ar:=Qik h hv
 ob:=.nil
 di:=fun b h=>by cases h
theorem QsA {P:Program} {K:FuncId} {xs:List V} {y:V} (h:∀ (m:Mem) (w:World) (vals:List Value),(∀ b i v,m b i=some v→w.cell? ⟨b,i,none⟩=some v)→vals.length=xs.length→(∀ (j:Nat) (x:V) (v:Value),xs[j]? = some x→vals[j]? = some v→Rd m x v) →
  Calls P K vals.toArray w fun e w'=>∃ (v:Value) (m':Mem),e=.returned v∧Rd m' y v∧m.le m'∧(∀ b i v,m' b i=some v→w'.cell? ⟨b,i,none⟩=some v)∧Chg Nothing w w'∧∀ (b i:Nat),b<w.heap.size→m' b i=m b i):Qan P K (xs.map fun x=>.ca (.val x)) [] (.ca (.val y)) []:=by
 intro m w vals bs F G H
 have hl:=H.ar.len
 rw [List.length_map] at hl
 have hbs:bs=[]:=List.eq_nil_of_length_eq_zero H.ob.len
 subst hbs
 have hv:∀ {xs:List V} {vals:List Value} {F:List Nat},ArgsOk m w [] (xs.map fun x=>.ca (.val x)) vals F→F=[]∧∀ (j:Nat) (x:V) (v:Value),xs[j]? = some x→vals[j]? = some v→Rd m x v:=by
  intro xs
  induction xs with
  | nil=>intro vals F h;cases h;exact ⟨rfl,fun j x v h=>by simp at h⟩
  | cons x xs ih=>
   intro vals F h
   rw [List.map_cons] at h
   cases h with
   | cons h1 h2 h3=>
    obtain ⟨e1,e2⟩:=ih h2
    obtain ⟨e3,rfl⟩:=h1
    subst e1
    refine ⟨rfl,fun j y v h4 h5=>?_⟩
    cases j with
    | zero=>simp at h4 h5;subst h4 h5;exact e3
    | succ j=>exact e2 j y v (by simpa using h4) (by simpa using h5)
 obtain ⟨hF,hr⟩:=hv H.ar
 have hG:=H.ob
 cases hG
 subst hF
 refine (h m w vals H.ms hl hr).mono ?_
 rintro e w' ⟨v,m',rfl,h1,h2,h3,h4,h5⟩
 exact ⟨v,m',[],[],[],rfl,⟨h3,.cons (F:=[]) (F':=[]) ⟨h1,rfl⟩ .nil (fun b h=>by cases h),.nil,fun b h=>by cases h⟩,h2,h4.mono fun i _ h=>h.elim,fun i b h=>by simp at h,fun b i hb _=>h5 b i hb,fun b h=>by cases h⟩
theorem QBU {P:Program} {K:FuncId} {xs:List V} {vals:List Value} {u:Value} {w:World} (hs:Qan P K (xs.map fun x=>.ca (.val x)) [] (.ca (.val (.sc u))) []) (h:vals.length=xs.length) (hv:∀ (j:Nat) (x:V) (v:Value),xs[j]? = some x→vals[j]? = some v→Rd (cellsOf w) x v) :
  Calls P K vals.toArray w fun e w'=>e=.returned u∧Chg Nothing w w':=by
 refine (hs (cellsOf w) w vals [] [] [] (QpX h hv)).mono ?_
 rintro e w' ⟨v,m',bs',F',G',rfl,hh,_,hc,_⟩
 have hu:v=u:=by
  have:=hh.ar
  cases this with
  | cons h1 _ _=>exact Rd.sc_eq h1.1
 subst hu
 exact ⟨rfl,hc.mono fun b _ hb=>by cases hb⟩
theorem QsB (a b:List UInt8):((⟨a.toArray⟩:ByteArray)++⟨b.toArray⟩)=⟨(a++b).toArray⟩:=by
 apply ByteArray.ext
 simp [ByteArray.data_append]
theorem Qze (a:List UInt8):(ByteArray.mk a.toArray).size=a.length:=by simp [ByteArray.size]
attribute [go_sem] QsB Qze beq_self_eq_true
theorem QBV:(false != false)=false:=rfl
theorem QBW:(true != true)=false:=rfl
theorem QBX:(true != false)=true:=rfl
theorem QBY:(false != true)=true:=rfl
theorem QBZ:(false == false)=true:=rfl
theorem QB0:(true == true)=true:=rfl
theorem QB1:(true == false)=false:=rfl
theorem QB2:(false == true)=false:=rfl
attribute [go_sem] QBV QBW QBX QBY QBZ QB0 QB1 QB2
section
variable {P:Program} {ops:Array Oper} {C:Ctx} {md:Bool} {σ:St} {K:St→List FP→Prop} {acc:List FP} {rest:List Oper}
theorem Qkm {j:Nat} {g:Bool} {d:Tmp} {op:BinOp} {t t':TypeId} {x y:Operand} {ty:TypeId} {pos:String} {af:Array Edge} (xs ys:List Value) (b:Bool) (hop:op=.eql∨op=.neq)
  (hd:((ops[j]?).bind (·.dst)).isSome=true∧σ (.s (QbG ops j))=.av (.val (.sc (.bool g)))) (hx:ev σ x=.val (.agg (xs.map .sc))) (hy:ev σ y=.val (.agg (ys.map .sc)))
  (hm:P.eqGuardType P.depth t=false) (hq:∀ w,(binOp op t (.agg xs.toArray) (.agg ys.toArray)).run P w=.ok (.bool b) w)
  (k:Qb7 P ops C md K rest (put σ (.s d) (.av (.val (.sc (.bool b))))) ((.s (QbG ops j)::(rdl x++rdl y),[.s d])::acc)):Run P ops C md K (⟨some d,.binOp op t x y t',ty,pos,af,some (j,g)⟩::rest) σ acc:=
 QaQ (Qc5 hd.1 hd.2 (Qsz hop hx hy hm hq _ _ _ rfl trivial ops ty pos af)) (QaJ k)
end
end Go.Proofs.YthfocmakkeonoaaGreatDoor
namespace Go.Proofs.YthfocmakkeonoaaGreatDoor
open Go.RowKit
theorem Qv7 (b:Bool):(b != b)=false:=by cases b <;> rfl
theorem Qv8 (b:Bool):(b == b)=true:=by cases b <;> rfl
attribute [go_sem] Qv7 Qv8
section
variable {P:Program} {C:Ctx} {σ:St} {Q:Exit→St→Prop}
theorem Qat (n:Nat) {l:Array Oper} {d:Bool} {x y:Code} (h:AW P C (.seq (.seq (.region n l d) x) y) σ Q):AW P C (.seq (.seq (.region n l d) x) y) σ Q:=h
def Qv9 {α:Type} (I:α→List (Pl × X)) (σ:St):Prop:=∃ y,Qkk σ (I y)
theorem Qby {α:Type} {I:α→List (Pl × X)} (y:α) (h:Qkk σ (I y)):Qv9 I σ:=⟨y,h⟩
theorem Qil {α:Type} {x y:Code} (I:α→List (Pl × X)) (h1:AW P C x σ (Qib (Qv9 I) Q)) (h2:∀ a,AW P C y (Qja (I a)) Q):AW P C (.seq x y) σ Q:=
 Qlr fun E a w hg=>by
  refine Code.wp_mono (fun e a' w' hq=>?_) (h1 E a w hg)
  obtain ⟨E',σ',h3,h4⟩:=hq
  refine ⟨E',σ',?_,h4⟩
  cases e with
  | normal=>obtain ⟨z,h5⟩:=h3;exact QmJ (I z) (Qez h5) (h2 z)
  | _=>exact h3
end
end Go.Proofs.YthfocmakkeonoaaGreatDoor
namespace Go.Proofs.YthfocmakkeonoaaGreatDoor
open Go.RowKit Go.ChangeShapes Go.WideShapes Go.Deep
def Qbv (P:Program):Nat→TypeId→List TypeId
 | 0,t=>[t]
 | n+1,t=>match P.underlying t with
  | some (.struct fs)=>fs.toList.flatMap fun f=>Qbv P n f.type
  | some (.array k e)=>(List.replicate k (Qbv P n e)).flatten
  | _=>[t]
def RowV (f:TypeId→V→Prop):List TypeId→List V→Prop
 | [],[]=>True
 | t::ts,x::xs=>f t x∧RowV f ts xs
 | _,_=>False
def QbO (P:Program):Nat→TypeId→V→Prop
 | 0,_,_=>False
 | n+1,t,x=>match P.underlying t with
  | some .bool=>∃ b,x=.sc (.bool b)
  | some (.int k)=>∃ m,x=.sc (.int k m)∧(Lit.int k m).wf=true
  | some .string=>∃ l:List UInt8,x=.sc (str l)∧l.length≤maxLen
  | some (.slice e)=>∃ es,x=.lst (P.cellsOf e) es∧es.length≤maxLen∧∀ r∈es,RowV (QbO P n) (Qbv P 9 e) r
  | _=>False
def QsC (P:Program) (g:TypeId→Bool):List Field→Nat→Nat→Bool
 | [],o,T=>o == T
 | f::fs,o,T=>f.offset == o && g f.type && QsC P g fs (o+P.cellsOf f.type) T
def Qzf (P:Program):Nat→Nat→TypeId→Bool
 | 0,_,_=>false
 | k+1,m,t=>match P.underlying t with
  | some .bool=>true
  | some (.int _)=>true
  | some .string=>true
  | some (.slice e)=>decide (0<P.cellsOf e) && Qzf P k 9 e
  | some (.struct fs)=>match m with
   | 0=>false
   | m+1=>QsC P (fun u=>Qzf P k m u) fs.toList 0 (P.cellsOf t)
  | some (.array q e)=>match m with
   | 0=>false
   | m+1=>P.cellsOf t == q * P.cellsOf e && Qzf P k m e
  | _=>false
def Rds (m:Mem):List V→List Value→Prop
 | [],[]=>True
 | x::xs,v::vs=>Rd m x v∧Rds m xs vs
 | _,_=>False
theorem Rds.len {m:Mem}:∀ {xs:List V} {vs:List Value},Rds m xs vs→xs.length=vs.length
 | [],[],_=>rfl
 | x::xs,v::vs,h=>by simp [Rds.len h.2]
 | [],_::_,h=>h.elim
 | _::_,[],h=>h.elim
theorem Rds.get {m:Mem}:∀ {xs:List V} {vs:List Value},Rds m xs vs→∀ (j:Nat) (h1:j<xs.length) (h2:j<vs.length),Rd m xs[j] vs[j]
 | x::xs,v::vs,h,0,_,_=>h.1
 | x::xs,v::vs,h,j+1,h1,h2=>Rds.get h.2 j (by simpa using h1) (by simpa using h2)
 | [],_,_,_,h1,_=>by simp at h1
 | _::_,[],h,_,_,_=>h.elim
theorem Rds.app {m:Mem}:∀ {xs ys:List V} {vs ws:List Value},Rds m xs vs→Rds m ys ws→Rds m (xs++ys) (vs++ws)
 | [],_,[],_,_,k=>k
 | x::xs,_,v::vs,_,h,k=>⟨h.1,Rds.app h.2 k⟩
 | [],_,_::_,_,h,_=>h.elim
 | _::_,_,[],_,h,_=>h.elim
theorem RowV.app {f:TypeId→V→Prop}:∀ {ts us:List TypeId} {xs ys:List V},RowV f ts xs→RowV f us ys→RowV f (ts++us) (xs++ys)
 | [],_,[],_,_,k=>k
 | t::ts,_,x::xs,_,h,k=>⟨h.1,RowV.app h.2 k⟩
 | [],_,_::_,_,h,_=>h.elim
 | _::_,_,[],_,h,_=>h.elim
theorem QbJ {f:TypeId→V→Prop} {t:TypeId} {ts:List TypeId} {xs:List V} (h:RowV f (t::ts) xs):∃ x ys,xs=x::ys∧f t x∧RowV f ts ys:=by
 cases xs with
 | nil=>exact h.elim
 | cons x ys=>exact ⟨x,ys,rfl,h.1,h.2⟩
theorem Qn8 {f:TypeId→V→Prop} {xs:List V} (h:RowV f [] xs):xs=[]:=by
 cases xs with
 | nil=>rfl
 | cons x ys=>exact h.elim
theorem RowV.mono {f g:TypeId→V→Prop} (h:∀ t x,f t x→g t x):∀ {ts:List TypeId} {xs:List V},RowV f ts xs→RowV g ts xs
 | [],[],_=>trivial
 | t::ts,x::xs,k=>⟨h _ _ k.1,RowV.mono h k.2⟩
 | [],_::_,k=>k.elim
 | _::_,[],k=>k.elim
theorem Qim {P:Program}:∀ (n:Nat) (t:TypeId) (x:V),QbO P n t x→QbO P (n+1) t x
 | 0,_,_,h=>h.elim
 | n+1,t,x,h=>by
  unfold QbO at h ⊢
  split at h
  ·exact h
  ·exact h
  ·exact h
  ·obtain ⟨es,h1,h2,h3⟩:=h
   exact ⟨es,h1,h2,fun r hr=>(h3 r hr).mono fun t x=>Qim n t x⟩
  ·exact h.elim
section
variable {H:Type} {enc:TypeId × Value→H} {P:Program} {w:World} {base:Nat} {spare:Nat→Bool} {held:Bool}
theorem Qin {n:Nat} {g:TypeId→Bool} {lv:TypeId→List TypeId} {cs:List Value}
  (ih:∀ t cs y,g t=true→DataW.trod enc P w base spare held n t cs=some y→∃ xs,RowV (QbO P n) (lv t) xs∧Rds (cellsOf w) xs cs) :
  ∀ (fs:List Field) (o:Nat),QsC P g fs o cs.length=true→(∀ f∈fs,∃ y,DataW.trod enc P w base spare held n f.type ((cs.drop f.offset).take (P.cellsOf f.type))=some y) →
   ∃ xs,RowV (QbO P n) (fs.flatMap fun f=>lv f.type) xs∧Rds (cellsOf w) xs (cs.drop o)
 | [],o,h,_=>by
  simp only [QsC,beq_iff_eq] at h
  exact ⟨[],trivial,by rw [h,List.drop_length];trivial⟩
 | f::fs,o,h,hy=>by
  simp only [QsC,Bool.and_eq_true,beq_iff_eq] at h
  obtain ⟨⟨h1,h2⟩,h3⟩:=h
  obtain ⟨y,hy1⟩:=hy f (by simp)
  obtain ⟨xs,hx1,hx2⟩:=ih _ _ _ h2 hy1
  obtain ⟨ys,hy2,hy3⟩:=Qin ih fs _ h3 (fun f' hf'=>hy f' (by simp [hf']))
  refine ⟨xs++ys,by rw [List.flatMap_cons];exact hx1.app hy2,?_⟩
  have:=hx2.app hy3
  rw [h1,←List.drop_drop,List.take_append_drop] at this
  exact this
theorem Qn9 {n:Nat} {lv:List TypeId} {c:Nat}:∀ (k:Nat) {cs:List Value},cs.length=k * c→(∀ i,i<k→∃ xs,RowV (QbO P n) lv xs∧Rds (cellsOf w) xs ((cs.drop (i * c)).take c)) →
  ∃ xs,RowV (QbO P n) (List.replicate k lv).flatten xs∧Rds (cellsOf w) xs cs
 | 0,cs,h,_=>⟨[],trivial,by
   have:cs=[]:=List.length_eq_zero_iff.1 (by simpa using h)
   rw [this];trivial⟩
 | k+1,cs,h,hi=>by
  obtain ⟨xs,h1,h2⟩:=hi 0 (by omega)
  obtain ⟨ys,h3,h4⟩:=Qn9 k (c:=c) (lv:=lv) (n:=n) (cs:=cs.drop c) (by rw [List.length_drop,h,Nat.add_mul];omega) (fun i hik=>by
   obtain ⟨zs,g1,g2⟩:=hi (i+1) (by omega)
   have e:c+i * c=(i+1) * c:=by rw [Nat.add_mul];omega
   refine ⟨zs,g1,?_⟩
   rw [List.drop_drop,e]
   exact g2)
  refine ⟨xs++ys,by rw [List.replicate_succ,List.flatten_cons];exact h1.app h3,?_⟩
  rw [Nat.zero_mul,List.drop_zero] at h2
  have:=h2.app h4
  rwa [List.take_append_drop] at this
theorem QpY {e:TypeId} {n:Nat} {a:Addr} {len:Nat} {lv:List TypeId}
  (hpos:0<P.cellsOf e) (hi:∀ i,i<len→∃ xs,RowV (QbO P n) lv xs∧∃ cs,w.cells? base (a.add (i * P.cellsOf e)) (P.cellsOf e)=some cs∧Rds (cellsOf w) xs cs) (cap:Nat) (hc:len≤cap) :
  ∃ es:List (List V),es.length=len∧(∀ r∈es,RowV (QbO P n) lv r)∧Rd (cellsOf w) (.lst (P.cellsOf e) es) (.slice (some a) len cap):=by
 rcases Nat.eq_zero_or_pos len with h0 | h0
 ·subst h0
  exact ⟨[],rfl,fun _ h=>by simp at h,Rd.nil _ _ _ (fun h=>by cases h)⟩
 ·have ha:a=⟨a.block,a.off,none⟩:=by
   obtain ⟨xs,_,cs,h1,_⟩:=hi 0 h0
   obtain ⟨_,hl,hat⟩:=World.cells?_some h1
   have:=hat 0 hpos
   rw [List.getElem?_eq_getElem (by omega)] at this
   have:=World.cell?_spot this
   obtain ⟨b,o,s⟩:=a
   have hs:s=none:=by
    have h2:=this
    simp only [Addr.add] at h2
    split at h2 <;> simp_all
   rw [hs]
  generalize hb:a.block=b at ha
  generalize ho:a.off=o at ha
  subst ha
  let F:Nat→List V:=fun i=>if h:i<len then (hi i h).choose else []
  have hF:∀ i (h:i<len),RowV (QbO P n) lv (F i)∧(F i).length=P.cellsOf e∧∀ j (hj:j<(F i).length),∃ u,w.cell? ⟨b,o+i * P.cellsOf e+j,none⟩=some u∧Rd (cellsOf w) ((F i)[j]) u:=fun i h=>by
   have hs:=(hi i h).choose_spec
   have hFi:F i=(hi i h).choose:=dif_pos h
   rw [←hFi] at hs
   obtain ⟨h2,cs,h1,h3⟩:=hs
   obtain ⟨_,hl,hat⟩:=World.cells?_some h1
   have hlen:=h3.len
   refine ⟨h2,by omega,fun j hj=>?_⟩
   have hc:=hat j (by omega)
   rw [add_lit,add_lit,List.getElem?_eq_getElem (by omega)] at hc
   exact ⟨_,hc,h3.get j hj (by omega)⟩
  refine ⟨(List.range len).map F,by simp,fun r hr=>?_,?_⟩
  ·obtain ⟨i,hir,rfl⟩:=List.mem_map.1 hr
   exact (hF i (by simpa using hir)).1
  ·have:=Rd.lst (m:=cellsOf w) (P.cellsOf e) ((List.range len).map F) b o cap (fun i j=>(w.cell? ⟨b,o+i * P.cellsOf e+j,none⟩).getD undef) (by simpa using hc)
    (fun i h=>by simp at h ⊢;exact (hF i h).2.1)
    (fun i j h hj=>by
     simp at h
     obtain ⟨u,hu,_⟩:=(hF i h).2.2 j (by rw [(hF i h).2.1];exact hj)
     unfold cellsOf
     rw [hu];rfl)
    (fun i j h hj=>by
     have h':i<len:=by simpa using h
     have e1:((List.range len).map F)[i]=F i:=by simp
     have hj':j<(F i).length:=by rw [e1] at hj;exact hj
     obtain ⟨u,hu,hr⟩:=(hF i h').2.2 j hj'
     rw [hu]
     simp only [e1]
     exact hr)
   simpa using this
theorem Qwa:∀ (n:Nat) (t:TypeId) (cs:List Value) (y:DataW H × List MemPlace) (k m:Nat),Qzf P k m t=true→DataW.trod enc P w base spare held n t cs=some y →
  ∃ xs,RowV (QbO P n) (Qbv P m t) xs∧Rds (cellsOf w) xs cs:=by
 intro n
 induction n with
 | zero=>intro t cs y k m _ h;simp [DataW.trod] at h
 | succ n ih=>
  intro t cs y k m hf h
  cases k with
  | zero=>cases hf
  | succ k=>
   unfold Qzf at hf
   have leaf:(∀ fs,P.underlying t≠some (.struct fs))→(∀ q e,P.underlying t≠some (.array q e))→Qbv P m t=[t]:=fun hn hn2=>by
    cases m with
    | zero=>rfl
    | succ m=>
     unfold Qbv
     split
     ·rename_i fs hfs;exact absurd hfs (hn fs)
     ·rename_i q e hfs;exact absurd hfs (hn2 q e)
     ·rfl
   split at hf
   ·rename_i ht
    obtain ⟨b,e,_⟩:=DataW.trod_bool ht h
    subst e
    rw [leaf (by rw [ht];intro fs hh;cases hh) (by rw [ht];intro q e hh;cases hh)]
    exact ⟨[.sc (.bool b)],⟨by unfold QbO;rw [ht];exact ⟨b,rfl⟩,trivial⟩,Rd.sc _,trivial⟩
   ·rename_i kk ht
    obtain ⟨q,e,_,hw⟩:=DataW.trod_int ht h
    subst e
    rw [leaf (by rw [ht];intro fs hh;cases hh) (by rw [ht];intro q e hh;cases hh)]
    exact ⟨[.sc (.int kk q)],⟨by unfold QbO;rw [ht];exact ⟨q,rfl,hw⟩,trivial⟩,Rd.sc _,trivial⟩
   ·rename_i ht
    obtain ⟨s,e,_,hw⟩:=DataW.trod_string ht h
    subst e
    obtain ⟨l,rfl⟩:=QBd s
    rw [leaf (by rw [ht];intro fs hh;cases hh) (by rw [ht];intro q e hh;cases hh)]
    exact ⟨[.sc (str l)],⟨by unfold QbO;rw [ht];exact ⟨l,rfl,by simpa using hw⟩,trivial⟩,Rd.sc _,trivial⟩
   ·rename_i e ht
    simp only [Bool.and_eq_true,decide_eq_true_eq] at hf
    rw [leaf (by rw [ht];intro fs hh;cases hh) (by rw [ht];intro q e hh;cases hh)]
    rcases DataW.trod_slice ht h with ⟨e1,_⟩ | ⟨a,len,cap,elems,rest,n',hn,e1,_,_,hl,hm,hlen,hel,_⟩
    ·subst e1
     exact ⟨[.lst (P.cellsOf e) []],⟨by unfold QbO;rw [ht];exact ⟨[],rfl,Nat.zero_le _,fun _ h=>by simp at h⟩,trivial⟩,Rd.nil0 _,trivial⟩
    ·injection hn with hn
     subst hn e1
     obtain ⟨es,h1,h2,h3⟩:=QpY (P:=P) (w:=w) (base:=base) (n:=n) (a:=a) (len:=len) (lv:=Qbv P 9 e) hf.1 (fun i hi=>by
      have hx:=hel i hi
      rw [List.getElem?_eq_getElem (by omega)] at hx
      obtain ⟨cs',hc1,hc2⟩:=Option.bind_eq_some_iff.1 hx
      obtain ⟨xs,hx1,hx2⟩:=ih _ _ _ k 9 hf.2 hc2
      exact ⟨xs,hx1,cs',hc1,hx2⟩) cap hl
     refine ⟨[.lst (P.cellsOf e) es],⟨by unfold QbO;rw [ht];exact ⟨es,rfl,by omega,h2⟩,trivial⟩,h3,trivial⟩
   ·rename_i fs ht
    cases m with
    | zero=>cases hf
    | succ m=>
     obtain ⟨xs,n',hn,_,hl,hxl,hfs⟩:=DataW.trod_struct ht h
     injection hn with hn
     subst hn
     rw [←hl] at hf
     obtain ⟨zs,hz1,hz2⟩:=Qin (g:=fun u=>Qzf P k m u) (lv:=Qbv P m) (fun t cs y hg hh=>ih t cs y k m hg hh) fs.toList 0 hf (fun f hfm=>by
      obtain ⟨i,hi,he⟩:=List.mem_iff_getElem.1 hfm
      have hi':i<fs.size:=by simpa using hi
      have:=hfs i f (by rw [Array.getElem?_eq_getElem hi'];simpa using he)
      rw [List.getElem?_eq_getElem (by omega)] at this
      exact ⟨_,this⟩)
     refine ⟨zs,?_,by simpa using hz2⟩
     unfold Qbv
     rw [ht]
     exact hz1.mono fun t x=>Qim n t x
   ·rename_i q e ht
    cases m with
    | zero=>cases hf
    | succ m=>
     simp only [Bool.and_eq_true,beq_iff_eq] at hf
     obtain ⟨xs,n',hn,_,hl,hxl,hfs⟩:=DataW.trod_array ht h
     injection hn with hn
     subst hn
     obtain ⟨zs,hz1,hz2⟩:=Qn9 (P:=P) (w:=w) (n:=n) (lv:=Qbv P m e) (c:=P.cellsOf e) q (by rw [hl,hf.1]) (fun i hi=>by
      have:=hfs i hi
      rw [List.getElem?_eq_getElem (by omega)] at this
      exact ih _ _ _ k m hf.2 this)
     refine ⟨zs,?_,hz2⟩
     unfold Qbv
     rw [ht]
     exact hz1.mono fun t x=>Qim n t x
   ·cases hf
end
section
variable {P:Program} {n:Nat} {t:TypeId} {x:V}
theorem Qkn {k:IntKind} (ht:P.underlying t=some (.int k)) (h:QbO P n t x):∃ m,x=.sc (.int k m)∧k.min≤m∧m≤k.max:=by
 cases n with
 | zero=>exact h.elim
 | succ n=>
  unfold QbO at h
  rw [ht] at h
  obtain ⟨m,e,hw⟩:=h
  simp only [Lit.wf,Bool.and_eq_true,decide_eq_true_eq] at hw
  exact ⟨m,e,hw⟩
theorem Qko (ht:P.underlying t=some (.int .i64)) (h:QbO P n t x):∃ m,x=.sc (.int .i64 m)∧-9223372036854775808≤m∧m≤9223372036854775807:=Qkn ht h
theorem Qoa (ht:P.underlying t=some (.int .u32)) (h:QbO P n t x):∃ m,x=.sc (.int .u32 m)∧0≤m∧m<4294967296:=by
 obtain ⟨m,e,h1,h2⟩:=Qkn ht h
 exact ⟨m,e,h1,Int.lt_of_le_of_lt h2 (by decide:IntKind.u32.max<4294967296)⟩
theorem QsD (ht:P.underlying t=some .bool) (h:QbO P n t x):∃ b,x=.sc (.bool b):=by
 cases n with
 | zero=>exact h.elim
 | succ n=>unfold QbO at h;rw [ht] at h;exact h
theorem Qwb (ht:P.underlying t=some .string) (h:QbO P n t x):∃ l:List UInt8,x=.sc (str l)∧l.length≤maxLen:=by
 cases n with
 | zero=>exact h.elim
 | succ n=>unfold QbO at h;rw [ht] at h;exact h
theorem Qjx {e:TypeId} {sz:Nat} {ls:List TypeId} (ht:P.underlying t=some (.slice e)) (hsz:P.cellsOf e=sz) (hl:Qbv P 9 e=ls) (h:QbO P n t x) :
  ∃ es n',x=.lst sz es∧es.length≤maxLen∧∀ r∈es,RowV (QbO P n') ls r:=by
 cases n with
 | zero=>exact h.elim
 | succ n=>
  unfold QbO at h
  rw [ht] at h
  obtain ⟨es,e1,h1,h2⟩:=h
  exact ⟨es,n,by rw [e1,hsz],h1,by rw [←hl];exact h2⟩
end
theorem QmU {α:Type} {f:α→List V} {Q:α→Prop}:∀ {es:List (List V)},(∀ r∈es,∃ a,r=f a∧Q a)→∃ xs:List α,es=xs.map f∧∀ a∈xs,Q a
 | [],_=>⟨[],rfl,fun _ h=>by simp at h⟩
 | r::es,h=>by
  obtain ⟨a,h1,h2⟩:=h r (by simp)
  obtain ⟨xs,h3,h4⟩:=QmU (es:=es) fun r' hr=>h r' (by simp [hr])
  refine ⟨a::xs,by rw [h1,h3];rfl,fun b hb=>?_⟩
  rcases List.mem_cons.1 hb with rfl | hb
  ·exact h2
  ·exact h4 b hb
section
variable {H:Type} {enc:TypeId × Value→H} {P:Program} {w:World} {base:Nat} {spare:Nat→Bool} {held:Bool} {t:TypeId} {v:Value} {d:DataW H} {p:List MemPlace} {r:Reach} {b0:Nat}
theorem QlE (hns:∀ fs,P.underlying t≠some (.struct fs)) (hna:∀ n e,P.underlying t≠some (.array n e)) (hf:Qzf P 20 9 t=true) (hv:Value.okWide P w r b0 t v) (h:DataW.Trod enc P w base spare held t v d p) :
  ∃ n x,QbO P n t x∧Rd (cellsOf w) x v:=by
 have hnv:∀ cs,v≠.agg cs:=by
  rintro cs rfl
  unfold Value.okWide at hv
  split at hv
  ·rename_i fs ht;exact hns _ ht
  ·rename_i n e ht;exact hna _ _ ht
  ·unfold Cell.okWide Cell.ok at hv
   split at hv <;> first | (simp_all;done) | (split at hv <;> simp_all;done)
 have hc:v.cells = #[v]:=by
  unfold Value.cells
  split
  ·rename_i cs;exact absurd rfl (hnv cs)
  ·rfl
 obtain ⟨n,hn⟩:=h
 obtain ⟨xs,h1,h2⟩:=Qwa n _ _ _ 20 9 hf hn
 rw [hc] at h2
 have hl:Qbv P 9 t=[t]:=by
  unfold Qbv
  split
  ·rename_i fs hfs;exact absurd hfs (hns fs)
  ·rename_i q e hfs;exact absurd hfs (hna q e)
  ·rfl
 rw [hl] at h1
 obtain ⟨x,ys,rfl,h3,h4⟩:=QbJ h1
 exact ⟨n,x,h3,h2.1⟩
end
theorem QlF {m:Mem} {x:V} {v:Value} {xs:List V} {vs:List Value} (h:Rd m x v) (k:∀ (j:Nat) (y:V) (u:Value),xs[j]? = some y→vs[j]? = some u→Rd m y u) :
  ∀ (j:Nat) (y:V) (u:Value),(x::xs)[j]? = some y→(v::vs)[j]? = some u→Rd m y u
 | 0,y,u,hy,hu=>by cases hy;cases hu;exact h
 | j+1,y,u,hy,hu=>k j y u (by simpa using hy) (by simpa using hu)
theorem Qwc {m:Mem}:∀ (j:Nat) (y:V) (u:Value),([]:List V)[j]? = some y→([]:List Value)[j]? = some u→Rd m y u:=fun j y u hy _=>by simp at hy
end Go.Proofs.YthfocmakkeonoaaGreatDoor
namespace Go.Proofs.YthfocmakkeonoaaGreatDoor
open Go.RowKit
theorem Qkp {P:Program} {K:FuncId} {us:List Value} {u:Value} (h:∀ w,Calls P K us.toArray w fun e w'=>e=.returned u∧Below w.heap.size w w') :
  Qan P K (us.map fun v=>.ca (.val (.sc v))) [] (.ca (.val (.sc u))) []:=by
 have:(us.map fun v=>(Arg.ca (.val (.sc v))))=(us.map V.sc).map fun x=>.ca (.val x):=by simp
 rw [this]
 refine QsA fun m w vals hm hl hv=>?_
 have hv:vals=us:=by
  apply List.ext_getElem (by simpa using hl)
  intro j h1 h2
  exact Rd.sc_eq (hv j (.sc us[j]) vals[j] (by rw [List.getElem?_map,List.getElem?_eq_getElem h2];rfl) (List.getElem?_eq_getElem h1))
 subst hv
 refine (h w).mono ?_
 rintro e w' ⟨rfl,hb⟩
 have hc:Chg Nothing w w':=(Chg.ofBelow hb).mono fun i hi h=>by omega
 exact ⟨u,m,rfl,Rd.sc u,Mem.le_refl m,fun b i v h1=>(hc.cell (World.block_lt_of_cell? w _ (hm b i v h1)) id).trans (hm b i v h1),hc,fun b i _=>rfl⟩
end Go.Proofs.YthfocmakkeonoaaGreatDoor
namespace Go.Proofs.YthfocmakkeonoaaGreatDoor
open Go.RowKit
theorem QfT:∀ (n:Nat) (s:List Nat),s.Nodup→(∀ i∈s,i<n)→s.length≤n
 | 0,s,_,h=>by
  cases s with
  | nil=>simp
  | cons a s=>exact absurd (h a (by simp)) (by omega)
 | n+1,s,hn,h=>by
  by_cases hm:n∈s
  ·have h1:=QfT n (s.erase n) (hn.erase n) (fun i hi=>by
    have h2:=(hn.mem_erase_iff).1 hi
    have h3:=h i h2.2
    have h4:=h2.1
    omega)
   rw [List.length_erase_of_mem hm] at h1
   omega
  ·have h1:=QfT n s hn (fun i hi=>by
    have h2:=h i hi
    have h3:i≠n:=fun e=>hm (e ▸ hi)
    omega)
   omega
theorem Qgz {s:List Nat} {i:Nat} (hn:s.Nodup) (hi:i∉s):(s++[i]).Nodup:=List.nodup_append.2 ⟨hn,by simp,fun a ha b hb=>by simp at hb;subst hb;exact fun e=>hi (e ▸ ha)⟩
section
variable {P:Program} {ops:Array Oper} {C:Ctx} {md:Bool} {σ:St} {K:St→List FP→Prop} {acc:List FP} {rest:List Oper}
theorem QsE {d:Tmp} {t:TypeId} {x y:Operand}:Qa8 P σ (some d) (.makeSlice t x y)=none:=rfl
attribute [go_sem] QsE
theorem QB3 {d:Tmp} {x:Operand} {ty:TypeId} {pos:String} {af:Array Edge} (o k:Id) (s:List Nat) (kvs:List (Value × T)) (h:ev σ x=.ptr o (gg σ o) 0∧σ (.o o)=.itr k (gg σ k) s∧σ (.r k)=.tree (.mp kvs))
  (k1:∀ (i:Nat) (p:Value × T),kvs[i]? = some p→i∉s→Qb7 P ops C true K rest (Qaf σ [(.o o,.non),(.o o,.itr k (gg σ k) (s++[i])),(.s d,.av (.val (.tup [.sc (.bool true),.sc p.1,Qq4 .any (some p.2)])))]) ((rdl x++[.g o,.o o,.g k,.r k],[.o o,.o o,.s d])::acc))
  (k2:(∀ i,i<kvs.length→i∈s)→Qb7 P ops C true K rest (Qaf σ [(.s d,.av (.val (.tup [.sc (.bool false)])))]) ((rdl x++[.g o,.o o,.g k,.r k],[.s d])::acc)) :
  Run P ops C true K (⟨some d,.next x false,ty,pos,af,none⟩::rest) σ acc:=
 QvF rfl h.1 rfl h.2.1 rfl h.2.2 k1 k2
end
end Go.Proofs.YthfocmakkeonoaaGreatDoor
namespace Go.Proofs.YthfocmakkeonoaaGreatDoor
open Go.RowKit
section
variable {P:Program} {ops:Array Oper} {C:Ctx} {σ:St} {K:St→List FP→Prop} {acc:List FP} {rest:List Oper}
theorem QmV {op:BinOp} {t:TypeId} {x y:Operand} {a:Option Addr} {n c:Nat} {u:Value} (w:World):(eqGuard op t x y (.slice a n c) u).run P w=.ok () w:=by
 unfold eqGuard
 cases op <;> simp
theorem Qwd {m:Mem} {sz:Nat} {es:List (List V)} {v:Value} (h:Rd m (.lst sz es) v):∃ a n c,v=.slice a n c∧(a.isNone=true→es=[]):=by
 cases h with
 | nil A c=>exact ⟨_,_,_,rfl,fun _=>rfl⟩
 | lst=>exact ⟨_,_,_,rfl,fun h=>by cases h⟩
theorem QDX {d:Tmp} {t t':TypeId} {x:Operand} {n c:Nat} {ty:TypeId} {pos:String} {af:Array Edge} (sz:Nat) (es:List (List V)) (hx:plain (ev σ x)=.lst sz es) (ht:(Qao P t).map (·.sh)=some .slice)
  (k:∀ b:Bool,(b=true→es=[])→Qb7 P ops C true K rest (put σ (.s d) (.av (.val (.sc (.bool b))))) ((rdl x,[.s d])::acc)) :
  Run P ops C true K (⟨some d,.binOp .eql t x (.const (.slice none n c)) t',ty,pos,af,none⟩::rest) σ acc:=
 .alt (L:=rdl x) (Ws:=fun W=>∃ b:Bool,(b=true→es=[])∧W=[(.s d,.av (.val (.sc (.bool b))))]) rfl (fun E σ' a w Kt Q hd hr0 hg hK=>by
   rw [if_pos (by simp [Region.wanted])]
   have hr:=QcS hr0
   have hv:=Qax hg x
   rw [Qae hr] at hv
   have hv:=Qc2 hv
   rw [hx] at hv
   obtain ⟨A,n',c',h1,h2⟩:=Qwd hv
   obtain ⟨e,he⟩:=QbM ht
   show Oper.upon _ _ _ _ _ _
   have hrun:(execOp a.eval ⟨some d,.binOp .eql t x (.const (.slice none n c)) t',ty,pos,af,none⟩).run P w=.ok (.value (.bool A.isNone)) w:=by
    have hc:a.eval (.const (.slice none n c))=.slice none n c:=rfl
    simp only [execOp,h1,hc,Sem.run_bind,QmV,Result.andThen_ok,Lib.run_eql_slice_nil w t e A n' c' n c he,Sem.run_pure]
   rw [hrun]
   exact hK _ _ _ E ⟨A.isNone,h2,rfl⟩ (hg.slot d _ _ (hd d rfl) (Rd.sc _))) fun W hW=>by
  obtain ⟨b,h1,rfl⟩:=hW
  exact QaJ (k b h1)
end
section
variable {P:Program} {ops:Array Oper} {C:Ctx} {E:Env} {σ:St} {a:Act} {w:World} {md:Bool} {K:St→List FP→Prop} {acc:List FP} {rest:List Oper} {Q:Exit→St→Prop}
theorem Qzg {c:Code} (l:Pl) (x y:AV) (W:List (Pl × X)) (hl:(∃ t,l=.s t)∨∃ o i,l=.c o i) (hx:σ l=.av x) (hW:∀ p∈W,p.1≠l)
  (hE:∀ E a w,Gm C E σ a w→∃ E',Gm C E' (Qaf σ W) a w∧∀ v,RdA E' (Qaf σ W) x v→RdA E' (Qaf σ W) y v) (h:AW P C c (Qaf σ (W++[(l,.av y)])) Q):AW P C c σ Q:=by
 intro E a w hg
 have hll:∀ o,l≠.g o∧l≠.q o∧l≠.k o∧l≠.o o∧l≠.h o∧l≠.r o∧l≠.l o:=fun o=>by
  rcases hl with ⟨t,rfl⟩ | ⟨o',i,rfl⟩ <;> refine ⟨?_,?_,?_,?_,?_,?_,?_⟩ <;> (intro e;cases e)
 obtain ⟨E',g1,g2⟩:=hE E a w hg
 have hnl:l∉QcP W:=fun h=>by
  obtain ⟨p,hp,he⟩:=List.mem_map.1 h
  exact hW p hp he
 have h1:Qaf σ W l=.av x:=(Qcd W σ l hnl).trans hx
 have h2:=Gm.know g1 l x y hll h1 g2
 rw [Qal] at h
 exact h E' a w h2
theorem QB4 {c:Code} (l:Pl) (k:Id) (e:TypeId) (sz:Nat) (hk:k.2≠0) (hl:(∃ t,l=.s t)∨∃ o i,l=.c o i) (hx:σ l=.av (.val (.sc (.slice none 0 0))))
  (h:AW P C c (Qaf σ (QaA σ k (.rw e sz [])++[(l,.av (.ref k (gh σ k+1)))])) Q):AW P C c σ Q:=by
 refine Qzg l _ _ (QaA σ k (.rw e sz [])) hl hx (fun p hp e=>?_) (fun E a w hg=>?_) h
 ·rcases hl with ⟨t,rfl⟩ | ⟨o',i,rfl⟩ <;> (simp [QaA] at hp;rcases hp with rfl | rfl | rfl | rfl | rfl <;> cases e)
 ·obtain ⟨E',g1,_,_,_,_,g6⟩:=hg.gainTree k (.rw e sz []) (.slice none 0 0) [] (fun y h=>by cases h)
   (by have:=Qkc (m:=E.m) (w:=w) (e:=e) (sz:=sz) (es:=[]) (v:=.slice none 0 0) (us:=[]) (World.ownsRow_nil _ _ _ _) (fun r h=>by cases h) (fun i j hi=>by simp at hi) (fun b hb=>by cases hb);exact this) (fun b hb=>by cases hb) hk
  exact ⟨E',g1,fun v hv=>by rw [Rd.sc_eq hv];exact g6.toA⟩
theorem QDY {c:Code} (t:Nat) (k:Id) (e:TypeId) (sz:Nat) (hk:k.2≠0) (h:σ (.s t)=.av (.val (.sc (.slice none 0 0)))∧AW P C c (Qaf σ (QaA σ k (.rw e sz [])++[(.s t,.av (.ref k (gh σ k+1)))])) Q):AW P C c σ Q:=
 QB4 (.s t) k e sz hk (.inl ⟨t,rfl⟩) h.1 h.2
end
end Go.Proofs.YthfocmakkeonoaaGreatDoor
namespace Go.Proofs.YthfocmakkeonoaaGreatDoor
open Go.RowKit
def QlG (P:Program) (t:TypeId):Bool:=match P.underlying t with | some (.interface _)=>false | some _=>true | none=>false
theorem QgA {P:Program} {t:TypeId} (h:QlG P t=true):∃ d,P.underlying t=some d∧∀ ms,d≠.interface ms:=by
 unfold QlG at h
 cases hd:P.underlying t with
 | none=>rw [hd] at h;cases h
 | some d=>
  rw [hd] at h
  refine ⟨d,rfl,fun ms e=>?_⟩
  subst e;cases h
def QDv (P:Program) (t:TypeId):Bool:=match P.underlying t with | some (.interface _)=>true | _=>false
theorem QsF {P:Program} {t:TypeId} (h:QDv P t=true):∃ ms,P.underlying t=some (.interface ms):=by
 unfold QDv at h
 split at h
 ·rename_i ms hd;exact ⟨ms,hd⟩
 ·cases h
def Qzh (at':TypeId):AV→Prop
 | .val (.ifc t _)=>t≠at'
 | .val (.sc v)=>v=.nilIface
 | _=>False
def Qzi:AV→Option Bool
 | .val (.ifc _ _)=>some false
 | .val (.sc .nilIface)=>some true
 | _=>none
attribute [go_sem] Qzh Qzi
section
variable {P:Program} {ops:Array Oper} {C:Ctx} {E:Env} {σ:St} {a:Act} {w:World} {md:Bool} {K:St→List FP→Prop} {acc:List FP} {rest:List Oper} {Q:Exit→St→Prop}
theorem QB5 {d:Tmp} {t:TypeId} {x:Operand} (ht:QlG P t=true):Qbl P C σ (some d) (.makeInterface t x) (some (True,rdl x,[(.s d,.av (.val (.ifc t (plain (ev σ x)))))])):=by
 refine Qar fun _ ty pos af E σ' a w hr hg=>⟨.iface t (a.eval x),?_,.ifc t _ _ (by rw [←Qae hr];exact Qc2 (Qax hg x))⟩
 obtain ⟨dd,h1,h2⟩:=QgA ht
 have:(Instr.makeInterface t (a.eval x)).run P w=.ok (.iface t (a.eval x)) w:=by
  unfold Instr.makeInterface
  simp only [Sem.run_bind,run_underlying h1,Result.andThen_ok]
  cases dd <;> first | rfl | exact absurd rfl (h2 _)
 simp [execOp,this]
theorem Qfd {d:Tmp} {t:TypeId} {x:Operand} {ty:TypeId} {pos:String} {af:Array Edge} (ht:QlG P t=true)
  (k:Qb7 P ops C md K rest (put σ (.s d) (.av (.val (.ifc t (plain (ev σ x)))))) ((rdl x,[.s d])::acc)):Run P ops C md K (⟨some d,.makeInterface t x,ty,pos,af,none⟩::rest) σ acc:=
 Qde (QB5 ht) rfl trivial k
theorem QB6 {d:Tmp} {x:Operand} {xt at':TypeId} {y:V} (hc:QlG P at'=true) (hx:ev σ x=.val (.ifc at' y)):Qbl P C σ (some d) (.typeAssert x xt at' true) (some (True,rdl x,[(.s d,.av (.val (.tup [y,.sc (.bool true)])))])):=by
 refine Qar fun _ ty pos af E σ' a w hr hg=>?_
 have h:=Qax hg x
 rw [Qae hr,hx] at h
 have h:Rd E.m (.ifc at' y) (a.eval x):=h
 generalize hv:a.eval x=v at h
 cases h with
 | ifc _ _ u hu=>
  obtain ⟨dd,h1,h2⟩:=QgA hc
  refine ⟨.tuple #[u,.bool true],?_,.tup _ _ rfl fun i hi=>?_⟩
  ·have:(Instr.typeAssert (.iface at' u) xt at' true).run P w=.ok (.tuple #[u,.bool true]) w:=by
    unfold Instr.typeAssert
    simp only [Sem.run_bind,run_underlying h1,Result.andThen_ok]
    cases dd <;> first | exact absurd rfl (h2 _) | simp
   simp [execOp,hv,this]
  ·have:i=0∨i=1:=by simp at hi;omega
   rcases this with rfl | rfl
   ·exact hu
   ·exact Rd.sc _
theorem Qkq {d:Tmp} {x:Operand} {xt at':TypeId} {ty:TypeId} {pos:String} {af:Array Edge} (hc:QlG P at'=true) (y:V) (hx:ev σ x=.val (.ifc at' y))
  (k:Qb7 P ops C md K rest (put σ (.s d) (.av (.val (.tup [y,.sc (.bool true)])))) ((rdl x,[.s d])::acc)):Run P ops C md K (⟨some d,.typeAssert x xt at' true,ty,pos,af,none⟩::rest) σ acc:=
 Qde (QB6 hc hx) rfl trivial k
theorem Qzj {d:Tmp} {op:BinOp} {t t':TypeId} {x:Operand} {b:Bool} (hop:op=.eql∨op=.neq) (ht:QDv P t=true) (hx:Qzi (ev σ x)=some b) :
  Qbl P C σ (some d) (.binOp op t x (.const .nilIface) t') (some (True,rdl x,[(.s d,.av (.val (.sc (.bool (if op=.eql then b else !b)))))])):=by
 refine Qar fun _ ty pos af E σ' a w hr hg=>⟨_,?_,Rd.sc _⟩
 have h:=Qax hg x
 rw [Qae hr] at h
 obtain ⟨ms,h1⟩:=QsF ht
 have hv:(a.eval x=.nilIface∧b=true)∨∃ t u,a.eval x=.iface t u∧b=false:=by
  cases he:ev σ x with
  | val X=>
   rw [he] at h hx
   cases X with
   | sc u=>
    have h:=Rd.sc_eq h
    cases u <;> simp [Qzi] at hx
    exact .inl ⟨h,hx⟩
   | ifc t y=>
    have h:Rd E.m (.ifc t y) (a.eval x):=h
    simp [Qzi] at hx
    generalize a.eval x=v at h
    cases h with
    | ifc _ _ u hu=>exact .inr ⟨t,u,rfl,hx⟩
   | _=>simp [Qzi] at hx
  | _=>rw [he] at hx;simp [Qzi] at hx
 have hq:∀ v n,((v=.nilIface∧b=true)∨∃ t u,v=.iface t u∧b=false)→(Op.equalIn (n+1) t v .nilIface).run P w=.ok b w:=fun v n hv=>by
  rcases hv with ⟨rfl,rfl⟩ | ⟨t',u,rfl,rfl⟩ <;> simp [Op.equalIn,run_underlying h1]
 have hg:∀ v,((v=.nilIface∧b=true)∨∃ t u,v=.iface t u∧b=false)→(eqGuard op t x (.const .nilIface) v .nilIface).run P w=.ok () w:=fun v hv=>by
  unfold eqGuard
  rcases hv with ⟨rfl,rfl⟩ | ⟨t',u,rfl,rfl⟩ <;> rcases hop with rfl | rfl <;> simp
 have hb:∀ v,((v=.nilIface∧b=true)∨∃ t u,v=.iface t u∧b=false)→(binOp op t v .nilIface).run P w=.ok (.bool (if op=.eql then b else !b)) w:=fun v hv=>by
  have h2:=hq v 9999 hv
  rcases hv with ⟨rfl,rfl⟩ | ⟨t',u,rfl,rfl⟩ <;> rcases hop with rfl | rfl <;> simp [binOp,Op.equal,Op.maxDepth,h2]
 have he:a.eval (.const .nilIface)=.nilIface:=rfl
 simp [execOp,he,hg _ hv,hb _ hv]
theorem QxL {d:Tmp} {op:BinOp} {t t':TypeId} {x:Operand} {ty:TypeId} {pos:String} {af:Array Edge} (hop:op=.eql∨op=.neq) (ht:QDv P t=true) (b:Bool) (hx:Qzi (ev σ x)=some b)
  (k:Qb7 P ops C md K rest (put σ (.s d) (.av (.val (.sc (.bool (if op=.eql then b else !b)))))) ((rdl x,[.s d])::acc)):Run P ops C md K (⟨some d,.binOp op t x (.const .nilIface) t',ty,pos,af,none⟩::rest) σ acc:=
 Qde (Qzj hop ht hx) rfl trivial k
end
end Go.Proofs.YthfocmakkeonoaaGreatDoor
