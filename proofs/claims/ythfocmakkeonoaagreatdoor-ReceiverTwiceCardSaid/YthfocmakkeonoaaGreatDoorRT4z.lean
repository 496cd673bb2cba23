/- Maps that are owned whole. Maps that are owned whole: looked up, walked through; functions' values. -/
import Derived.Test.YthfocmakkeonoaaGreatDoorRT1z
import Derived.ChangeMaps4
import Derived.Maps.RangeRun
set_option linter.unusedVariables false
set_option linter.unusedSimpArgs false
set_option maxRecDepth 100000
set_option maxHeartbeats 16000000
namespace Go.Proofs.YthfocmakkeonoaaGreatDoor
open Go.RowKit
open Classical in
noncomputable def Qdc:List (Value × T)→Value→Option T
 | [],_=>none
 | p::l,k=>if p.1=k then some p.2 else Qdc l k
open Classical in
noncomputable def QcI:List (Value × T)→Value→T→List (Value × T)
 | [],k,x=>[(k,x)]
 | p::l,k,x=>if p.1=k then (k,x)::l else p::QcI l k x
open Classical in
noncomputable def Qvq:List (Value × T)→Value→List (Value × T)
 | [],_=>[]
 | p::l,k=>if p.1=k then l else p::Qvq l k
theorem Qrz {k:Value} {x:T}:QcI [] k x=[(k,x)]:=rfl
open Classical in
theorem Qgt {p:Value × T} {l:List (Value × T)} {k:Value} {x:T}:QcI (p::l) k x=if p.1=k then (k,x)::l else p::QcI l k x:=rfl
theorem Qlh {k:Value}:Qdc [] k=none:=rfl
open Classical in
theorem QcQ {p:Value × T} {l:List (Value × T)} {k:Value}:Qdc (p::l) k=if p.1=k then some p.2 else Qdc l k:=rfl
theorem Qeu:∀ {l:List (Value × T)} {k:Value},k∉l.map (·.1)→Qdc l k=none
 | [],_,_=>rfl
 | p::l,k,h=>by
  simp only [List.map_cons,List.mem_cons,not_or] at h
  rw [Qdc,if_neg (fun e=>h.1 e.symm),Qeu h.2]
theorem Qdm:∀ {l:List (Value × T)} {k:Value} {x:T},k∉l.map (·.1)→QcI l k x=l++[(k,x)]
 | [],_,_,_=>rfl
 | p::l,k,x,h=>by
  simp only [List.map_cons,List.mem_cons,not_or] at h
  rw [QcI,if_neg (fun e=>h.1 e.symm),Qdm h.2];rfl
theorem Qpt:∀ {l:List (Value × T)} {k:Value} {y:T} {j:Nat},(l.map (·.1)).Nodup→l[j]? = some (k,y)→Qdc l k=some y∧(∀ x,QcI l k x=l.set j (k,x))∧Qvq l k=l.eraseIdx j
 | p::l,k,y,0,_,h=>by
  simp at h;subst h
  exact ⟨by rw [Qdc,if_pos rfl],fun x=>by rw [QcI,if_pos rfl];rfl,by rw [Qvq,if_pos rfl];rfl⟩
 | p::l,k,y,j+1,hn,h=>by
  have h:l[j]? = some (k,y):=by simpa using h
  rw [List.map_cons,List.nodup_cons] at hn
  have hne:p.1≠k:=fun e=>hn.1 (e ▸ List.mem_map.2 ⟨_,List.mem_of_getElem? h,rfl⟩)
  obtain ⟨h1,h2,h3⟩:=Qpt hn.2 h
  exact ⟨by rw [Qdc,if_neg hne,h1],fun x=>by rw [QcI,if_neg hne,h2];rfl,by rw [Qvq,if_neg hne,h3];rfl⟩
theorem Qpu {l:List (Value × T)} {k:Value} {x:T} (hn:(l.map (·.1)).Nodup):((QcI l k x).map (·.1)).Nodup:=by
 by_cases h:k∈l.map (·.1)
 ·obtain ⟨p,hp,rfl⟩:=List.mem_map.1 h
  obtain ⟨j,hj⟩:=List.getElem?_of_mem hp
  rw [(Qpt hn (y:=p.2) hj).2.1 x,List.map_set]
  have:(l.map (·.1)).set j p.1=l.map (·.1):=by
   apply List.ext_getElem?
   intro i
   rw [List.getElem?_set]
   split
   ·rename_i e;subst e
    split
    ·rw [List.getElem?_map,hj];rfl
    ·rename_i h;rw [List.getElem?_eq_none (by omega)]
   ·rfl
  rw [this];exact hn
 ·rw [Qdm h,List.map_append,List.map_cons,List.map_nil]
  exact List.nodup_append.2 ⟨hn,by simp,fun a ha b hb=>by simp at hb;subst hb;exact fun e=>h (e ▸ ha)⟩
section
variable {m:Mem} {w:World}
theorem QeW {kvs:List (Value × T)} {v:Value} {F:List Nat} (h:Hg m w [.mp kvs] [v] F):∃ b ents clock F1,v=.map (some b)∧w.heap[b]? = some (.map ents clock)∧(∀ i,m b i=none)∧ents.toList.map (·.key)=kvs.map (·.1) ∧
  (kvs.map (·.1)).Nodup∧(ents.toList.map (·.born)).Nodup∧(∀ e∈ents.toList,e.born<clock)∧Hg m w (kvs.map (·.2)) (ents.toList.map (·.val)) F1∧b∉F1∧F=b::F1:=by
 cases h with
 | mp hb hm hk hk2 hn hc h hs h1 h2 h3=>cases hs;exact ⟨_,_,_,_,rfl,hb,hm,hk,hk2,hn,hc,h,h1,by simp⟩
theorem QrA {kvs:List (Value × T)} {b:Nat} {ents:Array MapEntry} {clock:Nat} {F:List Nat} (hb:w.heap[b]? = some (.map ents clock)) (hm:∀ i,m b i=none) (hk:ents.toList.map (·.key)=kvs.map (·.1)) (hk2:(kvs.map (·.1)).Nodup) (hn:(ents.toList.map (·.born)).Nodup) (hc:∀ e∈ents.toList,e.born<clock)
  (h:Hg m w (kvs.map (·.2)) (ents.toList.map (·.val)) F) (h1:b∉F):Hg m w [.mp kvs] [.map (some b)] (b::F):=by
 have:=Hg.mp hb hm hk hk2 hn hc h .nil h1 (by simp) (by simp)
 simpa using this
theorem Hg.get_av:∀ {xs:List T} {vs:List Value} {F:List Nat} {j:Nat} {x:V},Hg m w xs vs F→xs[j]? = some (.av x)→∃ u,vs[j]? = some u∧Rd m x u:=by
 intro xs vs F j x h
 induction h generalizing j with
 | nil=>intro hj;simp at hj
 | av h0 _ ih=>
  intro hj
  cases j with
  | zero=>simp at hj;subst hj;exact ⟨_,rfl,h0⟩
  | succ j=>exact ih (by simpa using hj)
 | box _ _ _ _ _ _ _ _ ih=>intro hj;cases j with | zero=>simp at hj | succ j=>exact ih (by simpa using hj)
 | row _ _ _ _ _ _ _ ih=>intro hj;cases j with | zero=>simp at hj | succ j=>exact ih (by simpa using hj)
 | rw _ _ _ _ _ ih=>intro hj;cases j with | zero=>simp at hj | succ j=>exact ih (by simpa using hj)
 | mp _ _ _ _ _ _ _ _ _ _ _ _ ih=>intro hj;cases j with | zero=>simp at hj | succ j=>exact ih (by simpa using hj)
 | pm _ _ _ _ _ ih=>intro hj;cases j with | zero=>simp at hj | succ j=>exact ih (by simpa using hj)
 | bag _ _ _ _ ih=>intro hj;cases j with | zero=>simp at hj | succ j=>exact ih (by simpa using hj)
theorem Hg.push_av {xs:List T} {vs:List Value} {F:List Nat} {x:V} {u:Value} (h:Hg m w xs vs F) (hr:Rd m x u):Hg m w (xs++[.av x]) (vs++[u]) F:=by
 induction h with
 | nil=>exact .av hr .nil
 | av h0 _ ih=>exact .av h0 ih
 | box a1 a2 a3 _ a5 a6 a7 _ ih=>exact .box a1 a2 a3 ih a5 a6 a7
 | row a1 a2 a3 a4 _ a6 _ ih=>exact .row a1 a2 a3 a4 ih a6
 | rw a1 a2 a3 a4 _ ih=>exact .rw a1 a2 a3 a4 ih
 | mp a1 a2 a3 a4 a5 a6 a7 _ a9 a10 a11 _ ih=>exact .mp a1 a2 a3 a4 a5 a6 a7 ih a9 a10 a11
 | pm a1 a2 _ a4 _ ih=>exact .pm a1 a2 ih a4
 | bag a2 _ a4 _ ih=>exact .bag a2 ih a4
theorem Hg.set_av {xs:List T} {vs:List Value} {F:List Nat} {x:V} {u:Value} (h:Hg m w xs vs F) (hr:Rd m x u):∀ j,j<xs.length→∃ F',Hg m w (xs.set j (.av x)) (vs.set j u) F'∧∀ b∈F',b∈F:=by
 induction h with
 | nil=>intro j hj;simp at hj
 | av h0 hs ih=>
  intro j hj
  cases j with
  | zero=>exact ⟨_,.av hr hs,fun b h=>h⟩
  | succ j=>obtain ⟨F',h1,h2⟩:=ih j (by simpa using hj);exact ⟨F',.av h0 h1,h2⟩
 | box a1 a2 a3 hs a5 a6 a7 _ ih=>
  intro j hj
  cases j with
  | zero=>exact ⟨_,.av hr hs,fun b h=>List.mem_cons_of_mem _ (List.mem_append_right _ h)⟩
  | succ j=>
   obtain ⟨F',h1,h2⟩:=ih j (by simpa using hj)
   refine ⟨_,.box a1 a2 a3 h1 a5 (fun h=>a6 (h2 _ h)) (fun i hi hF=>a7 i hi (h2 _ hF)),fun b h=>?_⟩
   rcases List.mem_cons.1 h with rfl | h
   ·simp
   ·rcases List.mem_append.1 h with h | h
    ·exact List.mem_cons_of_mem _ (List.mem_append_left _ h)
    ·exact List.mem_cons_of_mem _ (List.mem_append_right _ (h2 _ h))
 | row a1 a2 a3 a4 hs a6 _ ih=>
  intro j hj
  cases j with
  | zero=>exact ⟨_,.av hr hs,fun b h=>List.mem_append_right _ (List.mem_append_right _ h)⟩
  | succ j=>
   obtain ⟨F',h1,h2⟩:=ih j (by simpa using hj)
   refine ⟨_,.row a1 a2 (fun b hb=>⟨(a3 b hb).1,(a3 b hb).2.1,fun h=>(a3 b hb).2.2 (h2 _ h)⟩) a4 h1 (fun i hi hF=>a6 i hi (h2 _ hF)),fun b h=>?_⟩
   rcases List.mem_append.1 h with h | h
   ·exact List.mem_append_left _ h
   ·rcases List.mem_append.1 h with h | h
    ·exact List.mem_append_right _ (List.mem_append_left _ h)
    ·exact List.mem_append_right _ (List.mem_append_right _ (h2 _ h))
 | rw a1 a2 a3 a4 hs ih=>
  intro j hj
  cases j with
  | zero=>exact ⟨_,.av hr hs,fun b h=>List.mem_append_right _ h⟩
  | succ j=>
   obtain ⟨F',h1,h2⟩:=ih j (by simpa using hj)
   refine ⟨_,.rw a1 a2 a3 (fun b hb=>⟨(a4 b hb).1,fun h=>(a4 b hb).2 (h2 _ h)⟩) h1,fun b h=>?_⟩
   rcases List.mem_append.1 h with h | h
   ·exact List.mem_append_left _ h
   ·exact List.mem_append_right _ (h2 _ h)
 | mp a1 a2 a3 a4 a5 a6 a7 hs a9 a10 a11 _ ih=>
  intro j hj
  cases j with
  | zero=>exact ⟨_,.av hr hs,fun b h=>List.mem_cons_of_mem _ (List.mem_append_right _ h)⟩
  | succ j=>
   obtain ⟨F',h1,h2⟩:=ih j (by simpa using hj)
   refine ⟨_,.mp a1 a2 a3 a4 a5 a6 a7 h1 a9 (fun h=>a10 (h2 _ h)) (fun i hi hF=>a11 i hi (h2 _ hF)),fun b h=>?_⟩
   rcases List.mem_cons.1 h with rfl | h
   ·simp
   ·rcases List.mem_append.1 h with h | h
    ·exact List.mem_cons_of_mem _ (List.mem_append_left _ h)
    ·exact List.mem_cons_of_mem _ (List.mem_append_right _ (h2 _ h))
 | pm a1 a2 hs a4 _ ih=>
  intro j hj
  cases j with
  | zero=>exact ⟨_,.av hr hs,fun b h=>List.mem_append_right _ h⟩
  | succ j=>
   obtain ⟨F',h1,h2⟩:=ih j (by simpa using hj)
   refine ⟨_,.pm a1 a2 h1 (fun i hi hF=>a4 i hi (h2 _ hF)),fun b h=>?_⟩
   rcases List.mem_append.1 h with h | h
   ·exact List.mem_append_left _ h
   ·exact List.mem_append_right _ (h2 _ h)
 | bag a2 hs a4 _ ih=>
  intro j hj
  cases j with
  | zero=>exact ⟨_,.av hr hs,fun b h=>List.mem_append_right _ h⟩
  | succ j=>
   obtain ⟨F',h1,h2⟩:=ih j (by simpa using hj)
   refine ⟨_,.bag a2 h1 (fun i hi hF=>a4 i hi (h2 _ hF)),fun b h=>?_⟩
   rcases List.mem_append.1 h with h | h
   ·exact List.mem_append_left _ h
   ·exact List.mem_append_right _ (h2 _ h)
end
def Qvr (P:Program) (kt:TypeId) (key:Value) (ks:List Value):Prop:=
 (∀ (b:Bool) (w:World),(Instr.checkKey b 10000 kt key).run P w=.ok () w)∧(∀ w:World,(Instr.keyThatStays key key).run P w=.ok key w) ∧
 ∀ (w:World) (l:List MapEntry),l.map (·.key)=ks→((Instr.findKey kt key l).run P w=.ok none w∧key∉ks)∨∃ j e,(Instr.findKey kt key l).run P w=.ok (some (j,e.val)) w∧l[j]? = some e∧e.key=key
def Qi9 (P:Program) (t:TypeId):Option (TypeId × TypeId):=match P.underlying t with | some (.map k e)=>some (k,e) | _=>none
theorem Qev {P:Program} {t k e:TypeId} (h:Qi9 P t=some (k,e)):P.underlying t=some (.map k e):=by
 unfold Qi9 at h
 split at h
 ·rename_i h1;cases h;exact h1
 ·cases h
def Qkb:Sh→Value→Prop
 | .int k,.int k' _=>k'=k
 | .str,.string _=>True
 | .bool,.bool _=>True
 | _,_=>False
theorem QrB {k k':IntKind} {n:Int}:Qkb (.int k) (.int k' n)=(k'=k):=rfl
theorem QrC {s:ByteArray}:Qkb .str (.string s)=True:=rfl
theorem Qpv {b:Bool}:Qkb .bool (.bool b)=True:=rfl
def QeX (s:Sh):List Value→Prop
 | []=>True
 | k::ks=>Qkb s k∧QeX s ks
theorem Qju {s:Sh}:∀ {ks:List Value},QeX s ks→∀ k∈ks,Qkb s k
 | _::_,h,k,hk=>by
  rcases List.mem_cons.1 hk with rfl | hk
  ·exact h.1
  ·exact Qju h.2 k hk
theorem QfG {s:Sh}:∀ {ks:List Value},(∀ k∈ks,Qkb s k)→QeX s ks
 | [],_=>trivial
 | k::ks,h=>⟨h k (by simp),QfG fun k hk=>h k (by simp [hk])⟩
def QA1 (T:Option TI) (key:Value) (ks:List Value):Prop:=match T with
 | some T=>Qkb T.sh key∧QeX T.sh ks
 | none=>False
theorem QmG {P:Program} {kt:TypeId} {key:Value} {ks:List Value} (h:QA1 (Qao P kt) key ks):Qvr P kt key ks:=by
 cases ht:Qao P kt with
 | none=>rw [ht] at h;exact h.elim
 | some T=>
  rw [ht] at h
  obtain ⟨h1,h2⟩:=h
  obtain ⟨i,d,_,hd,_,_,_,_,_,hstr,hint,hbool,_⟩:=Qak ht
  have hk:∀ v,Qkb T.sh v→MapKept.IsKey d v:=fun v hv=>by
   cases hs:T.sh with
   | int k=>rw [hint k hs];rw [hs] at hv;cases v <;> first | exact hv.elim | exact hv
   | str=>rw [hstr hs];rw [hs] at hv;cases v <;> first | exact hv.elim | exact hv
   | bool=>rw [hbool hs];rw [hs] at hv;cases v <;> first | exact hv.elim | exact hv
   | _=>rw [hs] at hv;cases v <;> exact hv.elim
  refine ⟨fun b w=>MapKept.run_checkKey hd (hk _ h1) b 9999,fun w=>MapKept.run_keyThatStays (hk _ h1),fun w l hl=>?_⟩
  rcases MapKept.findNow_spec (hk _ h1) l 0 (fun x hx=>hk _ (Qju h2 _ (by rw [←hl];exact List.mem_map.2 ⟨x,hx,rfl⟩))) with ⟨q1,q2⟩ | ⟨j,e,q1,q2,q3⟩
  ·refine .inl ⟨MapKept.run_findKey hd q1,fun hm=>?_⟩
   rw [←hl] at hm
   obtain ⟨x,hx,hxe⟩:=List.mem_map.1 hm
   exact q2 x hx hxe
  ·rw [Nat.zero_add] at q1
   exact .inr ⟨j,e,MapKept.run_findKey hd q1,q2,q3⟩
section
variable {P:Program} {ops:Array Oper} {C:Ctx} {E:Env} {σ:St} {a:Act} {w:World}
theorem Qli {b:Nat} {o:Obj} {F:List Nat} (hb:b∈F):Chg (fun i=>i∈F) w (ChangeMaps.setBlock w b o):=
 ⟨rfl,rfl,rfl,by simp [ChangeMaps.setBlock],fun i _ hi=>by
  have:b≠i:=fun e=>hi (e ▸ hb)
  simp [ChangeMaps.setBlock,this]⟩
theorem Qh1 {b:Nat} {o o':Obj} (hb:w.heap[b]? = some o'):(ChangeMaps.setBlock w b o).heap[b]? = some o:=(MapKept.heap_set hb).1
theorem Qh2 {b i:Nat} {o:Obj} (h:i≠b):(ChangeMaps.setBlock w b o).heap[i]? = w.heap[i]?:=by
 simp [ChangeMaps.setBlock,Ne.symm h]
def QfH (σ:St) (d:Tmp):Stp:=some (True,[.h (d,1),.g (d,1)],QaA σ (d,1) (.mp [])++[(.s d,.av (.ref (d,1) (gh σ (d,1)+1)))])
theorem Qpw (d:Tmp) (t:TypeId):Qbl P C σ (some d) (.makeMap t none) (QfH σ d):=by
 refine QaV (W0:=QaA σ (d,1) (.mp [])) fun _ ty pos af E σ' a w hr hg hd=>?_
 have e0:QaA σ (d,1) (.mp [])=QaA σ' (d,1) (.mp []):=by unfold QaA;rw [QaL (hr (.h (d,1)) (by simp)),Qaz (hr (.g (d,1)) (by simp))]
 have e1:gh σ (d,1)=gh σ' (d,1):=(QaL (hr (.h (d,1)) (by simp))).symm
 rw [e0,e1]
 have hA:=hg.alloc (.map #[] 0)
 have hfresh:∀ i,E.m w.heap.size i=none:=by
  intro i
  cases hc:E.m w.heap.size i with
  | none=>rfl
  | some v=>have:=hg.ms _ _ _ hc;simp [World.cell?] at this
 have hh:Hg E.m (w.alloc (.map #[] 0)) [.mp []] [.map (some w.heap.size)] [w.heap.size]:=
  QrA (ents:=#[]) (clock:=0) (F:=[]) (MapKept.heap_alloc w _).1 hfresh rfl (by simp) (by simp) (fun e h=>by simp at h) .nil (by simp)
 obtain ⟨E',g1,_,_,_,_,g6⟩:=hA.gainTree (d,1) (.mp []) (.map (some w.heap.size)) [w.heap.size] (fun y h=>by cases h) hh (fun b hb=>by
  simp at hb;subst hb
  exact ⟨.inr hg.fr.size,fun ⟨t,ht⟩=>by have:=(hg.ho_dd ht).1;omega⟩) (by simp)
 refine ⟨_,_,E',?_,g1,g6.toA⟩
 simp [execOp,run_makeMap]
noncomputable def QdC (P:Program) (σ:St) (t:TypeId) (m k v:Operand):Stp:=
 match Qi9 P t,ev σ m,Qhq σ k,ev σ v with
 | some (kt,e),.ref id g,some key,.val x=>match σ (.r id),σ (.l id) with
  | .tree (.mp kvs),.lent _ _=>none
  | .tree (.mp kvs),_=>some (gh σ id=g∧QA1 (Qao P kt) key (kvs.map (·.1)),[.h id,.g id,.r id,.l id]++(rdl m++(rdl k++rdl v)),QaR σ id (.mp (QcI kvs key (.av x))))
  | _,_=>none
 | _,_,_,_=>none
theorem Qlj (hg:Gm C E σ a w) {id:Id} {kvs:List (Value × T)} (hx:σ (.r id)=.tree (.mp kvs)) (hl:∀ i y,σ (.l id)≠.lent i y) {t kt e:TypeId} (ht:P.underlying t=some (.map kt e)) {key:Value} (hk:Qvr P kt key (kvs.map (·.1))) {x:V} {u:Value} (hr:Rd E.m x u) :
  ∃ w' E',(Instr.mapUpdate t (E.bv id) key u).run P w=.ok () w'∧Gm C E' (Qaf σ (QaR σ id (.mp (QcI kvs key (.av x))))) a w'∧Mo E σ E' (Qaf σ (QaR σ id (.mp (QcI kvs key (.av x))))):=by
 obtain ⟨hgg,_⟩:=hg.tr.hg id _ hx
 obtain ⟨b,ents,clock,F1,h1,h2,h3,h4,h5,h6,h7,h8,h9,h10⟩:=QeW hgg
 obtain ⟨k1,k2,k3⟩:=hk
 have hbF:b∈E.bf id:=by rw [h10];simp
 have hnoto:∀ o:Obj,Hg E.m (ChangeMaps.setBlock w b o) (kvs.map (·.2)) (ents.toList.map (·.val)) F1:=fun o=>
  h8.mono (Mem.le_refl _) fun i hi=>⟨Qh2 (fun e=>h9 (e ▸ hi)),fun _=>rfl⟩
 have fin:∀ (ents':Array MapEntry) (clock':Nat) (F':List Nat),(Instr.mapUpdate t (E.bv id) key u).run P w=.ok () (ChangeMaps.setBlock w b (.map ents' clock'))→ents'.toList.map (·.key)=(QcI kvs key (.av x)).map (·.1)→(ents'.toList.map (·.born)).Nodup→(∀ e∈ents'.toList,e.born<clock') →
   Hg E.m (ChangeMaps.setBlock w b (.map ents' clock')) ((QcI kvs key (.av x)).map (·.2)) (ents'.toList.map (·.val)) F'→(∀ i∈F',i∈F1) →
   ∃ w' E',(Instr.mapUpdate t (E.bv id) key u).run P w=.ok () w'∧Gm C E' (Qaf σ (QaR σ id (.mp (QcI kvs key (.av x))))) a w'∧Mo E σ E' (Qaf σ (QaR σ id (.mp (QcI kvs key (.av x))))):=by
  intro ents' clock' F' q1 q2 q3 q4 q5 q6
  have hh:Hg E.m (ChangeMaps.setBlock w b (.map ents' clock')) [.mp (QcI kvs key (.av x))] [E.bv id] (b::F'):=by
   rw [h1]
   exact QrA (Qh1 h2) h3 q2 (Qpu h5) q3 q4 q5 (fun h=>h9 (q6 _ h))
  obtain ⟨E',g1,g2,_,_⟩:=hg.setT id _ _ _ _ hx (fun ys h=>by cases h) (fun y h=>by cases h) (fun ys h=>by cases h) hh (fun i hi=>by
   rcases List.mem_cons.1 hi with rfl | hi
   ·exact .inl hbF
   ·rw [h10];exact .inl (List.mem_cons_of_mem _ (q6 _ hi))) (Qli hbF) (fun i y h=>absurd h (hl i y))
  exact ⟨_,E',q1,g1,g2⟩
 have hgo:=MapKept.run_getObj_map (P:=P) h2
 rcases k3 w ents.toList h4 with ⟨q1,q2⟩ | ⟨j,e0,q1,q2,q3⟩
 ·refine fin (ents.push { key:=key,val:=u,born:=clock }) (clock+1) F1 ?_ ?_ ?_ ?_ ?_ (fun i h=>h)
  ·rw [h1]
   simp [Instr.mapUpdate,run_underlying ht,hgo,k1,q1,MapKept.run_setObj_map _ h2,Result.andThen,ChangeMaps.setBlock]
  ·rw [Qdm q2];simp [h4]
  ·simp only [Array.toList_push,List.map_append,List.map_cons,List.map_nil]
   exact List.nodup_append.2 ⟨h6,by simp,fun a ha c hc=>by
    simp at hc;subst hc
    obtain ⟨z,hz,rfl⟩:=List.mem_map.1 ha
    exact Nat.ne_of_lt (h7 z hz)⟩
  ·intro z hz
   simp only [Array.toList_push,List.mem_append,List.mem_singleton] at hz
   rcases hz with hz | rfl
   ·exact Nat.lt_succ_of_lt (h7 z hz)
   ·exact Nat.lt_succ_self _
  ·rw [Qdm q2]
   simp only [Array.toList_push,List.map_append,List.map_cons,List.map_nil]
   exact (hnoto _).push_av hr
 ·have hj:ents[j]? = some e0:=by simpa using q2
  have hjk:kvs[j]? = some (key,(kvs.map (·.2)).getD j (.av .any)):=by
   have hlen:=congrArg (fun l=>l[j]?) h4
   simp only [List.getElem?_map,q2,Option.map_some] at hlen
   cases hkj:kvs[j]? with
   | none=>rw [hkj] at hlen;simp at hlen
   | some p=>rw [hkj] at hlen;simp at hlen;simp [hkj,←q3,hlen]
  have hset:=(Qpt h5 hjk).2.1 (.av x)
  have hjl:j<kvs.length:=(List.getElem?_eq_some_iff.1 hjk).1
  have hmod:(ents.modify j fun e=>{ e with key:=key,val:=u }).toList=ents.toList.set j { e0 with key:=key,val:=u }:=by
   rw [Array.toList_modify,ChangeMaps.modify_eq_set _ _ _ _ q2]
  obtain ⟨F',f1,f2⟩:=(hnoto (.map (ents.modify j fun e=>{ e with key:=key,val:=u }) clock)).set_av hr j (by simpa using hjl)
  refine fin (ents.modify j fun e=>{ e with key:=key,val:=u }) clock F' ?_ ?_ ?_ ?_ ?_ f2
  ·rw [h1]
   simp [Instr.mapUpdate,run_underlying ht,hgo,k1,q1,hj,q3,k2,MapKept.run_setObj_map _ h2,Result.andThen,ChangeMaps.setBlock]
  ·rw [hmod,hset,List.map_set,List.map_set,h4]
  ·rw [hmod,List.map_set]
   have:(ents.toList.map (·.born)).set j e0.born=ents.toList.map (·.born):=by
    apply List.ext_getElem?
    intro i
    rw [List.getElem?_set]
    split
    ·rename_i e;subst e
     split
     ·rw [List.getElem?_map,q2];rfl
     ·rename_i h;rw [List.getElem?_eq_none (by omega)]
    ·rfl
   rw [this];exact h6
  ·intro z hz
   rw [hmod] at hz
   rcases List.mem_or_eq_of_mem_set hz with hz | rfl
   ·exact h7 z hz
   ·exact h7 e0 (List.mem_of_getElem? q2)
  ·rw [hmod,hset,List.map_set,List.map_set]
   exact f1
theorem Qjv (t:TypeId) (m k v:Operand) (op:Op) (hop:op=.insert t m k v∨op=.mapUpdate t m k v):Qbl P C σ none op (QdC P σ t m k v):=by
 unfold QdC
 split
 ·rename_i kt e id g key x hm hmv hkv hv
  have key1:∀ kvs,σ (.r id)=.tree (.mp kvs)→(∀ i y,σ (.l id)≠.lent i y)→Qbl P C σ none op (some (gh σ id=g∧QA1 (Qao P kt) key (kvs.map (·.1)),[.h id,.g id,.r id,.l id]++(rdl m++(rdl k++rdl v)),QaR σ id (.mp (QcI kvs key (.av x))))):=by
   intro kvs hr hl
   intro c' L' W' he hc ops ty pos af E σ' a w Kt Q hd hr0 hg hK
   simp only [Option.some.injEq,Prod.mk.injEq] at he
   obtain ⟨rfl,rfl,rfl⟩:=he
   obtain ⟨h1,h2⟩:=Qaq (QcS hr0)
   obtain ⟨h2,h3⟩:=Qaq h2
   obtain ⟨h3,h4⟩:=Qaq h3
   have hgen:gh σ' id=g:=by rw [QaL (h1 (.h id) (by simp))];exact hc.1
   have hmap:=Qax hg m
   rw [Qae h2,hmv] at hmap
   have hmap:=hmap.2 hgen.symm
   have hval:=Qax hg v
   rw [Qae h4,hv] at hval
   have hkey:a.eval k=key:=QaS hkv h3 hg
   have hr':σ' (.r id)=.tree (.mp kvs):=by rw [h1 _ (by simp)];exact hr
   have hl':∀ i y,σ' (.l id)≠.lent i y:=fun i y=>by rw [h1 _ (by simp)];exact hl i y
   obtain ⟨w',E',q1,q2,q3⟩:=Qlj hg hr' hl' (Qev hm) (QmG hc.2) hval
   have e0:QaR σ id (.mp (QcI kvs key (.av x)))=QaR σ' id (.mp (QcI kvs key (.av x))):=by unfold QaR;rw [Qaz (h1 (.g id) (by simp))]
   rw [e0] at hK
   rw [if_pos (by simp [Region.wanted])]
   have hrun:(execOp a.eval ⟨none,op,ty,pos,af,none⟩).run P w=.ok .skip w':=by
    rcases hop with rfl | rfl <;> simp [execOp,hmap,hkey,q1]
   show Oper.upon _ _ _ _ _ _
   rw [hrun]
   exact hK _ _ E' (by simpa [Act.put] using q2)
  split
  ·intro _ _ _ h;cases h
  ·rename_i kvs hr hl
   exact key1 kvs hr (fun i y h=>hl i y h)
  ·intro _ _ _ h;cases h
 ·intro _ _ _ h;cases h
end
end Go.Proofs.YthfocmakkeonoaaGreatDoor
namespace Go.Proofs.YthfocmakkeonoaaGreatDoor
open Go.RowKit
theorem Qlk {α:Type}:∀ {l:List α} {i j:Nat} {x:α},l.Nodup→l[i]? = some x→l[j]? = some x→i=j
 | y::l,0,0,x,_,_,_=>rfl
 | y::l,0,j+1,x,h,h1,h2=>by simp at h1 h2;subst h1;exact absurd (List.mem_of_getElem? h2) (List.nodup_cons.1 h).1
 | y::l,i+1,0,x,h,h1,h2=>by simp at h1 h2;subst h2;exact absurd (List.mem_of_getElem? h1) (List.nodup_cons.1 h).1
 | y::l,i+1,j+1,x,h,h1,h2=>congrArg (· + 1) (Qlk (l:=l) (x:=x) (List.nodup_cons.1 h).2 (by simpa using h1) (by simpa using h2))
def Qdn (P:Program) (t:TypeId):Option Value:=(P.info? t).bind (·.zero)
def vOf:Value→V
 | .agg cs=>.agg (cs.toList.map .sc)
 | v=>.sc v
theorem QBs (m:Mem) (v:Value):Rd m (vOf v) v:=by
 cases v with
 | agg cs=>exact Rd.agg _ _ (by simp) fun i hi=>by simp;exact Rd.sc _
 | _=>exact Rd.sc _
def Qq4 (z:V):Option T→V
 | some (.av x)=>x
 | some _=>.any
 | none=>z
def Qvs (ok:Bool) (o:Option T) (z:V):V:=match ok with
 | true=>.tup [Qq4 z o,.sc (.bool o.isSome)]
 | false=>Qq4 z o
section
variable {P:Program} {ops:Array Oper} {C:Ctx} {E:Env} {σ:St} {a:Act} {w:World}
noncomputable def QfI (P:Program) (σ:St) (d:Tmp) (t:TypeId) (x k:Operand) (ok:Bool):Stp:=
 match Qi9 P t,ev σ x,Qhq σ k with
 | some (kt,e),.ref id g,some key=>match σ (.r id),Qdn P e with
  | .tree (.mp kvs),some z=>some (gh σ id=g∧QA1 (Qao P kt) key (kvs.map (·.1)),[.h id,.r id]++(rdl x++rdl k),[(.s d,.av (.val (Qvs ok (Qdc kvs key) (vOf z))))])
  | _,_=>none
 | _,_,_=>none
theorem Qpx (hg:Gm C E σ a w) {id:Id} {kvs:List (Value × T)} (hx:σ (.r id)=.tree (.mp kvs)) {t kt e:TypeId} (ht:P.underlying t=some (.map kt e)) {key z:Value} (hk:Qvr P kt key (kvs.map (·.1))) (hz:Qdn P e=some z) (ok:Bool) :
  ∃ v,(Instr.lookup t (E.bv id) key ok).run P w=.ok v w∧Rd E.m (Qvs ok (Qdc kvs key) (vOf z)) v:=by
 obtain ⟨hgg,_⟩:=hg.tr.hg id _ hx
 obtain ⟨b,ents,clock,F1,h1,h2,h3,h4,h5,h6,h7,h8,h9,h10⟩:=QeW hgg
 obtain ⟨k1,k2,k3⟩:=hk
 have hgo:=MapKept.run_getObj_map (P:=P) h2
 have hzr:(zeroValue e).run P w=.ok z w:=by
  unfold Qdn at hz
  obtain ⟨i,hi,hz⟩:=Option.bind_eq_some_iff.1 hz
  simp [zeroValue,typeInfo,hi,hz]
 have hfin:∀ (u:Value) (bb:Bool) (o:Option T),o.isSome=bb→Rd E.m (Qq4 (vOf z) o) u→Rd E.m (Qvs ok o (vOf z)) (if ok=true then .tuple #[u,.bool bb] else u):=by
  intro u bb o hb hr
  subst hb
  cases ok with
  | false=>exact hr
  | true=>
   refine Rd.tup _ _ rfl fun i hi=>?_
   match i,hi with
   | 0,_=>exact hr
   | 1,_=>exact Rd.sc _
 rcases k3 w ents.toList h4 with ⟨q1,q2⟩ | ⟨j,e0,q1,q2,q3⟩
 ·have h:=hfin z false none rfl (QBs _ _)
  rw [←Qeu q2] at h
  refine ⟨_,?_,h⟩
  rw [h1]
  simp [Instr.lookup,run_underlying ht,hgo,k1,q1,hzr]
 ·have hjk:∃ y,kvs[j]? = some (key,y):=by
   have hlen:=congrArg (fun l=>l[j]?) h4
   simp only [List.getElem?_map,q2,Option.map_some] at hlen
   cases hkj:kvs[j]? with
   | none=>rw [hkj] at hlen;simp at hlen
   | some p=>rw [hkj] at hlen;simp at hlen;exact ⟨p.2,by rw [←q3,hlen]⟩
  obtain ⟨y,hjk⟩:=hjk
  have hget:=(Qpt h5 hjk).1
  have hy:Rd E.m (Qq4 (vOf z) (some y)) e0.val:=by
   cases y with
   | av x=>
    obtain ⟨u,hu,hr⟩:=h8.get_av (j:=j) (x:=x) (by rw [List.getElem?_map,hjk];rfl)
    rw [List.getElem?_map,q2] at hu
    cases hu
    exact hr
   | _=>exact Rd.any _
  have h:=hfin e0.val true (some y) rfl hy
  rw [←hget] at h
  refine ⟨_,?_,h⟩
  rw [h1]
  simp [Instr.lookup,run_underlying ht,hgo,k1,q1]
theorem QrD (d:Tmp) (t:TypeId) (x k:Operand) (ok:Bool):Qbl P C σ (some d) (.lookup t x k ok) (QfI P σ d t x k ok):=by
 unfold QfI
 split
 ·rename_i kt e id g key hm hx hk
  split
  ·rename_i kvs z hr hz
   refine Qar fun hc ty pos af E σ' a w hr0 hg=>?_
   obtain ⟨h1,h2⟩:=Qaq hr0
   obtain ⟨h2,h3⟩:=Qaq h2
   have hmap:=Qax hg x
   rw [Qae h2,hx] at hmap
   have hmap:=hmap.2 (by rw [QaL (h1 (.h id) (by simp))];exact hc.1.symm)
   obtain ⟨v,h4,h5⟩:=Qpx hg (by rw [h1 (.r id) (by simp)];exact hr) (Qev hm) (QmG hc.2) hz ok
   exact ⟨v,by simp [execOp,hmap,QaS hk h3 hg,h4],h5⟩
  ·intro _ _ _ h;cases h
 ·intro _ _ _ h;cases h
def Qll (P:Program) (σ:St) (d:Tmp) (t:TypeId) (x:Operand):Stp:=
 match ev σ x with
 | .ref id g=>match σ (.r id) with
  | .tree (.mp kvs)=>some (gh σ id=g∧(Qao P t).map (·.sh)=some .map,[.h id,.r id]++rdl x,[(.s d,.av (.val (.sc (.int .i64 kvs.length))))])
  | .tree (.rw _ _ es)=>some (gh σ id=g∧(Qao P t).map (·.sh)=some .slice,[.h id,.r id]++rdl x,[(.s d,.av (.val (.sc (.int .i64 es.length))))])
  | .tree (.row _ _ es)=>some (gh σ id=g∧(Qao P t).map (·.sh)=some .slice,[.h id,.r id]++rdl x,[(.s d,.av (.val (.sc (.int .i64 es.length))))])
  | _=>none
 | _=>none
theorem QBt {t:TypeId} (h:(Qao P t).map (·.sh)=some .map):∃ k e,P.underlying t=some (.map k e):=by
 cases ht:Qao P t with
 | none=>rw [ht] at h;cases h
 | some T=>rw [ht] at h;simp at h;obtain ⟨i,d,_,h2,_,_,_,_,_,_,_,_,_,_,h3,_⟩:=Qak ht;obtain ⟨k,hk⟩:=h3 h;exact ⟨k,T.elem,by rw [h2,hk]⟩
theorem Qlm {base:Nat} {e:TypeId} {size n:Nat} {v:Value} {xs:List Value} (h:w.ownsRow base e size v n xs):∃ A c,v=.slice A n c∧(∀ A',A=some A'→A'=⟨A'.block,0,none⟩):=by
 rcases h.2 with ⟨rfl,rfl⟩ | ⟨g,cap,cur,rfl,_⟩
 ·exact ⟨none,0,rfl,fun _ h=>by cases h⟩
 ·exact ⟨_,_,rfl,fun _ h=>by cases h;rfl⟩
theorem QyD (d:Tmp) (t:TypeId) (x:Operand):Qbl P C σ (some d) (.call { callee:=.builtin .len,args:=#[x],argTypes:=#[t] }) (Qll P σ d t x):=by
 unfold Qll
 split
 ·rename_i id g hx
  have row:∀ (y:T) (n:Nat),σ (.r id)=.tree y→(∀ (m:Mem) (w:World) (v:Value) (F:List Nat),Hg m w [y] [v] F→∃ A c,v=.slice A n c)→Qbl P C σ (some d) (.call { callee:=.builtin .len,args:=#[x],argTypes:=#[t] }) (some (gh σ id=g∧(Qao P t).map (·.sh)=some .slice,[.h id,.r id]++rdl x,[(.s d,.av (.val (.sc (.int .i64 n))))])):=by
   intro y n hy hsh
   refine Qar fun hc ty pos af E σ' a w hr hg=>⟨_,?_,Rd.sc _⟩
   obtain ⟨h1,h2⟩:=Qaq hr
   have hv:=Qax hg x
   rw [Qae h2,hx] at hv
   have hv:=hv.2 (by rw [QaL (h1 (.h id) (by simp))];exact hc.1.symm)
   obtain ⟨A,c,h4⟩:=hsh _ _ _ _ (hg.tr.hg id y (by rw [h1 (.r id) (by simp)];exact hy)).1
   obtain ⟨e,he⟩:=QbM hc.2
   simp [execOp,resolve,invoke,builtin,hv,h4,Builtin.len_,run_underlying he,goInt]
  split
  ·rename_i kvs hy
   refine Qar fun hc ty pos af E σ' a w hr hg=>⟨_,?_,Rd.sc _⟩
   obtain ⟨h1,h2⟩:=Qaq hr
   have hv:=Qax hg x
   rw [Qae h2,hx] at hv
   have hv:=hv.2 (by rw [QaL (h1 (.h id) (by simp))];exact hc.1.symm)
   obtain ⟨b,ents,clock,F1,q1,q2,q3,q4,_⟩:=QeW (hg.tr.hg id _ (by rw [h1 (.r id) (by simp)];exact hy)).1
   obtain ⟨k,e,he⟩:=QBt hc.2
   have hl:ents.size=kvs.length:=by have:=congrArg List.length q4;simpa using this
   simp [execOp,resolve,invoke,builtin,hv,q1,Builtin.len_,run_underlying he,MapKept.run_getObj_map q2,goInt,hl]
  ·rename_i e0 sz es hy
   refine row _ es.length hy fun m w v F h=>?_
   cases h with
   | rw ho=>obtain ⟨A,c,h1,_⟩:=Qlm ho;exact ⟨A,c,h1⟩
  ·rename_i e0 sz es hy
   refine row _ es.length hy fun m w v F h=>?_
   cases h with
   | row ho=>obtain ⟨A,c,h1,_⟩:=Qlm ho;exact ⟨A,c,h1⟩
  ·intro _ _ _ h;cases h
 ·intro _ _ _ h;cases h
def Qn0 (σ:St) (d:Tmp) (F:FuncId) (xs:List Operand):Stp:=some (∀ x∈xs.map (ev σ),(match x with | .ag _=>False | .fn _ _=>False | _=>True),QcC xs,[(.s d,.av (.fn F (xs.map (ev σ))))])
theorem QyE (d:Tmp) (F:FuncId) (xs:List Operand):Qbl P C σ (some d) (.makeFunc (.func F) #[] xs.toArray) (Qn0 σ d F xs):=by
 refine Qar fun hc ty pos af E σ' a w hr hg=>⟨.func (.func F) #[] (xs.map a.eval).toArray,by simp [execOp,Instr.makeFunc],xs.map a.eval,rfl,by simp,fun i h1 h2=>?_⟩
 have hi:i<xs.length:=by simpa using h1
 rw [List.getElem_map,List.getElem_map]
 have h3:=Qax hg xs[i]
 have h4:∀ l∈rdl xs[i],σ' l=σ l:=fun l hl=>by
  have:∀ (ys:List Operand) (y:Operand),y∈ys→∀ l∈rdl y,l∈QcC ys:=by
   intro ys
   induction ys with
   | nil=>intro y h;cases h
   | cons z ys ih=>
    intro y h l hl
    rcases List.mem_cons.1 h with rfl | h
    ·exact List.mem_append_left _ hl
    ·exact List.mem_append_right _ (ih y h l hl)
  exact hr l (this xs xs[i] (List.getElem_mem hi) l hl)
 rw [Qae h4] at h3
 have h5:=hc (ev σ xs[i]) (List.mem_map.2 ⟨_,List.getElem_mem hi,rfl⟩)
 generalize ev σ xs[i]=x at h3 h5
 cases x <;> first | exact h5.elim | exact h3
theorem Gm.setItr (h:Gm C E σ a w) (o k:Id) (g:Nat) (s:List Nat) (hit:∃ mb since bs last,w.heap[E.loc o]? = some (.mapIter mb since bs last)∧(C.D (E.loc o)∨C.w0.heap.size≤E.loc o)∧g≤gg σ k∧(g=gg σ k→∀ x,σ (.r k)=.tree x→Qrh E w k s mb since bs last))
  (hii:∀ o' k' g' s',σ (.o o')=.itr k' g' s'→E.loc o'=E.loc o→o'=o):Gm C E (put σ (.o o) (.itr k g s)) a w:=by
 have hG:∀ o',put σ (.o o) (.itr k g s) (.g o')=σ (.g o'):=fun o'=>Qag _ _ (by simp)
 have hQ:∀ o',put σ (.o o) (.itr k g s) (.q o')=σ (.q o'):=fun o'=>Qag _ _ (by simp)
 have hK:∀ o',put σ (.o o) (.itr k g s) (.k o')=σ (.k o'):=fun o'=>Qag _ _ (by simp)
 have hH:∀ o',put σ (.o o) (.itr k g s) (.h o')=σ (.h o'):=fun o'=>Qag _ _ (by simp)
 have hR:∀ o',put σ (.o o) (.itr k g s) (.r o')=σ (.r o'):=fun o'=>Qag _ _ (by simp)
 have hL:∀ o',put σ (.o o) (.itr k g s) (.l o')=σ (.l o'):=fun o'=>Qag _ _ (by simp)
 have hS:∀ o',put σ (.o o) (.itr k g s) (.s o')=σ (.s o'):=fun o'=>Qag _ _ (by simp)
 have hC:∀ o' j,put σ (.o o) (.itr k g s) (.c o' j)=σ (.c o' j):=fun o' j=>Qag _ _ (by simp)
 have hO:∀ o' n,put σ (.o o) (.itr k g s) (.o o')=.num n→σ (.o o')=.num n:=fun o' n h1=>by
  by_cases e:o'=o
  ·subst e;rw [QaZ] at h1;cases h1
  ·rw [Qag _ _ (by simp [e])] at h1;exact h1
 have hI:∀ o' k' g' s',put σ (.o o) (.itr k g s) (.o o')=.itr k' g' s'→(o'=o∧k'=k∧g'=g∧s'=s)∨(o'≠o∧σ (.o o')=.itr k' g' s'):=fun o' k' g' s' h1=>by
  by_cases e:o'=o
  ·subst e;rw [QaZ] at h1;cases h1;exact .inl ⟨rfl,rfl,rfl,rfl⟩
  ·rw [Qag _ _ (by simp [e])] at h1;exact .inr ⟨e,h1⟩
 have hmo:Mo E σ E (put σ (.o o) (.itr k g s)):=Mo.same hG hQ hK hH
 have ht:=h.tr
 refine ⟨h.sz,h.df,h.ms,h.fr,fun t x h1=>(h.sl t x (by rw [←hS];exact h1)).mo hmo,fun o' i x n h1 h2 h3=>?_,fun o' n h1=>h.ob o' n (hO _ _ h1),fun k e s T h1=>h.ro k e s T (by rw [←hK];exact h1),fun o1 o2 n n' h1 h2=>h.oo o1 o2 n n' (hO _ _ h1) (hO _ _ h2),
  fun k k' e s T e' s' T' b h1 h2=>h.rr k k' e s T e' s' T' b (by rw [←hK];exact h1) (by rw [←hK];exact h2),fun o' n k e s T h1 h2=>h.or o' n k e s T (hO _ _ h1) (by rw [←hK];exact h2),h.pi,h.ml,h.mx,
  ⟨fun k x h1=>ht.hg k x (by rw [←hR];exact h1),fun k x b h1 h2=>ht.dd k x b (by rw [←hR];exact h1) h2,fun k xs h1=>ht.bx k xs (by rw [←hR];exact h1),fun k k' x x' b h1 h2 h3 h4=>ht.tt k k' x x' b (by rw [←hR];exact h1) (by rw [←hR];exact h2) h3 h4,
   fun o' n k x h1 h2 h3=>ht.ot o' n k x (hO _ _ h1) (by rw [←hR];exact h2) h3,fun k' e s T k x b h1 h2 h3 h4=>ht.tk k' e s T k x b (by rw [←hK];exact h1) (by rw [←hR];exact h2) h3 h4,fun k x i y h1 h2=>?_,fun o' k' g' s' h1=>?_,fun o1 o2 k1 g1 s1 k2 g2 s2 h1 h2 h3=>?_⟩⟩
 ·rw [hC] at h1
  obtain ⟨v,hv,hr⟩:=h.ce o' i x n h1 (hO _ _ h2) h3
  exact ⟨v,hv,hr.mo hmo⟩
 ·obtain ⟨v,h3,h4⟩:=ht.le k x i y (by rw [←hR];exact h1) (by rw [←hL];exact h2)
  exact ⟨v,h3,h4.mo hmo⟩
 ·rcases hI o' k' g' s' h1 with ⟨rfl,rfl,rfl,rfl⟩ | ⟨_,h2⟩
  ·obtain ⟨mb,n,bs,l,h3,h4,h5,h6⟩:=hit
   exact ⟨mb,n,bs,l,h3,h4,by rw [Qaz (hG _)];exact h5,fun he x hx=>h6 (by rw [←Qaz (hG _)];exact he) x (by rw [←hR];exact hx)⟩
  ·obtain ⟨mb,n,bs,l,h3,h4,h5,h6⟩:=ht.it o' k' g' s' h2
   exact ⟨mb,n,bs,l,h3,h4,by rw [Qaz (hG _)];exact h5,fun he x hx=>h6 (by rw [←Qaz (hG _)];exact he) x (by rw [←hR];exact hx)⟩
 ·rcases hI o1 k1 g1 s1 h1 with ⟨q1,_,_,_⟩ | ⟨e1,h4⟩
  ·rcases hI o2 k2 g2 s2 h2 with ⟨q2,_,_,_⟩ | ⟨e2,h5⟩
   ·rw [q1,q2]
   ·rw [q1] at h3 ⊢;exact (hii o2 k2 g2 s2 h5 h3.symm).symm
  ·rcases hI o2 k2 g2 s2 h2 with ⟨q2,_,_,_⟩ | ⟨e2,h5⟩
   ·rw [q2] at h3 ⊢;exact hii o1 k1 g1 s1 h4 h3
   ·exact ht.ii o1 o2 k1 g1 s1 k2 g2 s2 h4 h5 h3
theorem Gm.place (h:Gm C E σ a w) (o:Id) (b:Nat) (h0:o.2=0) (hp:C.pins o=none) :
  ∃ E',Gm C E' (Qaf σ [(.g o,.num (gg σ o+1)),(.o o,.non)]) a w∧E'.m=E.m∧E'.loc o=b∧(∀ o',o'≠o→E'.loc o'=E.loc o')∧E'.bv=E.bv∧E'.bf=E.bf:=by
 obtain ⟨σ',hσ⟩:∃ s,s=Qaf σ [(.g o,.num (gg σ o+1)),(.o o,.non)]:=⟨_,rfl⟩
 have qg:∀ o',σ' (.g o')=if o'=o then .num (gg σ o+1) else σ (.g o'):=by intro o';rw [hσ];by_cases e:o'=o <;> simp [Qaf,put,e]
 have qo:∀ o',σ' (.o o')=if o'=o then .non else σ (.o o'):=by intro o';rw [hσ];by_cases e:o'=o <;> simp [Qaf,put,e]
 have qk:∀ o',σ' (.k o')=σ (.k o'):=by intro o';rw [hσ];simp [Qaf,put]
 have qq:∀ o',σ' (.q o')=σ (.q o'):=by intro o';rw [hσ];simp [Qaf,put]
 have qh:∀ o',σ' (.h o')=σ (.h o'):=by intro o';rw [hσ];simp [Qaf,put]
 have qr:∀ o',σ' (.r o')=σ (.r o'):=by intro o';rw [hσ];simp [Qaf,put]
 have ql:∀ o',σ' (.l o')=σ (.l o'):=by intro o';rw [hσ];simp [Qaf,put]
 have qs:∀ o',σ' (.s o')=σ (.s o'):=by intro o';rw [hσ];simp [Qaf,put]
 have qc:∀ o' j,σ' (.c o' j)=σ (.c o' j):=by intro o' j;rw [hσ];simp [Qaf,put]
 rw [←hσ]
 clear hσ
 obtain ⟨E',hE'⟩:∃ E':Env,E' = { E with loc:=fun o'=>if o'=o then b else E.loc o' }:=⟨_,rfl⟩
 have hm:E'.m=E.m:=by rw [hE']
 have hloc:∀ o',o'≠o→E'.loc o'=E.loc o':=by intro o' e;rw [hE'];simp [e]
 have hloco:E'.loc o=b:=by rw [hE'];simp
 have hrv:E'.rv=E.rv:=by rw [hE']
 have hrx:E'.rx=E.rx:=by rw [hE']
 have hbv:E'.bv=E.bv:=by rw [hE']
 have hbf:E'.bf=E.bf:=by rw [hE']
 clear hE'
 have hO:∀ o' n,σ' (.o o')=.num n→o'≠o∧σ (.o o')=.num n:=fun o' n h1=>by
  rw [qo] at h1
  by_cases e:o'=o
  ·rw [if_pos e] at h1;cases h1
  ·rw [if_neg e] at h1;exact ⟨e,h1⟩
 have hmo:Mo E σ E' σ':=by
  refine ⟨by rw [hm];exact Mem.le_refl _,fun o'=>?_,fun k=>⟨Nat.le_of_eq (Qda (qq k)).symm,fun _ e sz T h2=>⟨T,by rw [←qk];exact h2,Nat.le_refl _,fun _=>by rw [hrv]⟩⟩,fun k=>⟨Nat.le_of_eq (QaL (qh k)).symm,fun _=>by rw [hbv]⟩⟩
  by_cases e:o'=o
  ·subst e
   have:gg σ' o'=gg σ o'+1:=QdO (by rw [qg,if_pos rfl])
   exact ⟨by omega,fun e=>absurd e (by omega)⟩
  ·have:gg σ' o'=gg σ o':=Qaz (by rw [qg,if_neg e])
   exact ⟨by omega,fun _=>hloc _ e⟩
 refine ⟨E',⟨h.sz,h.df,by rw [hm];exact h.ms,h.fr,fun t x h1=>(h.sl t x (by rw [←qs];exact h1)).mo hmo,fun o' i x n h1 h2 h3=>?_,fun o' n h1=>?_,fun k e s T h1=>?_,fun o1 o2 n n' h1 h2 h3=>?_,fun k k' e s T e' s' T' b h1 h2 h3 h4=>?_,fun o' n k e s T h1 h2=>?_,fun o' b' h1=>?_,by rw [hm];exact h.ml,by rw [hm];exact h.mx,
  h.tr.step hmo hbv hbf (fun k x hx=>by rw [←qr];exact hx) (fun k i y hy=>by rw [←ql];exact hy) (fun k xs _ hk=>hloc k (fun e=>hk (by rw [e];exact h0))) (fun k x b _ _ hb h5=>⟨rfl,by rw [hm];exact h5⟩)
   (fun o' n k x h1 _ _ _=>⟨n,(hO o' n h1).2,hloc _ (hO o' n h1).1⟩) (fun k' e s T b k x h1 _ _ h4 _=>⟨e,s,T,by rw [←qk];exact h1,by rw [←hrv];exact h4⟩)
   (fun o' k g s h1=>by
    rw [qo] at h1
    by_cases e:o'=o
    ·rw [if_pos e] at h1;cases h1
    ·rw [if_neg e] at h1;exact ⟨h1,hloc _ e⟩) (fun _ _ _ _ _ _=>rfl)⟩,hm,hloco,hloc,hbv,hbf⟩
 ·obtain ⟨e,h2⟩:=hO o' n h2
  rw [qc] at h1
  obtain ⟨v,hv,hr⟩:=h.ce o' i x n h1 h2 h3
  exact ⟨v,by rw [hloc _ e];exact hv,hr.mo hmo⟩
 ·obtain ⟨e,h1⟩:=hO o' n h1
  rw [hloc _ e,hm];exact h.ob o' n h1
 ·rw [qk] at h1;rw [hrv,hrx,hm];exact h.ro k e s T h1
 ·obtain ⟨e1,h1⟩:=hO o1 n h1
  obtain ⟨e2,h2⟩:=hO o2 n' h2
  rw [hloc _ e1,hloc _ e2] at h3;exact h.oo o1 o2 n n' h1 h2 h3
 ·rw [qk] at h1 h2;rw [hrv] at h3 h4;exact h.rr k k' e s T e' s' T' b h1 h2 h3 h4
 ·obtain ⟨e1,h1⟩:=hO o' n h1
  rw [qk] at h2;rw [hrv,hloc _ e1];exact h.or o' n k e s T h1 h2
 ·by_cases e:o'=o
  ·subst e;rw [hp] at h1;cases h1
  ·rw [hloc _ e];exact h.pi o' b' h1
theorem Gm.itWorld (h:Gm C E σ a w) (o k:Id) (g:Nat) (s:List Nat) (ho:σ (.o o)=.itr k g s) (w':World) (hc:Chg (fun b=>b=E.loc o) w w'):Gm C E (put σ (.o o) .non) a w':=by
 obtain ⟨mb,since,bs,last,hblk,hD,_,_⟩:=h.tr.it o k g s ho
 have hG:∀ o',put σ (.o o) .non (.g o')=σ (.g o'):=fun o'=>Qag _ _ (by simp)
 have hQ:∀ o',put σ (.o o) .non (.q o')=σ (.q o'):=fun o'=>Qag _ _ (by simp)
 have hK:∀ o',put σ (.o o) .non (.k o')=σ (.k o'):=fun o'=>Qag _ _ (by simp)
 have hH:∀ o',put σ (.o o) .non (.h o')=σ (.h o'):=fun o'=>Qag _ _ (by simp)
 have hR:∀ o',put σ (.o o) .non (.r o')=σ (.r o'):=fun o'=>Qag _ _ (by simp)
 have hL:∀ o',put σ (.o o) .non (.l o')=σ (.l o'):=fun o'=>Qag _ _ (by simp)
 have hS:∀ o',put σ (.o o) .non (.s o')=σ (.s o'):=fun o'=>Qag _ _ (by simp)
 have hC:∀ o' j,put σ (.o o) .non (.c o' j)=σ (.c o' j):=fun o' j=>Qag _ _ (by simp)
 have hO:∀ o' y,put σ (.o o) .non (.o o')=y→y≠.non→o'≠o∧σ (.o o')=y:=fun o' y h1 hy=>by
  by_cases e:o'=o
  ·subst e;rw [QaZ] at h1;exact absurd h1.symm hy
  ·rw [Qag _ _ (by simp [e])] at h1;exact ⟨e,h1⟩
 have hmo:Mo E σ E (put σ (.o o) .non):=Mo.same hG hQ hK hH
 have hkeep:∀ i,i≠E.loc o→i<w.heap.size→w'.heap[i]? = w.heap[i]?:=fun i h1 h2=>hc.block i h2 h1
 have hobj:∀ o' n,σ (.o o')=.num n→w'.heap[E.loc o']? = w.heap[E.loc o']?:=fun o' n h1=>by
  obtain ⟨⟨c1,t1,h2,_⟩,_⟩:=h.ob o' n h1
  exact hkeep _ (fun e=>by rw [e,hblk] at h2;cases h2) (Array.getElem?_eq_some_iff.1 h2).1
 refine ⟨h.sz,h.df,fun b i v hv=>?_,h.fr.step hc (fun i hi he=>by subst he;rcases hD with h1 | h1;exact h1;omega),fun t x h1=>(h.sl t x (by rw [←hS];exact h1)).mo hmo,fun o' i x n h1 h2 h3=>?_,fun o' n h1=>?_,fun k e s T h1=>?_,fun o1 o2 n n' h1 h2=>h.oo o1 o2 n n' (hO _ _ h1 (by simp)).2 (hO _ _ h2 (by simp)).2,
  fun k k' e s T e' s' T' b h1 h2=>h.rr k k' e s T e' s' T' b (by rw [←hK];exact h1) (by rw [←hK];exact h2),fun o' n k e s T h1 h2=>h.or o' n k e s T (hO _ _ h1 (by simp)).2 (by rw [←hK];exact h2),h.pi,h.ml,h.mx,
  h.tr.step' hmo rfl rfl (fun k x hx=>by rw [←hR];exact hx) (fun k i y hy=>by rw [←hL];exact hy) (fun _ _ _ _=>rfl) (fun k x b h1 h2 h3 h4=>⟨hkeep b (fun e=>by subst e;exact (h.tr.hg k x h1).1.noIt _ h2 _ _ _ _ hblk) h3,h4⟩)
   (fun o' n k x h1 _ _ _=>⟨n,(hO _ _ h1 (by simp)).2,rfl⟩) (fun k' e s T b k x h1 _ _ h4 _=>⟨e,s,T,by rw [←hK];exact h1,h4⟩) (fun o' k g s h1=>⟨(hO _ _ h1 (by simp)).2,rfl⟩)
   (fun o' k' g' s' mb n bs l h1 h2=>by
    obtain ⟨e,h1⟩:=hO _ _ h1 (by simp)
    exact hkeep _ (fun he=>e (h.tr.ii o' o k' g' s' k g s h1 ho he)) (Array.getElem?_eq_some_iff.1 h2).1)⟩
 ·have h1:=h.ms b i v hv
  rw [World.cell?_of_block (w:=w) (a:=⟨b,i,none⟩) (hkeep b (fun e=>by subst e;simp [World.cell?,hblk] at h1) (World.block_lt_of_cell? w _ h1))];exact h1
 ·rw [hC] at h1
  obtain ⟨_,h2⟩:=hO _ _ h2 (by simp)
  obtain ⟨v,hv,hr⟩:=h.ce o' i x n h1 h2 h3
  exact ⟨v,by rw [World.cell?_of_block (w:=w) (a:=⟨E.loc o',i,none⟩) (hobj o' n h2)];exact hv,hr.mo hmo⟩
 ·obtain ⟨_,h1⟩:=hO _ _ h1 (by simp)
  rw [hobj o' n h1];exact h.ob o' n h1
 ·rw [hK] at h1
  obtain ⟨h2,h3⟩:=h.ro k e s T h1
  refine ⟨QcG h2 fun b hb=>?_,h3⟩
  obtain ⟨cur,h4⟩:=Qd1 h2 hb
  exact hkeep b (fun e=>by rw [e,hblk] at h4;cases h4) (Array.getElem?_eq_some_iff.1 h4).1
def Qh3 (P:Program) (σ:St) (d:Tmp) (t:TypeId) (x:Operand):Stp:=
 match Qi9 P t,ev σ x with
 | some _,.ref id g=>match σ (.r id) with
  | .tree (.mp kvs)=>some (gh σ id=g∧id≠(d,0),[.g (d,0),.h id,.g id,.r id]++rdl x,[(.g (d,0),.num (gg σ (d,0)+1)),(.o (d,0),.non),(.o (d,0),.itr id (gg σ id) [])]++[(.s d,.av (.ptr (d,0) (gg σ (d,0)+1) 0))])
  | _=>none
 | _,_=>none
theorem Qvt (d:Tmp) (t:TypeId) (x:Operand):Qbl P C σ (some d) (.range t x) (Qh3 P σ d t x):=by
 unfold Qh3
 split
 ·rename_i ke id g hm hx
  split
  ·rename_i kvs hy
   refine QaV (W0:=[(.g (d,0),.num (gg σ (d,0)+1)),(.o (d,0),.non),(.o (d,0),.itr id (gg σ id) [])]) fun hc ty pos af E σ' a w hr hg hd=>?_
   obtain ⟨h1,h2⟩:=Qaq hr
   have e1:gg σ' (d,0)=gg σ (d,0):=Qaz (h1 _ (by simp))
   have e2:gg σ' id=gg σ id:=Qaz (h1 _ (by simp))
   rw [←e1,←e2]
   have hy':σ' (.r id)=.tree (.mp kvs):=by rw [h1 _ (by simp)];exact hy
   have hv:=Qax hg x
   rw [Qae h2,hx] at hv
   have hv:=hv.2 (by rw [QaL (h1 (.h id) (by simp))];exact hc.1.symm)
   obtain ⟨b,ents,clock,F1,q1,q2,q3,q4,q5,q6,q7,q8,_⟩:=QeW (hg.tr.hg id _ hy').1
   have hrun:=run_range_map (P:=P) w t ke.1 ke.2 b ents clock (Qev (k:=ke.1) (e:=ke.2) hm) q2
   have hA:=hg.alloc (.mapIter (some b) clock #[] clock)
   obtain ⟨E',p1,p2,p3,p4,p5,p6⟩:=hA.place (d,0) w.heap.size rfl (C.np d hd)
   have hat:(w.alloc (.mapIter (some b) clock #[] clock)).heap[w.heap.size]? = some (.mapIter (some b) clock #[] clock):=(MapKept.heap_alloc w _).1
   have gk:gg (Qaf σ' [(.g (d,0),.num (gg σ' (d,0)+1)),(.o (d,0),.non)]) id=gg σ' id:=Qaz (by simp [Qaf,put,hc.2])
   have hrk:Qaf σ' [(.g (d,0),.num (gg σ' (d,0)+1)),(.o (d,0),.non)] (.r id)=.tree (.mp kvs):=by simp [Qaf,put,hy']
   have p7:=p1.setItr (d,0) id (gg σ' id) [] ⟨some b,clock,#[],clock,by rw [p3];exact hat,.inr (by rw [p3];exact hg.fr.size),by rw [gk];exact Nat.le_refl _,fun _ y _=>.inr ⟨b,ents,clock,rfl,by rw [p5];exact q1,by rw [(MapKept.heap_alloc w _).2 b (Array.getElem?_eq_some_iff.1 q2).1];exact q2,rfl,rfl,rfl,fun i hi=>by cases hi⟩⟩
    (fun o' k' g' s' h3 h4=>by
     by_cases e:o'=(d,0)
     ·exact e
     ·have h5:σ' (.o o')=.itr k' g' s':=by simpa [Qaf,put,e] using h3
      obtain ⟨mb,n,bs,l,h6,_⟩:=hg.tr.it o' k' g' s' h5
      have:=(Array.getElem?_eq_some_iff.1 h6).1
      rw [p4 o' e,p3] at h4
      omega)
   have e0:Qaf σ' [(.g (d,0),.num (gg σ' (d,0)+1)),(.o (d,0),.non),(.o (d,0),.itr id (gg σ' id) [])]=put (Qaf σ' [(.g (d,0),.num (gg σ' (d,0)+1)),(.o (d,0),.non)]) (.o (d,0)) (.itr id (gg σ' id) []):=rfl
   rw [←e0] at p7
   refine ⟨.pointer (some ⟨w.heap.size,0,none⟩),_,E',?_,p7,?_⟩
   ·simp only [execOp,hv,q1,Sem.run_bind,hrun,Result.andThen_ok,Sem.run_pure]
   ·have:gg (Qaf σ' [(.g (d,0),.num (gg σ' (d,0)+1)),(.o (d,0),.non),(.o (d,0),.itr id (gg σ' id) [])]) (d,0)=gg σ' (d,0)+1:=QdO (by simp [Qaf,put])
    exact ⟨by omega,fun _=>by rw [p3]⟩
  ·intro _ _ _ h;cases h
 ·intro _ _ _ h;cases h
def QBu (o k:Id) (g:Nat) (s:List Nat) (kvs:List (Value × T)) (d:Tmp) (W:List (Pl × X)):Prop:=
 (∃ (i:Nat) (p:Value × T),kvs[i]? = some p∧i∉s∧W=[(.o o,.non),(.o o,.itr k g (s++[i])),(.s d,.av (.val (.tup [.sc (.bool true),.sc p.1,Qq4 .any (some p.2)])))]) ∨
 ((∀ i,i<kvs.length→i∈s)∧W=[(.s d,.av (.val (.tup [.sc (.bool false)])))])
theorem QrE (m:Mem) (xs:List V) (ys:List Value) (h:RdL m xs ys):Rd m (.tup xs) (.tuple ys.toArray):=
 Rd.tup _ _ (by simpa using h.1) fun i hi=>by simpa using h.2 i hi (by rw [h.1];exact hi)
theorem Qvu {d:Tmp} {x:Operand} {ty:TypeId} {pos:String} {af:Array Edge} {o k:Id} {go g:Nat} {s:List Nat} {kvs:List (Value × T)} (hx:ev σ x=.ptr o go 0) (hgo:gg σ o=go) (ho:σ (.o o)=.itr k g s) (hgk:gg σ k=g) (hr:σ (.r k)=.tree (.mp kvs)) :
  ∀ (E:Env) (σ':St) (a:Act) (w:World) (K:Act→World→Prop) (Q:Exit→Act→World→Prop),d<C.nt→(∀ l∈rdl x++[.g o,.o o,.g k,.r k],σ' l=σ l)→Gm C E σ' a w→(∀ W a' w' E',QBu o k g s kvs d W→Gm C E' (Qaf σ' W) a' w'→K a' w') →
   Oper.wp P ⟨some d,.next x false,ty,pos,af,none⟩ a w K Q:=by
 intro E σ' a w K Q hd hr0 hg hK
 obtain ⟨h1,h2⟩:=Qaq hr0
 have hv:=Qax hg x
 rw [Qae h1,hx] at hv
 have hv:=hv.2 (by rw [Qaz (h2 (.g o) (by simp))];exact hgo.symm)
 have ho':σ' (.o o)=.itr k g s:=by rw [h2 _ (by simp)];exact ho
 have hr':σ' (.r k)=.tree (.mp kvs):=by rw [h2 _ (by simp)];exact hr
 have hgk':gg σ' k=g:=by rw [Qaz (h2 (.g k) (by simp))];exact hgk
 obtain ⟨mb,since,bs,last,i1,i2,i3,i4⟩:=hg.tr.it o k g s ho'
 obtain ⟨b,ents,clock,F1,q1,q2,q3,q4,q5,q6,q7,q8,_⟩:=QeW (hg.tr.hg k _ hr').1
 rcases i4 hgk'.symm _ hr' with ⟨_,j2⟩ | ⟨b',ents',clock',rfl,j2,j3,rfl,rfl,j6,j7⟩
 ·rw [q1] at j2;cases j2
 rw [q1] at j2
 cases j2
 rw [q2] at j3
 cases j3
 have hlen:ents.size=kvs.length:=by have:=congrArg List.length q4;simpa using this
 have hcont:∀ i (hi:i<ents.size),bs.contains (ents[i]).born=true↔i∈s:=fun i hi=>by
  rw [Array.contains_iff_mem,←Array.mem_toList_iff,j6,List.mem_map]
  constructor
  ·rintro ⟨j,hj,he⟩
   have hjl:=j7 j hj
   rw [Array.getElem?_eq_getElem hjl] at he
   simp only [Option.map_some,Option.getD_some] at he
   have e1:(ents.toList.map (·.born))[j]? = some (ents[i]).born:=by simp [hjl,he]
   have e2:(ents.toList.map (·.born))[i]? = some (ents[i]).born:=by simp [hi]
   have:j=i:=Qlk q6 e1 e2
   rw [←this];exact hj
  ·intro hj
   exact ⟨i,hj,by rw [Array.getElem?_eq_getElem hi];rfl⟩
 show Oper.upon _ _ _ _ _ _
 rcases run_next_at (P:=P) w ty (E.loc o) b last last bs ents last i1 q2 q7 (Nat.le_refl _) with ⟨h0,hrun⟩ | ⟨e,he,w1,hal,hrun⟩
 ·have hall:∀ i,i<kvs.length→i∈s:=fun i hi=>by
   rw [←hlen] at hi
   rw [←hcont i hi]
   cases hc:bs.contains (ents[i]).born with
   | true=>rfl
   | false=>
    have:ents[i]∈leftOf ents bs:=by
     unfold leftOf
     rw [Array.mem_filter]
     exact ⟨Array.getElem_mem hi,by rw [hc];rfl⟩
    have hz:leftOf ents bs = #[]:=Array.eq_empty_of_size_eq_zero h0
    rw [hz] at this
    simp at this
  have:(execOp a.eval ⟨some d,.next x false,ty,pos,af,none⟩).run P w=.ok (.value (.tuple #[.bool false])) w:=by simp [execOp,hv,hrun]
  rw [this]
  refine hK _ _ _ E (.inr ⟨hall,rfl⟩) ?_
  exact hg.slot d _ _ hd (QrE _ [.sc (.bool false)] [.bool false] ⟨rfl,fun i hi _=>by simp at hi;subst hi;exact Rd.sc _⟩)
 ·obtain ⟨hem,hes⟩:e∈ents∧bs.contains e.born=false:=by
   unfold leftOf at he
   have he:e∈ents.filter fun e=>!bs.contains e.born:=by rwa [Array.mem_toList_iff] at he
   rw [Array.mem_filter] at he
   exact ⟨he.1,by simpa using he.2⟩
  obtain ⟨i,hi,rfl⟩:=Array.getElem_of_mem hem
  have hi':i<kvs.length:=by omega
  have hnot:i∉s:=fun h=>by rw [(hcont i hi).2 h] at hes;cases hes
  have hkey:(ents[i]).key=(kvs[i]).1:=by
   have:=congrArg (fun l=>l[i]?) q4
   simpa [hi,hi'] using this
  have:(execOp a.eval ⟨some d,.next x false,ty,pos,af,none⟩).run P w=.ok (.value (.tuple #[.bool true,(ents[i]).key,(ents[i]).val])) (ChangeMaps.setBlock w1 (E.loc o) (.mapIter (some b) last (bs.push (ents[i]).born) last)):=by simp [execOp,hv,hrun]
  rw [this]
  obtain ⟨w2,hw2⟩:∃ w2,w2=ChangeMaps.setBlock w1 (E.loc o) (.mapIter (some b) last (bs.push (ents[i]).born) last):=⟨_,rfl⟩
  rw [←hw2]
  have hw1:w1.heap=w.heap:=by rcases hal with rfl | rfl <;> rfl
  have i1':w1.heap[E.loc o]? = some (.mapIter (some b) last bs last):=by rw [hw1];exact i1
  have hother:∀ j,j≠E.loc o→w2.heap[j]? = w.heap[j]?:=fun j hj=>by rw [hw2,←hw1];exact Qh2 hj
  have hc:Chg (fun b=>b=E.loc o) w w2:=by
   refine ⟨?_,?_,?_,?_,fun j _ hj=>hother j hj⟩
   ·rw [hw2];rcases hal with rfl | rfl <;> rfl
   ·rw [hw2];rcases hal with rfl | rfl <;> rfl
   ·rw [hw2];rcases hal with rfl | rfl <;> rfl
   ·rw [hw2];simp [ChangeMaps.setBlock,hw1]
  have g1:=hg.itWorld o k g s ho' w2 hc
  have hne:b≠E.loc o:=fun e=>by rw [←e,q2] at i1;cases i1
  have g2:=g1.setItr o k g (s++[i]) ⟨some b,last,bs.push (ents[i]).born,last,by rw [hw2];exact Qh1 i1',i2,by rw [Qaz (Qag _ _ (by simp))];exact i3,fun _ y _=>.inr ⟨b,ents,last,rfl,q1,by rw [hother b hne];exact q2,rfl,rfl,by simp [j6,hi],fun j hj=>by
    rcases List.mem_append.1 hj with hj | hj
    ·exact j7 j hj
    ·simp at hj;subst hj;exact hi⟩⟩
   (fun o' k' g' s' h3 h4=>by
    by_cases e:o'=o
    ·exact e
    ·rw [Qag _ _ (by simp [e])] at h3
     exact hg.tr.ii o' o k' g' s' k g s h3 ho' h4)
  have hval:Rd E.m (Qq4 .any (some (kvs[i]).2)) (ents[i]).val:=by
   cases hy:(kvs[i]).2 with
   | av x=>
    obtain ⟨u,hu,hr⟩:=q8.get_av (j:=i) (x:=x) (by rw [List.getElem?_map,List.getElem?_eq_getElem hi'];simp [hy])
    rw [List.getElem?_map,Array.getElem?_toList,Array.getElem?_eq_getElem hi] at hu
    cases hu
    exact hr
   | _=>exact Rd.any _
  refine hK _ _ _ E (.inl ⟨i,kvs[i],by simp [hi'],hnot,rfl⟩) ?_
  exact g2.slot d _ _ hd (QrE _ [.sc (.bool true),.sc (kvs[i]).1,Qq4 .any (some (kvs[i]).2)] [.bool true,(ents[i]).key,(ents[i]).val] ⟨rfl,fun j hj _=>by
   match j,hj with
   | 0,_=>exact Rd.sc _
   | 1,_=>simp only [List.getElem_cons_succ,List.getElem_cons_zero];rw [hkey];exact Rd.sc _
   | 2,_=>exact hval⟩)
def Qh4 (σ:St) (d:Tmp) (x:Operand):Stp:=
 match ev σ x with
 | .ptr o go 0=>match σ (.o o) with
  | .itr k g s=>match σ (.r k),s.getLast? with
   | .tree (.mp kvs),some i=>some (gg σ o=go∧gg σ k=g,rdl x++[.g o,.o o,.g k,.r k],[(.s d,.av (.val (.tup [.sc ((kvs.map (·.1)).getD i undef),Qq4 .any (kvs.map (·.2))[i]?])))])
   | _,_=>none
  | _=>none
 | _=>none
theorem Qvv (d:Tmp) (x:Operand):Qbl P C σ (some d) (.entry x) (Qh4 σ d x):=by
 unfold Qh4
 split
 ·rename_i o go hx
  split
  ·rename_i k g s ho
   split
   ·rename_i kvs i hr hs
    refine Qar fun hc ty pos af E σ' a w hr0 hg=>?_
    obtain ⟨h1,h2⟩:=Qaq hr0
    have hv:=Qax hg x
    rw [Qae h1,hx] at hv
    have hv:=hv.2 (by rw [Qaz (h2 (.g o) (by simp))];exact hc.1.symm)
    have ho':σ' (.o o)=.itr k g s:=by rw [h2 _ (by simp)];exact ho
    have hr':σ' (.r k)=.tree (.mp kvs):=by rw [h2 _ (by simp)];exact hr
    have hgk':gg σ' k=g:=by rw [Qaz (h2 (.g k) (by simp))];exact hc.2
    obtain ⟨mb,since,bs,last,i1,i2,i3,i4⟩:=hg.tr.it o k g s ho'
    obtain ⟨b,ents,clock,F1,q1,q2,q3,q4,q5,q6,q7,q8,_⟩:=QeW (hg.tr.hg k _ hr').1
    rcases i4 hgk'.symm _ hr' with ⟨_,j2⟩ | ⟨b',ents',clock',rfl,j2,j3,rfl,rfl,j6,j7⟩
    ·rw [q1] at j2;cases j2
    rw [q1] at j2
    cases j2
    rw [q2] at j3
    cases j3
    have hi:i<ents.size:=j7 i (List.mem_of_getLast? hs)
    have hlen:ents.size=kvs.length:=by have:=congrArg List.length q4;simpa using this
    have hi':i<kvs.length:=by omega
    obtain ⟨s0,rfl⟩:∃ s0,s=s0++[i]:=by
     have hne:s≠[]:=fun e=>by rw [e] at hs;cases hs
     rw [List.getLast?_eq_some_getLast hne] at hs
     exact ⟨s.dropLast,by rw [←Option.some.inj hs];exact (List.dropLast_concat_getLast hne).symm⟩
    have hbs:bs=(s0.map (fun i=>((ents[i]?).map (·.born)).getD 0)).toArray.push (ents[i]).born:=by
     apply Array.toList_inj.1
     rw [j6]
     simp [hi]
    have hrun:=run_entry_at (P:=P) w (E.loc o) b last _ ents last ents[i] (by rw [←hbs];exact i1) q2 (by simp) q6
    have hkey:(ents[i]).key=(kvs.map (·.1)).getD i undef:=by
     have:=congrArg (fun l=>l[i]?) q4
     simp [hi,hi'] at this
     simp [List.getD_eq_getElem?_getD,hi',this]
    have hval:Rd E.m (Qq4 .any (kvs.map (·.2))[i]?) (ents[i]).val:=by
     rw [List.getElem?_map,List.getElem?_eq_getElem hi']
     simp only [Option.map_some]
     cases hy:(kvs[i]).2 with
     | av x=>
      obtain ⟨u,hu,hr⟩:=q8.get_av (j:=i) (x:=x) (by rw [List.getElem?_map,List.getElem?_eq_getElem hi'];simp [hy])
      rw [List.getElem?_map,Array.getElem?_toList,Array.getElem?_eq_getElem hi] at hu
      cases hu
      exact hr
     | _=>exact Rd.any _
    refine ⟨.tuple #[(ents[i]).key,(ents[i]).val],by simp [execOp,hv,hrun],QrE _ _ [(ents[i]).key,(ents[i]).val] ⟨rfl,fun j hj _=>?_⟩⟩
    match j,hj with
    | 0,_=>simp only [List.getElem_cons_zero];rw [hkey];exact Rd.sc _
    | 1,_=>exact hval
   ·intro _ _ _ h;cases h
  ·intro _ _ _ h;cases h
 ·intro _ _ _ h;cases h
end
end Go.Proofs.YthfocmakkeonoaaGreatDoor
