/- Package split: a frame's bytes, walked in the world (a strings.Builder). -/
import Derived.Test.YthfocmakkeonoaaGreatDoorSplBz
import Derived.Test.YthfocmakkeonoaaGreatDoorSplBz
import Derived.Test.YthfocmakkeonoaaGreatDoorRVz
import Derived.Test.YthfocmakkeonoaaGreatDoorSl0z
set_option linter.unusedVariables false
set_option linter.unusedSimpArgs false
set_option maxRecDepth 100000
set_option maxHeartbeats 16000000
namespace Go.Proofs.YthfocmakkeonoaaGreatDoor
open Go.RowKit
section
variable {m:Mem} {w w':World} {bs:List Nat}
theorem CAok.keep {c:CA} {v:Value} {F:List Nat} (h:CAok m w bs c v F) (hw:∀ b∈F,w'.heap[b]? = w.heap[b]?):CAok m w' bs c v F:=by
 cases c with
 | val x=>exact h
 | own e sz es=>
  obtain ⟨⟨h1,xs,h2,h3⟩,rfl⟩:=h
  exact ⟨⟨h1,xs,QcG h2 fun b hb=>hw b (by simpa using hb),h3⟩,rfl⟩
 | hd x=>exact ⟨h.1.mono (Mem.le_refl m) fun b hb=>⟨hw b hb,fun _=>rfl⟩,h.2⟩
 | hdl x i ob=>
  obtain ⟨⟨h1,h2⟩,b,h3,h4⟩:=h
  exact ⟨⟨h1.mono (Mem.le_refl m) fun b hb=>⟨hw b hb,fun _=>rfl⟩,h2⟩,b,h3,by rw [QhJ (fun b hb=>hw b (h1.head h2 b hb))];exact h4⟩
theorem ArgsOk.keep {args:List Arg} {vs:List Value} {F:List Nat} (h:ArgsOk m w bs args vs F) (hw:∀ b∈F,w'.heap[b]? = w.heap[b]?):ArgsOk m w' bs args vs F:=by
 induction h with
 | nil=>exact .nil
 | @cons a v F ax vs F' h hs hd ih=>
  refine .cons ?_ (ih fun b hb=>hw b (List.mem_append_right _ hb)) hd
  cases a with
  | ca c=>exact CAok.keep h fun b hb=>hw b (List.mem_append_left _ hb)
  | ptr=>exact h
  | fn=>exact h
theorem ObjsOk.keep {bs':List Nat} {objs:List (List CA)} {F:List Nat} (h:ObjsOk m w bs bs' objs F) (hw:∀ b∈F,w'.heap[b]? = w.heap[b]?):ObjsOk m w' bs bs' objs F:=by
 induction h with
 | nil=>exact .nil
 | cons hb hm h hn hs hd ih=>exact .cons (by rw [hw _ (by simp)];exact hb) hm (h.keep fun b hb=>hw b (by simp [hb])) hn (ih fun b hb=>hw b (by simp [hb])) hd
theorem CAok.lt {c:CA} {v:Value} {F:List Nat} (h:CAok m w bs c v F):∀ b∈F,b<w.heap.size:=fun b hb=>by
 cases c with
 | val x=>rw [h.2] at hb;cases hb
 | own e sz es=>
  obtain ⟨⟨h1,xs,h2,h3⟩,rfl⟩:=h
  exact (h2.lt b (by simpa using hb)).2
 | hd x=>exact (h.1.mem b hb).1
 | hdl x i ob=>exact (h.1.1.mem b hb).1
theorem ArgsOk.lt {args:List Arg} {vs:List Value} {F:List Nat} (h:ArgsOk m w bs args vs F):∀ b∈F,b<w.heap.size:=by
 induction h with
 | nil=>intro b h;cases h
 | @cons a v F ax vs F' h hs hd ih=>
  intro b hb
  rcases List.mem_append.1 hb with hb | hb
  ·cases a with
   | ca c=>exact CAok.lt h b hb
   | ptr=>rw [h.2] at hb;cases hb
   | fn=>rw [h.2] at hb;cases hb
  ·exact ih b hb
theorem ObjsOk.lt {bs':List Nat} {objs:List (List CA)} {F:List Nat} (h:ObjsOk m w bs bs' objs F):∀ b∈F,b<w.heap.size:=by
 induction h with
 | nil=>intro b h;cases h
 | cons hb hm h hn hs hd ih=>
  intro b hb'
  rcases List.mem_append.1 hb' with hb' | hb'
  ·rcases List.mem_cons.1 hb' with rfl | hb'
   ·exact (Array.getElem?_eq_some_iff.1 hb).1
   ·exact h.lt b hb'
  ·exact ih b hb'
theorem Holds.below {vals:List Value} {args:List Arg} {objs:List (List CA)} {F G:List Nat} {v:Value} {x:V} (h:Holds m w vals args objs bs F G) (hb:Below w.heap.size w w') (hv:Rd m x v):Holds m w' [v] [.ca (.val x)] objs bs [] G∧Chg (fun b=>b∈F++G) w w':=by
 have hc:Chg Nothing w w':=(Chg.ofBelow hb).mono fun i hi h=>by omega
 refine ⟨⟨fun b i u h1=>(hc.cell (World.block_lt_of_cell? w _ (h.ms b i u h1)) id).trans (h.ms b i u h1),.cons (a:=.ca (.val x)) (F:=[]) ⟨hv,rfl⟩ .nil (by simp),h.ob.keep fun b hb=>hc.block b (h.ob.lt b hb) id,by simp⟩,hc.mono fun _ _ h=>h.elim⟩
theorem ArgsOk.uncons {a:Arg} {ax:List Arg} {vs:List Value} {F:List Nat} (h:ArgsOk m w bs (a::ax) vs F):∃ v vs' F1 F2,vs=v::vs'∧Qrw m w bs a v F1∧ArgsOk m w bs ax vs' F2∧F=F1++F2∧∀ b∈F1,b∉F2:=by
 cases h with
 | cons h hs hd=>exact ⟨_,_,_,_,rfl,h,hs,rfl,hd⟩
theorem ArgsOk.nil_inv {vs:List Value} {F:List Nat} (h:ArgsOk m w bs [] vs F):vs=[]∧F=[]:=by cases h;exact ⟨rfl,rfl⟩
theorem QwQ {f:Fr} {vals:List Value} {F G:List Nat} (h:Holds m w vals [.ptr 0 0] [frO f] bs F G) :
  ∃ (b mb:Nat) (ents:Array MapEntry) (clock:Nat) (ty:TypeId) (kvs:List (Value × T)),vals=[.pointer (some ⟨b,0,none⟩)]∧w.heap[b]? = some (.cells #[.int .u32 f.tm,.int .i64 f.n,.int .i64 f.t0,.map (some mb),.int .i64 (Qbo f.ps)] ty (0,0))∧w.heap[mb]? = some (.map ents clock) ∧
   kvs.Perm (kvF f.ps)∧ents.toList.map (·.key)=kvs.map (·.1)∧∀ (j:Nat) (k:Value) (s:List UInt8),kvs[j]? = some (k,T.av (vs s))→(ents.toList.map (·.val))[j]? = some (str s):=by
 obtain ⟨ms,ar,ob,di⟩:=h
 obtain ⟨_,_,_,_,rfl,⟨⟨b0,h1,rfl⟩,_⟩,hs,_,_⟩:=ar.uncons
 obtain ⟨rfl,_⟩:=hs.nil_inv
 have ⟨b,vs,ty,F1,hbs,hb,hA⟩:∃ b vs ty F1,bs=[b]∧w.heap[b]? = some (.cells vs.toArray ty (0,0))∧ArgsOk m w bs ((frO f).map .ca) vs F1:=by
  have:∀ bs',ObjsOk m w bs bs' [frO f] G→∃ b vs ty F1,bs'=[b]∧w.heap[b]? = some (.cells vs.toArray ty (0,0))∧ArgsOk m w bs ((frO f).map .ca) vs F1:=fun bs' h=>by
   cases h with
   | cons hb hm hA hn hs' hd=>
    cases hs'
    exact ⟨_,_,_,_,rfl,hb,hA⟩
  exact this bs ob
 subst hbs
 simp only [List.getElem?_cons_zero,Option.some.injEq] at h1
 subst h1
 simp only [frO,List.map_cons,List.map_nil] at hA
 obtain ⟨v1,_,_,_,rfl,a1,hA,_⟩:=hA.uncons
 obtain ⟨v2,_,_,_,rfl,a2,hA,_⟩:=hA.uncons
 obtain ⟨v3,_,_,_,rfl,a3,hA,_⟩:=hA.uncons
 obtain ⟨v4,_,_,_,rfl,a4,hA,_⟩:=hA.uncons
 obtain ⟨v5,_,_,_,rfl,a5,hA,_⟩:=hA.uncons
 obtain ⟨rfl,_⟩:=hA.nil_inv
 have e1:=Rd.sc_eq a1.1
 have e2:=Rd.sc_eq a2.1
 have e3:=Rd.sc_eq a3.1
 have e5:=Rd.sc_eq a5.1
 subst e1 e2 e3 e5
 obtain ⟨a4,_⟩:=a4
 cases a4 with
 | pm hp hh hs0 _=>
  obtain ⟨mb,ents,clock,F5,rfl,q2,q3,q4,q5,q6,q7,q8,q9,q10⟩:=QeW hh
  refine ⟨_,mb,ents,clock,ty,_,rfl,hb,q2,hp,q4,fun j k s hj=>?_⟩
  obtain ⟨u,r1,r2⟩:=q8.get_av (j:=j) (x:=vs s) (by rw [List.getElem?_map,hj];rfl)
  rw [r1,Rd.sc_eq r2]
theorem QtQ {P:Program} {b:Nat} {ents:Array MapEntry} {clock:Nat} (h2:w.heap[b]? = some (.map ents clock)) {t kt e:TypeId} (ht:P.underlying t=some (.map kt e)) {key z:Value} {ks:List Value} (h4:ents.toList.map (·.key)=ks) (hk:Qvr P kt key ks) (hz:Qdn P e=some z) :
  (key∉ks∧(Instr.lookup t (.map (some b)) key false).run P w=.ok z w)∨∃ (j:Nat) (e0:MapEntry),ents.toList[j]? = some e0∧e0.key=key∧(Instr.lookup t (.map (some b)) key false).run P w=.ok e0.val w:=by
 obtain ⟨k1,k2,k3⟩:=hk
 have hgo:=MapKept.run_getObj_map (P:=P) h2
 have hzr:(zeroValue e).run P w=.ok z w:=by
  unfold Qdn at hz
  obtain ⟨i,hi,hz⟩:=Option.bind_eq_some_iff.1 hz
  simp [zeroValue,typeInfo,hi,hz]
 rcases k3 w ents.toList h4 with ⟨q1,q2⟩ | ⟨j,e0,q1,q2,q3⟩
 ·exact .inl ⟨q2,by simp [Instr.lookup,run_underlying ht,hgo,k1,q1,hzr]⟩
 ·exact .inr ⟨j,e0,q2,q3,by simp [Instr.lookup,run_underlying ht,hgo,k1,q1]⟩
theorem Qz8 {f:Fr} (hf:f.Ok) {mb:Nat} {ents:Array MapEntry} {clock:Nat} {kvs:List (Value × T)} (hm:w.heap[mb]? = some (.map ents clock)) (hp:kvs.Perm (kvF f.ps)) (hk:ents.toList.map (·.key)=kvs.map (·.1)) (hv:∀ (j:Nat) (k:Value) (s:List UInt8),kvs[j]? = some (k,T.av (vs s))→(ents.toList.map (·.val))[j]? = some (str s)) (i:Nat) :
  (Instr.lookup 255 (.map (some mb)) (.int .i64 i) false).run Tryz.prog w=.ok (str ((QbP f.ps i).getD [])) w:=by
 have hmap:Qi9 Tryz.prog 255=some (3,9):=by kernel_rfl
 have hti:(Qao Tryz.prog 3).map (·.sh)=some (.int .i64):=by kernel_rfl
 have hz:Qdn Tryz.prog 9=some (str []):=by kernel_rfl
 have hkc:QA1 (Qao Tryz.prog 3) (.int .i64 i) (kvs.map (·.1)):=by
  cases h:Qao Tryz.prog 3 with
  | none=>rw [h] at hti;cases hti
  | some T=>
   rw [h] at hti
   have hti:T.sh=.int .i64:=Option.some.inj hti
   show Qkb T.sh _∧QeX T.sh _
   rw [hti]
   exact ⟨rfl,QeD hp⟩
 have hget:=Qm8 hf.nd hp (i:=(i:Int)) (by omega)
 rw [Int.toNat_natCast] at hget
 have hkn:(kvs.map (·.1)).Nodup:=((hp.map (·.1)).nodup_iff).2 (QlQ hf.nd)
 rcases QtQ hm (Qev hmap) hk (QmG hkc) hz with ⟨q1,q2⟩ | ⟨j,e0,q1,q2,q3⟩
 ·rw [q2]
  rw [Qeu q1] at hget
  cases hg:QbP f.ps i with
  | none=>rfl
  | some s=>rw [hg] at hget;cases hget
 ·rw [q3]
  have hlen:j<kvs.length:=by
   have h1:=congrArg List.length hk
   simp only [List.length_map] at h1
   have h2:=(List.getElem?_eq_some_iff.1 q1).1
   omega
  have hkj:kvs[j].1=.int .i64 i:=by
   have h1:=congrArg (fun l=>l[j]?) hk
   simp only [List.getElem?_map,q1,List.getElem?_eq_getElem hlen,Option.map_some,Option.some.injEq] at h1
   rw [←h1,q2]
  have hkk:kvs[j]? = some (.int .i64 i,kvs[j].2):=by rw [List.getElem?_eq_getElem hlen,←hkj]
  have h3:=(Qpt hkn hkk).1
  rw [hget] at h3
  cases hg:QbP f.ps i with
  | none=>rw [hg] at h3;cases h3
  | some s=>
   rw [hg] at h3
   have h3:T.av (vs s)=kvs[j].2:=Option.some.inj h3
   have h4:=hv j _ s (by rw [hkk,←h3])
   rw [List.getElem?_map,q1] at h4
   have h4:e0.val=str s:=Option.some.inj h4
   rw [h4]
   rfl
structure QFz (f:Fr) (m:Mem) (w0:World) (G:List Nat) (b:Nat) (w:World) (e:Ending):Prop where
 en:e=.returned (.bool (QbF f))
 hs:∃ m1 G1,Holds m1 w [.pointer (some ⟨b,0,none⟩)] [.ptr 0 0] [frO f] [b] [] G1∧m.le m1∧Chg (fun b=>b∈G) w0 w∧(∀ b i,b<w0.heap.size→b∉G→m1 b i=m b i)∧∀ b∈G1,b∈G∨w0.heap.size≤b
 c1:w.cell? ⟨b,1,none⟩=some (.int .i64 f.n)
 lk:∃ mb,w.cell? ⟨b,3,none⟩=some (.map (some mb))∧mb<w.heap.size∧∀ w',Below w.heap.size w w'→∀ i:Nat,(Instr.lookup 255 (.map (some mb)) (.int .i64 i) false).run Tryz.prog w'=.ok (str ((QbP f.ps i).getD [])) w'
theorem Qqr {f:Fr} (hf:f.Ok) {b:Nat} {G:List Nat} (h:Holds m w [.pointer (some ⟨b,0,none⟩)] [.ptr 0 0] [frO f] [b] [] G) :
  Calls Tryz.prog 144 #[.pointer (some ⟨b,0,none⟩)] w fun e w'=>QFz f m w G b w' e:=by
 refine (QiL f hf m w _ _ _ _ h).mono ?_
 rintro e w1 ⟨v,m1,bs1,F1,G1,rfl,H,h1,h2,h3,h4,h5⟩
 have hb1:bs1=[b]:=by
  have q1:=H.ob.len
  have q2:=h3 0 b rfl
  match bs1,q1,q2 with
  | [b'],_,q2=>simp at q2;rw [q2]
 subst hb1
 obtain ⟨_,_,_,_,hvv,⟨hr,hF1⟩,ar,hF,_⟩:=H.ar.uncons
 cases hvv
 obtain ⟨_,rfl⟩:=ar.nil_inv
 have hr:=Rd.sc_eq hr
 have H':Holds m1 w1 [.pointer (some ⟨b,0,none⟩)] [.ptr 0 0] [frO f] [b] [] G1:=⟨H.ms,.cons (a:=.ptr 0 0) (F:=[]) ⟨⟨b,rfl,rfl⟩,rfl⟩ .nil (by simp),H.ob,by simp⟩
 obtain ⟨b2,mb,ents,clock,ty,kvs,q0,q1,q2,q3,q4,q5⟩:=QwQ H'
 have q0:b=b2:=by simpa using q0
 subst q0
 refine ⟨by rw [hr],⟨m1,G1,H',h1,by simpa using h2,fun c i q6 q7=>h4 c i q6 (by simpa using q7),fun c hc=>by simpa using h5 c (List.mem_append_right _ hc)⟩,by simp [World.cell?,q1],mb,by simp [World.cell?,q1],(Array.getElem?_eq_some_iff.1 q2).1,fun w' hb i=>?_⟩
 exact Qz8 hf (by rw [hb.block mb (Array.getElem?_eq_some_iff.1 q2).1];exact q2) q3 q4 q5 i
end
theorem Qqs {w:World} {p:Addr} {v:Value} (o:Obj) (h:w.cell? p=some v):(w.alloc o).cell? p=some v:=by
 rw [((Below.refl w.heap.size w).alloc (Nat.le_refl _) o).cell (World.block_lt_of_cell? w _ h)]
 exact h
theorem QtR {m:Mem} {w:World} (f:Fr) (hf:f.Ok) (hw:QbF f=true) {b:Nat} {G:List Nat} (h:Holds m w [.pointer (some ⟨b,0,none⟩)] [.ptr 0 0] [frO f] [b] [] G) :
  Calls Tryz.prog 84 #[.pointer (some ⟨b,0,none⟩)] w fun e w'=>e=.returned (.tuple #[str (Qgo f.ps f.n),.bool true])∧∃ w1,QFz f m w G b w1 (.returned (.bool (QbF f)))∧Below w1.heap.size w1 w':=by
 have HN:=Lib.hid hf.n1
 have HC:=Lib.hid (Qoq hf.sz)
 go_enter Tryz.func84,Tryz.ntmps84
 go_wp2_with (go_at_call 144;refine (Qqr hf h).mono ?_;rintro e w1 ⟨rfl,hs,c1,mb,c3,hmb,hlk⟩;rw [hw];have c1a:=Qqs (.cells #[.pointer none,.slice none 0 0] 233) c1)
 go_loopw [13] (fun i wr=>∃ k:Nat,k≤f.n∧i=.int .i64 k∧Below w1.heap.size w1 wr∧Lib.IsBuilder 233 5 w1.heap.size w1.heap.size (Lib.byteCells (Qgo f.ps k)) wr) (fun i _=>f.n-(intOf i).toNat)
 case atStart=>exact ⟨0,Nat.zero_le _,rfl,(Below.refl _ w1).alloc (Nat.le_refl _) _,Lib.fresh_isBuilder _ _ w1⟩
 case round=>
  obtain ⟨k,hk,rfl,hbel,hbld⟩:=hrel
  by_cases hlt:k<f.n
  ·have i1:(k:Int)<f.n:=by omega
   have hL:=HC.out k
   have hn:=HN.out
   have hl1:=hlk _ hbel k
   have hbl:=World.block_lt_of_cell? w1 _ c1
   have d1:wr.cell? ⟨b,3,none⟩=some (.map (some mb)):=by rw [hbel.cell (by exact hbl)];exact c3
   have hsz:=hbel.size
   have hpl:((QbP f.ps k).getD []).length≤1048576:=by
    cases hg:QbP f.ps k with
    | none=>simp
    | some s=>exact hf.sz _ (QeC hg)
   have hl0:(Lib.byteCells (Qgo f.ps k)).length+(⟨((QbP f.ps k).getD []).toArray⟩:ByteArray).size≤140737488355328:=by
    have e1:(Lib.byteCells (Qgo f.ps k)).length=(Qgo f.ps k).length:=by unfold Lib.byteCells;rw [List.length_map]
    have e2:(⟨((QbP f.ps k).getD []).toArray⟩:ByteArray).size=((QbP f.ps k).getD []).length:=by simp [ByteArray.size]
    omega
   have hcat:Lib.byteCells (Qgo f.ps k)++Lib.strCells ⟨((QbP f.ps k).getD []).toArray⟩=Lib.byteCells (Qgo f.ps (k+1)):=by
    show Lib.byteCells _++Lib.byteCells _=_
    unfold Lib.byteCells
    rw [Qgo,List.map_append]
   clear hpl
   go_wp2_with (first | (simp only [hl1,Result.andThen_ok]) | (go_at_call 118;refine (QtP w1.heap.size w1.heap.size (Lib.byteCells (Qgo f.ps k)) ⟨((QbP f.ps k).getD []).toArray⟩ _ hbld hl0 hsz).mono ?_;rintro e w2 ⟨rfl,h2,hb2⟩))
   go_roundw
   case rel=>exact ⟨k+1,by omega,by go_num,hbel.trans hb2,.inr (by rw [←hcat];exact h2)⟩
   case measure=>simp [intOf];omega
  ·obtain rfl:k=f.n:=by omega
   have hsz:=hbel.size
   go_wp2_with (go_at_call 120;refine (Qqq w1.heap.size w1.heap.size (Qgo f.ps f.n) _ hbld hsz).mono ?_;rintro e w2 ⟨rfl,hb2⟩)
   go_ret2
   exact ⟨rfl,w1,⟨by rw [hw],hs,c1,mb,c3,hmb,hlk⟩,hbel.trans hb2⟩
theorem Holds.one {m:Mem} {w:World} {vals:List Value} {cs:List CA} {bs:List Nat} {F G:List Nat} (h:Holds m w vals [.ptr 0 0] [cs] bs F G):∃ b,vals=[.pointer (some ⟨b,0,none⟩)]∧bs=[b]∧F=[]:=by
 obtain ⟨_,_,_,_,rfl,⟨⟨b0,h1,rfl⟩,rfl⟩,hs,rfl,_⟩:=h.ar.uncons
 obtain ⟨rfl,rfl⟩:=hs.nil_inv
 have hl:=h.ob.len
 match bs,hl,h1 with
 | [b],_,h1=>
  simp at h1
  exact ⟨b0,rfl,by rw [h1],rfl⟩
theorem QwR (f:Fr) (h:f.Ok):Qan Tryz.prog 84 [.ptr 0 0] [frO f] (.ca (.val (.tup [vs (Qm5 f),vb (QbF f)]))) [frO f]:=by
 unfold Qm5
 cases hw:QbF f with
 | false=>
  have cw:=QiL f h
  rw [hw] at cw
  rw [if_neg (by decide)]
  refine Qaa Tryz.func84 rfl Tryz.ntmps84 Tryz.results84 ⟨by decide,by simp⟩ fun C hC=>?_
  repeat' first | refine sp_ ?_ | exact ex0 | refine Qab Tryz.call144 (cw) [(1000,0)] ex1 ?_ | exact re0 []
 | true=>
  rw [if_pos rfl]
  intro m w vals bs F G H
  obtain ⟨b,rfl,rfl,rfl⟩:=H.one
  refine (QtR f h hw H).mono ?_
  rintro e w' ⟨rfl,w1,D,hb⟩
  obtain ⟨_,⟨m1,G1,H1,q1,q2,q3,q4⟩,_,_⟩:=D
  obtain ⟨H2,hc⟩:=H1.below hb (v:=.tuple #[str (Qgo f.ps f.n),.bool true]) (x:=.tup [vs (Qgo f.ps f.n),vb true]) (Rd.tup _ _ rfl fun i hi=>by
   match i,hi with
   | 0,_=>exact Rd.sc _
   | 1,_=>exact Rd.sc _)
  have hc0:Chg Nothing w1 w':=(Chg.ofBelow hb).mono fun i hi h=>by omega
  refine ⟨_,m1,[b],[],G1,rfl,H2,q1,?_,fun _ _ h=>h,fun c i h1 h2=>q3 c i h1 (by simpa using h2),fun c hc=>by simpa using q4 c hc⟩
  exact (q2.mono fun _ _ h=>by simpa using h).trans (hc0.mono fun _ _ h=>h.elim)
end Go.Proofs.YthfocmakkeonoaaGreatDoor
namespace Go.Proofs.YthfocmakkeonoaaGreatDoor
open Go.RowKit
theorem Ql3 (a:Int):Qan Tryz.prog 180 [.ca (.val (vu a))] [] (.ca (.val (vb false))) []:=by
 refine Qaa Tryz.func180 rfl Tryz.ntmps180 Tryz.results180 ⟨by decide,by simp⟩ fun C hC=>?_
 repeat' first | refine sp_ ?_ | exact ex0 | refine QaC (fun h=>?_) (fun h=>?_) | refine Qav (fun h=>?_) (fun h=>?_) | refine QaB (fun h=>?_) (fun h=>?_) | exact re0 []
theorem Qz9 (a b:Int):Qan Tryz.prog 139 [.ca (.val (vu a)),.ca (.val (vu b))] [] (.ca (.val (vi (QoI a b)))) []:=by
 have c1:=Ql3 a
 have c2:=Ql3 b
 unfold QoI
 by_cases h1:a<b
 ·rw [if_pos h1]
  refine Qaa Tryz.func139 rfl Tryz.ntmps139 Tryz.results139 ⟨by decide,by simp⟩ fun C hC=>?_
  repeat' first | refine sp_ ?_ | exact ex0 | refine Qab Tryz.call180 (c1) [] ex1 ?_ | refine Qab Tryz.call180 (c2) [] ex1 ?_ | refine QaC (fun h=>?_) (fun h=>?_) | refine Qav (fun h=>?_) (fun h=>?_) | refine QaB (fun h=>?_) (fun h=>?_) | exact re0 []
 ·rw [if_neg h1]
  by_cases h2:b<a
  ·rw [if_pos h2]
   refine Qaa Tryz.func139 rfl Tryz.ntmps139 Tryz.results139 ⟨by decide,by simp⟩ fun C hC=>?_
   repeat' first | refine sp_ ?_ | exact ex0 | refine Qab Tryz.call180 (c1) [] ex1 ?_ | refine Qab Tryz.call180 (c2) [] ex1 ?_ | refine QaC (fun h=>?_) (fun h=>?_) | refine Qav (fun h=>?_) (fun h=>?_) | refine QaB (fun h=>?_) (fun h=>?_) | exact re0 []
  ·rw [if_neg h2]
   refine Qaa Tryz.func139 rfl Tryz.ntmps139 Tryz.results139 ⟨by decide,by simp⟩ fun C hC=>?_
   repeat' first | refine sp_ ?_ | exact ex0 | refine Qab Tryz.call180 (c1) [] ex1 ?_ | refine Qab Tryz.call180 (c2) [] ex1 ?_ | refine QaC (fun h=>?_) (fun h=>?_) | refine Qav (fun h=>?_) (fun h=>?_) | refine QaB (fun h=>?_) (fun h=>?_) | exact re0 []
theorem QwS (es:List V) (t:Int) (K:FuncId) (hK:∀ args w,(callFunc K args).run Tryz.prog w=.ok (.enter K args) w) (c:Nat→Int) (hl:es.length≤1000000)
  (hc:∀ i (h:i<es.length),Qan Tryz.prog K [.ca (.val (es[i])),.ca (.val (vu t))] [] (.ca (.val (vi (c i)))) []) (hm:∀ i j,i≤j→j<es.length→0≤c i→0≤c j) :
  Qan Tryz.prog 137 [.ca (.val (.lst 1 (es.map fun x=>[x]))),.ca (.val (vu t)),.fn K []] [] (.ca (.val (.tup [vi (Qdv c es.length),vb (decide (Qdv c es.length<es.length) && decide (c (Qdv c es.length)=0))]))) []:=by
 refine Qaa Tryz.func137 rfl Tryz.ntmps137 Tryz.results137 ⟨by decide,by simp⟩ fun C hC=>?_
 (repeat' ((fail_if_success (refine Qat 3 ?_));(first | refine sp_ ?_ | exact ex0 | exact re0 [])))
 refine QaD (α:={x:Nat × Nat // x.1≤x.2∧x.2≤es.length∧(∀ k,k<x.1→c k<0)∧(∀ k,x.2≤k→k<es.length→0≤c k)}) (fun x=>[(.s 0,.av (.val (.lst 1 (es.map fun x=>[x])))),(.s 1,.av (.val (vu t))),(.s 2,.av (.fn K [])),(.s 8,.av (.val (vi es.length))),(.s 9,.av (.val (vi x.1.1))),(.s 10,.av (.val (vi x.1.2)))]) (fun x=>x.1.2-x.1.1) ⟨(0,es.length),Nat.zero_le _,Nat.le_refl _,fun k h=>by omega,fun k a b=>by omega⟩ ?_ (fun x=>?_)
 ·exact ex0
 ·obtain ⟨⟨i,j⟩,h1,h2,h3,h4⟩:=x
  dsimp only at h1 h2 h3 h4 ⊢
  by_cases hij:i<j
  ·have hh:(i+j) / 2<es.length:=by omega
   obtain ⟨h,hh0⟩:∃ h,h=(i+j) / 2:=⟨_,rfl⟩
   rw [←hh0] at hh
   have hch:=hc h hh
   have hi1:(((i:Int)+(j:Int)) / 2).toNat=h:=by omega
   have hi2:((i:Int)+(j:Int)) / 2=(h:Int):=by omega
   have hge:(es.map fun x=>[x]).getD h []=[es[h]]:=by simp [hh]
   repeat' first | refine sp_ ?_ | exact ex0 | exact re0 []
   simp only [hi1,hge]
   refine Qci hK [] hch ex0 ?_
   by_cases hneg:c h<0
   ·repeat' first | refine sp_ ?_ | exact ex0 | exact re0 []
    refine Qau (α:={x:Nat × Nat // x.1≤x.2∧x.2≤es.length∧(∀ k,k<x.1→c k<0)∧(∀ k,x.2≤k→k<es.length→0≤c k)}) ⟨(h+1,j),by dsimp only;omega,h2,fun k hk=>?_,h4⟩ ⟨?_,by dsimp only;omega⟩
    ·dsimp only at hk
     by_cases hki:k<i
     ·exact h3 k hki
     ·exact Int.not_le.1 fun h0=>absurd (hm k h (by omega) hh h0) (by omega)
    ·refine sx_ ?_
     omega
   ·repeat' first | refine sp_ ?_ | exact ex0 | exact re0 []
    refine Qau (α:={x:Nat × Nat // x.1≤x.2∧x.2≤es.length∧(∀ k,k<x.1→c k<0)∧(∀ k,x.2≤k→k<es.length→0≤c k)}) ⟨(i,h),by dsimp only;omega,by dsimp only;omega,h3,fun k hk hk2=>hm h k hk hk2 (by omega)⟩ ⟨?_,by dsimp only;omega⟩
    refine sx_ ?_
    omega
  ·obtain rfl:j=i:=by omega
   have hf:=Qf8 c es.length j h2 h3 h4
   rw [hf]
   by_cases hn:j<es.length
   ·have hcj:=hc j hn
    have hge:(es.map fun x=>[x]).getD j []=[es[j]]:=by simp [hn]
    rw [decide_eq_true hn,Bool.true_and]
    repeat' first | refine sp_ ?_ | exact ex0 | (refine Qap [] ?_;simp (decide:=true) (disch:=omega) only [go_sem,↓reduceIte,↓Qad])
    (try simp only [hge])
    refine Qci hK [] hcj ex0 ?_
    by_cases h0:c j=0
    ·rw [decide_eq_true h0]
     repeat' first | refine sp_ ?_ | exact ex0 | exact re0 []
    ·rw [decide_eq_false h0]
     repeat' first | refine sp_ ?_ | exact ex0 | exact re0 []
   ·rw [decide_eq_false hn,Bool.false_and]
    repeat' first | refine sp_ ?_ | exact ex0 | exact re0 []
theorem QCR (es Z:List (List V)) (v:List V) (i:Nat) (hi:i≤es.length):List.take (0+i) (es.take i++Z)++[v]++List.drop (0+i+1) (es.take i++Z)=es.take i++v::Z.drop 1:=by
 have h:(es.take i).length=i:=by rw [List.length_take];omega
 rw [Nat.zero_add,List.take_append_of_le_length (by omega),List.take_of_length_le (by omega),List.drop_append,List.drop_of_length_le (by omega),h,show i+1-i=1 by omega]
 simp
theorem QCS:∀ u v w w',(Extern.SlicesOverlaps.overlaps #[145,145] #[4] #[u,v]).run Tryz.prog w=.ok (.bool false) w'→(callFunc 181 #[u,v]).run Tryz.prog w=.ok (.value (.bool false)) w':=by
 intro u v w w' h
 rw [run_callFunc_extern (fn:=Tryz.f181) (by kernel_rfl) (by kernel_rfl) (by kernel_rfl) (by kernel_rfl) (e:=Extern.SlicesOverlaps.overlaps #[145,145] #[4]) (by kernel_rfl),h]
 rfl
theorem QtS (es:List (List V)) (v:List V) (i:Nat) (hi:i≤es.length) (hl:es.length<1000000) (hsz:∀ r∈es,r.length=1) (hone:∀ r∈es,∀ y∈r,Qfn y=true) (hv:v.length=1) (hvo:∀ y∈v,Qfn y=true) :
  Qan Tryz.prog 141 [.ca (.hd (.rw 175 1 es)),.ca (.val (vi i)),.ca (.own 175 1 [v])] [] (.ca (.hd (.rw 175 1 (es.take i++v::es.drop i)))) []:=by
 refine Qaa Tryz.func141 rfl Tryz.ntmps141 Tryz.results141 ⟨by decide,by simp⟩ fun C hC=>?_
 refine Qzo (0,1) [30,40,60,77] 175 1 es ⟨⟨by kernel_rfl,by rw [hC];decide⟩,fun n h1 h2=>?_⟩
 repeat' first | refine sp_ ?_ | exact ex0 | refine QaC (fun h=>?_) (fun h=>?_) | refine Qav (fun h=>?_) (fun h=>?_) | refine QaB (fun h=>?_) (fun h=>?_) | (refine Qap [] ?_;simp (decide:=true) (disch:=omega) only [go_sem,↓reduceIte,↓Qad])
 ·refine ⟨⟨by omega,by omega,hv,hvo⟩,?_⟩
  repeat' first | refine sp_ ?_ | exact ex0 | refine QaC (fun h=>?_) (fun h=>?_) | refine Qav (fun h=>?_) (fun h=>?_) | refine QaB (fun h=>?_) (fun h=>?_) | (refine Qap [] ?_;simp (decide:=true) (disch:=omega) only [go_sem,↓reduceIte,↓Qad])
  have hin:i=es.length:=by omega
  rw [List.take_of_length_le (by omega),List.drop_of_length_le (by omega)]
 ·generalize hZ:List.replicate ((es.length:Int)+1-i).toNat _=Z
  have hZl:Z.length=es.length+1-i:=by rw [←hZ,List.length_replicate];omega
  rw [QCR es Z v i hi]
  generalize hW:es.take i++v::Z.drop 1=W
  have hWl:W.length=es.length+1:=by rw [←hW];simp [hZl];omega
  simp only [List.length_take,hZl]
  refine ⟨by omega,?_⟩
  repeat' first | refine sp_ ?_ | exact ex0 | refine QaC (fun h=>?_) (fun h=>?_) | refine Qav (fun h=>?_) (fun h=>?_) | refine QaB (fun h=>?_) (fun h=>?_) | exact re0 []
  refine ⟨⟨by omega,by omega,hv,hvo⟩,?_⟩
  repeat' first | refine sp_ ?_ | exact ex0 | refine QaC (fun h=>?_) (fun h=>?_) | refine Qav (fun h=>?_) (fun h=>?_) | refine QaB (fun h=>?_) (fun h=>?_) | (refine Qap [] ?_;simp (decide:=true) (disch:=omega) only [go_sem,↓reduceIte,↓Qad])
  have hD:List.take (es.length-i) (List.drop (0+i) es)=es.drop i:=by rw [Nat.zero_add,List.take_of_length_le (by rw [List.length_drop];omega)]
  have hi1:((i:Int)+1).toNat=i+1:=by omega
  have hR:List.take (0+(i+1)) W++es.drop i++List.drop (0+(i+1)+(es.length-i)) W=es.take i++v::es.drop i:=by
   have e1:List.drop (0+(i+1)+(es.length-i)) W=[]:=List.drop_of_length_le (by omega)
   have e2:List.take (0+(i+1)) W=es.take i++[v]:=by
    have e3:(es.take i++[v]).length=i+1:=by rw [List.length_append,List.length_take];simp;omega
    rw [←hW,Nat.zero_add,show es.take i++v::Z.drop 1=(es.take i++[v])++Z.drop 1 by simp,List.take_append_of_le_length (by omega),List.take_of_length_le (by omega)]
   rw [e1,e2];simp
  rw [hD,hi1]
  simp only [List.length_drop,hR]
  refine ⟨⟨by omega,by omega,fun r h=>hsz r (List.mem_of_mem_drop h),fun r h=>hone r (List.mem_of_mem_drop h),by omega⟩,?_⟩
  repeat' first | refine sp_ ?_ | exact ex0 | refine QaC (fun h=>?_) (fun h=>?_) | refine Qav (fun h=>?_) (fun h=>?_) | refine QaB (fun h=>?_) (fun h=>?_) | exact re0 []
 ·have hLl:(longer es 1 ((es.length:Int)+1).toNat).length=es.length+1:=by rw [Qgw (by omega)];omega
  have hLt:∀ k,k≤es.length→(longer es 1 ((es.length:Int)+1).toNat).take k=es.take k:=fun k hk=>by unfold longer;rw [List.take_append_of_le_length hk]
  generalize longer es 1 ((es.length:Int)+1).toNat=Z at *
  simp only [hLl]
  refine ⟨by omega,?_⟩
  refine QEX (e:=175) (sz:=1) (off:=i+1) (len:=es.length-i) (es:=Z) (vs:=[v]) (ex:=175) (e':=175) (2,0) (0,1) QCS (by kernel_rfl) (by kernel_rfl) (by decide) ex0 ex0 (by simp) (by simp (decide:=true) (disch:=omega) only [go_sem,↓reduceIte,↓Qad];exact ⟨by omega,by omega⟩) ex0 (by omega) ?_
  repeat' first | refine sp_ ?_ | exact ex0 | refine QaC (fun h=>?_) (fun h=>?_) | refine Qav (fun h=>?_) (fun h=>?_) | refine QaB (fun h=>?_) (fun h=>?_) | (refine Qap [] ?_;simp (decide:=true) (disch:=omega) only [go_sem,↓reduceIte,↓Qad])
  have hi1:((i:Int)+1).toNat=i+1:=by omega
  have hD:List.take (Z.length-(i+1)) (List.drop (0+i) Z)=es.drop i:=by
   have:=hLt es.length (Nat.le_refl _)
   rw [List.take_length] at this
   rw [hLl,Nat.zero_add,←this,List.drop_take,List.length_take]
   congr 1;omega
  have hE:List.drop (0+(i+1)+(Z.length-(i+1))) Z=[]:=List.drop_of_length_le (by omega)
  rw [hi1,hD,hE]
  have hWl:(List.take (0+(i+1)) Z++es.drop i++[]).length=es.length+1:=by simp;omega
  have hR:List.take (0+i) (List.take (0+(i+1)) Z++es.drop i++[])++[v]++List.drop (0+i+1) (List.take (0+(i+1)) Z++es.drop i++[])=es.take i++v::es.drop i:=by
   have h1:(List.take (0+(i+1)) Z).length=i+1:=by rw [List.length_take];omega
   rw [List.append_nil,List.take_append_of_le_length (by omega),List.take_take,List.drop_append,List.drop_of_length_le (by omega),h1,show min (0+i) (0+(i+1))=i by omega,hLt i hi,show 0+i+1-(i+1)=0 by omega]
   simp
  generalize List.take (0+(i+1)) Z++es.drop i++[]=W at *
  refine ⟨⟨by omega,by omega,by omega,fun r h=>hone r (List.mem_of_mem_drop h)⟩,?_⟩
  repeat' first | refine sp_ ?_ | exact ex0 | refine QaC (fun h=>?_) (fun h=>?_) | refine Qav (fun h=>?_) (fun h=>?_) | refine QaB (fun h=>?_) (fun h=>?_) | (refine Qap [] ?_;simp (decide:=true) (disch:=omega) only [go_sem,↓reduceIte,↓Qad])
  rw [hR]
  refine ⟨⟨by omega,by omega,hv,hvo⟩,?_⟩
  repeat' first | refine sp_ ?_ | exact ex0 | refine QaC (fun h=>?_) (fun h=>?_) | refine Qav (fun h=>?_) (fun h=>?_) | refine QaB (fun h=>?_) (fun h=>?_) | exact re0 []
theorem QtT (es:List (List V)) (i j:Nat) (hi:i<j) (hj:j≤es.length) (hl:es.length<1000000) (hsz:∀ r∈es,r.length=1) (hone:∀ r∈es,∀ y∈r,Qfn y=true) :
  Qan Tryz.prog 145 [.ca (.hd (.rw 175 1 es)),.ca (.val (vi i)),.ca (.val (vi j))] [] (.ca (.hd (.rw 175 1 (es.take i++es.drop j)))) []:=by
 refine Qaa Tryz.func145 rfl Tryz.ntmps145 Tryz.results145 ⟨by decide,by simp⟩ fun C hC=>?_
 refine Qzo (0,1) [26] 175 1 es ⟨⟨by kernel_rfl,by rw [hC];decide⟩,fun n h1 h2=>?_⟩
 (repeat' ((fail_if_success (first | refine Qas 7 ?_ | refine Qay 7 ?_));(first | refine sp_ ?_ | exact ex0 | exact re0 [])))
 have hD:List.take (es.length-j) (List.drop (0+j) es)=es.drop j:=by rw [Nat.zero_add,List.take_of_length_le (by rw [List.length_drop];omega)]
 rw [hD]
 simp only [List.length_drop]
 have hT:(es.take i++es.drop j++List.drop (i+(es.length-j)) es).take (i+(es.length-j))=es.take i++es.drop j:=by
  have h1:(es.take i++es.drop j).length=i+(es.length-j):=by rw [List.length_append,List.length_take,List.length_drop];omega
  rw [List.take_append_of_le_length (by omega),List.take_of_length_le (by omega)]
 have hWl:(es.take i++es.drop j++List.drop (i+(es.length-j)) es).length=es.length:=by simp;omega
 generalize es.take i++es.drop j++List.drop (i+(es.length-j)) es=W at *
 refine ⟨⟨by omega,fun r h=>hsz r (List.mem_of_mem_drop h),fun r h=>hone r (List.mem_of_mem_drop h),by omega⟩,?_⟩
 (repeat' ((fail_if_success (first | refine Qas 7 ?_ | refine Qay 7 ?_));(first | refine sp_ ?_ | exact ex0 | exact re0 [])))
 refine Qzp 0 (0,1) (i+(es.length-j)) 175 1 (List.take (0+(i+(es.length-j))) W++List.replicate (es.length-(i+(es.length-j))) [V.sc (.pointer none)]++List.drop (0+(i+(es.length-j))+(es.length-(i+(es.length-j)))) W) ⟨⟨by kernel_rfl,by kernel_rfl,by simp;omega,by rw [hC];decide⟩,?_⟩
 have hT2:(List.take (0+(i+(es.length-j))) W++List.replicate (es.length-(i+(es.length-j))) [V.sc (.pointer none)]++List.drop (0+(i+(es.length-j))+(es.length-(i+(es.length-j)))) W).take (i+(es.length-j))=es.take i++es.drop j:=by
  have h1:(List.take (i+(es.length-j)) W).length=i+(es.length-j):=by rw [List.length_take];omega
  rw [Nat.zero_add,List.append_assoc,List.take_append_of_le_length (by omega),List.take_of_length_le (by omega),hT]
 rw [hT2]
 repeat' first | refine sp_ ?_ | exact ex0 | refine QaC (fun h=>?_) (fun h=>?_) | refine Qav (fun h=>?_) (fun h=>?_) | refine QaB (fun h=>?_) (fun h=>?_) | exact re0 []
end Go.Proofs.YthfocmakkeonoaaGreatDoor
