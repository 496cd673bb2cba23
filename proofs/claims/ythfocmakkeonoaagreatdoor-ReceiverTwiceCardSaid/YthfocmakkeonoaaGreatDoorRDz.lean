/- Walking code with abstract values. The beginning and the end of a function. -/
import Derived.Test.YthfocmakkeonoaaGreatDoorRT8z
set_option linter.unusedVariables false
set_option linter.unusedSimpArgs false
set_option maxRecDepth 100000
set_option maxHeartbeats 16000000
namespace Go.Proofs.YthfocmakkeonoaaGreatDoor
open Go.RowKit
def Qa7:Stp→Stp→Stp
 | some r,_=>some r
 | none,r=>r
theorem QpI {r:Prop × List Pl × List (Pl × X)} {s:Stp}:Qa7 (some r) s=some r:=rfl
theorem QpJ {s:Stp}:Qa7 none s=s:=rfl
theorem Qdd {P:Program} {C:Ctx} {σ:St} {d:Option Tmp} {op:Op} {s1 s2:Stp} (h1:Qbl P C σ d op s1) (h2:Qbl P C σ d op s2):Qbl P C σ d op (Qa7 s1 s2):=by
 cases s1 with
 | some r=>exact h1
 | none=>exact h2
def QyJ (P:Program) (σ:St) (d:Tmp) (b:Builtin) (xs:List Operand) (ts:List TypeId):Stp:=
 match b,xs,ts with
 | .len,[x],[t]=>Qa7 (Qrv P σ d t x) (Qa7 (Qll P σ d t x) (Qlo P σ d t x))
 | .max,[x,y],[_,_]=>Qvn σ d true x y
 | .min,[x,y],[_,_]=>Qvn σ d false x y
 | .append,[s,x],[t,tx]=>Qa7 (Qa7 (Qea P σ d t tx s x) (Qd9 P σ d t tx s x)) (Qa7 (Qfu P σ d t tx s x) (Qa7 (Qd5 P σ d t tx s x) (Qa7 (Qd7 P σ d t tx s x) (Qeb P σ d t tx s x))))
 | .copy,[s,x],[t,tx]=>Qa7 (Qh9 P σ d t tx s x) (Qa7 (Qh6 P σ d t tx s x) (Qh8 P σ d t tx s x))
 | .cap,[x],[t]=>QrL P σ d t x
 | .clear,[x],[t]=>QfL P σ d t x
 | _,_,_=>none
noncomputable def Qa8 (P:Program) (σ:St) (d:Option Tmp) (op:Op):Stp:=
 match d,op with
 | some d,.move x=>QhO σ d x
 | some d,.assign x=>QhO σ d x
 | some d,.pick c x y=>Qk6 σ d c x y
 | some d,.binOp op t x y _=>Qa7 (Qrk σ d op x y) (Qk7 P σ d op t x y)
 | some d,.unOp op _ x=>QBg σ d op x
 | some d,.convert s t x=>Qk8 P σ d s t x
 | some d,.extract x i=>Qrm σ d x i
 | some d,.fieldAddr s x f=>Qa7 (Qfr P σ d s x f) (Qd4 P σ d s x f)
 | some d,.load t x=>Qa7 (Qk9 P σ d t x) (Qa7 (Qia P σ d t x) (Qh5 P σ d t x))
 | some d,.nilCheck x=>Qrt σ d x
 | none,.store t x y=>Qa7 (QhQ P σ t x y) (QfJ P σ t x y)
 | none,.call { callee:=.builtin .clear,args:=xs,argTypes:=ts }=>match xs.toList,ts.toList with
  | [x],[t]=>QfN P σ t x
  | _,_=>none
 | some d,.alloc t=>QhR P σ d t
 | some d,.box _ x=>Qrp σ d x
 | some d,.build t ps=>QhS P σ d t ps.toList
 | some d,.buildSlice t n ps=>Qa7 (QfQ P σ d t n ps.toList) (Qfx P σ d t n ps.toList)
 | some d,.index t x y=>QhU P σ d t x y
 | some d,.indexAddr t x y=>Qa7 (Qfy P σ d t x y) (Qa7 (Qd3 P σ d t x y) (Qa7 (Qd6 P σ d t x y) (QfR P σ d t x y)))
 | some d,.slice t x lo hi mx=>Qa7 (QfO P σ d t x lo hi mx) (Qa7 (QhV P σ d t x lo hi mx) (Qa7 (QfK P σ d t x lo hi mx) (QfP P σ d t x lo hi mx)))
 | some d,.call { callee:=.builtin b,args:=xs,argTypes:=ts }=>QyJ P σ d b xs.toList ts.toList
 | some d,.makeMap _ none=>QfH σ d
 | none,.insert t m k v=>QdC P σ t m k v
 | none,.mapUpdate t m k v=>QdC P σ t m k v
 | some d,.lookup t x k ok=>QfI P σ d t x k ok
 | some d,.range t x=>Qh3 P σ d t x
 | some d,.entry x=>Qh4 σ d x
 | some d,.makeFunc (.func F) first xs=>match first.toList with
  | []=>Qn0 σ d F xs.toList
  | _=>none
 | _,_=>none
section
variable {P:Program} {ops:Array Oper} {C:Ctx} {σ:St}
theorem QvD (d:Tmp) (b:Builtin) (xs:List Operand) (ts:List TypeId):Qbl P C σ (some d) (.call { callee:=.builtin b,args:=xs.toArray,argTypes:=ts.toArray }) (QyJ P σ d b xs ts):=by
 unfold QyJ
 split
 ·exact Qdd (QBn _ _ _) (Qdd (QyD _ _ _) (QyH _ _ _))
 ·exact QBo _ _ _ _ _
 ·exact QBp _ _ _ _ _
 ·exact Qdd (Qdd (QpG _ _ _ _ _) (QpF _ _ _ _ _)) (Qdd (Qrq _ _ _ _ _) (Qdd (QpA _ _ _ _ _) (Qdd (QpC _ _ _ _ _) (QpH _ _ _ _ _))))
 ·exact Qdd (QvB _ _ _ _ _) (Qdd (Qvy _ _ _ _ _) (QvA _ _ _ _ _))
 ·exact QBz _ _ _
 ·exact QrI _ _ _
 ·intro _ _ _ h;cases h
theorem Qcy (d:Option Tmp) (op:Op):Qbl P C σ d op none:=fun _ _ _ h=>by cases h
theorem Qkf (d:Option Tmp) (op:Op):Qbl P C σ d op (Qa8 P σ d op):=by
 cases d with
 | none=>
  cases op with
  | call c=>
   obtain ⟨callee,⟨args⟩,⟨tys⟩⟩:=c
   cases callee with
   | builtin b=>
    cases b with
    | clear=>
     match args,tys with
     | [x],[t]=>exact QrJ t x
     | [],_=>exact Qcy _ _
     | _::_::_,_=>exact Qcy _ _
     | [_],[]=>exact Qcy _ _
     | [_],_::_::_=>exact Qcy _ _
    | _=>exact Qcy _ _
   | _=>exact Qcy _ _
  | _=>first | exact Qdd (Qvi _ _ _) (QrF _ _ _) | exact Qjv _ _ _ _ _ (.inl rfl) | exact Qjv _ _ _ _ _ (.inr rfl) | exact Qcy _ _
 | some d=>
  cases op with
  | binOp op t x y t'=>
   exact Qdd (QBf (P:=P) (C:=C) (σ:=σ) d op t t' x y) (Qyy _ _ _ _ _ _)
  | call c=>
   obtain ⟨callee,args,tys⟩:=c
   cases callee with
   | builtin b=>exact QvD d b args.toList tys.toList
   | _=>exact Qcy _ _
  | makeMap t r=>cases r with
   | none=>exact Qpw _ _
   | some r=>exact Qcy _ _
  | buildSlice t n ps=>exact Qdd (QrP (P:=P) (C:=C) (σ:=σ) d t n ps.toList) (Qrr d t n ps.toList)
  | makeFunc fn first xs=>
   cases fn with
   | func F=>
    obtain ⟨first⟩:=first
    cases first with
    | nil=>exact QyE d F xs.toList
    | cons=>exact Qcy _ _
   | _=>exact Qcy _ _
  | _=>first | exact QrD _ _ _ _ _ | exact Qvt _ _ _ | exact Qvv _ _ | exact Qyv _ _ | exact Qrj _ _ | exact Qyw _ _ _ _ | exact QDN _ _ _ _ | exact Qyz _ _ _ _ | exact QBh _ _ _ | exact Qdd (Qrn _ _ _ _) (Qpz _ _ _ _) | exact Qdd (QyA _ _ _) (Qdd (QvC _ _ _) (Qvw _ _ _)) | exact QBm _ _ | exact Qvj _ _ | exact QBj _ _ _ | exact Qvk _ _ _ | exact Qvl _ _ _ _ | exact Qdd (Qrs _ _ _ _) (Qdd (Qpy _ _ _ _) (Qdd (QpB _ _ _ _) (QrQ _ _ _ _))) | exact Qdd (QrN _ _ _ _ _ _) (Qdd (Qvm _ _ _ _ _ _) (Qdd (QrH _ _ _ _ _ _) (QrO _ _ _ _ _ _))) | exact Qcy _ _
def QDP (P:Program) (ops:Array Oper) (C:Ctx) (o:Oper) (R:List (Pl × X)) (Ws:List (Pl × X)→Prop):Prop:=
 ∀ (E:Env) (σ:St) (a:Act) (w:World) (K:Act→World→Prop) (Q:Exit→Act→World→Prop),(∀ d,o.dst=some d→d<C.nt)→(∀ p∈R,σ p.1=p.2)→Gm C E σ a w →
  (∀ W a' w' E',Ws W→Gm C E' (Qaf σ W) a' w'→K a' w')→if Region.wanted o (yielded ops a.tmps)=true then o.wp P a w K Q else K (a.put o.dst undef) w
inductive Run (P:Program) (ops:Array Oper) (C:Ctx) (md:Bool) (K:St→List FP→Prop):List Oper→St→List FP→Prop where
 | nil {σ acc} (h:K σ acc.reverse):Run P ops C md K [] σ acc
 | cons {o rest σ acc L W} (h:OpOk P ops C o (rds σ L) W) (k:Run P ops C md K rest (Qaf σ W) ((L,QcP W)::acc)):Run P ops C md K (o::rest) σ acc
 | alt {o rest σ acc L Ws} (hm:md=true) (h:QDP P ops C o (rds σ L) Ws) (k:∀ W,Ws W→Run P ops C md K rest (Qaf σ W) ((L,QcP W)::acc)):Run P ops C md K (o::rest) σ acc
variable {K:St→List FP→Prop} {acc:List FP} {o:Oper} {rest:List Oper} {L:List Pl} {W:List (Pl × X)} {md:Bool}
theorem QvE (σ:St) (L:List Pl):QcP (rds σ L)=L:=by simp [QcP,rds,Function.comp_def]
theorem QaQ (h:OpOk P ops C o (rds σ L) W) (k:Run P ops C md K rest (Qaf σ W) ((L,QcP W)::acc)):Run P ops C md K (o::rest) σ acc:=.cons h k
theorem Run.tr {l:List Oper} {σ:St} {acc:List FP} (h:Run P ops C false K l σ acc):∃ tr σ',Tr P ops C l σ tr σ'∧K σ' (acc.reverse++tr.map QhM):=by
 induction h with
 | nil h=>exact ⟨[],_,.nil _,by simpa using h⟩
 | @cons o rest σ acc L W h _ ih=>
  obtain ⟨tr,σ',ht,hk⟩:=ih
  refine ⟨(rds σ L,W)::tr,σ',.cons o rest σ σ' _ W tr h (fun p hp=>?_) ht,?_⟩
  ·obtain ⟨l,_,rfl⟩:=List.mem_map.1 hp;rfl
  ·have:QhM (rds σ L,W)=(L,QcP W):=by simp [QhM,QvE]
   simpa [this] using hk
 | alt hm=>cases hm
theorem Run.list {Q:Exit→Act→World→Prop} {l:List Oper} {σ:St} {acc:List FP} (h:Run P ops C md K l σ acc) (hds:QdP C.nt l=true) (hQ:∀ σ' fp E a w,K σ' fp→Gm C E σ' a w→Q .normal a w) :
  ∀ (E:Env) (a:Act) (w:World),Gm C E σ a w→wpList P ops Q l a w:=by
 induction h with
 | nil h=>intro E a w hg;exact wpList_nil (hQ _ _ E a w h hg)
 | @cons o rest σ acc L W h _ ih=>
  intro E a w hg
  have h0:=Qgp hds (i:=0) (o:=o) rfl
  have h1:QdP C.nt rest=true:=by unfold QdP at hds ⊢;rw [List.all_cons,Bool.and_eq_true] at hds;exact hds.2
  exact wpList_step fun K hK=>h E σ a w K Q h0 (fun p hp=>by obtain ⟨l,_,rfl⟩:=List.mem_map.1 hp;rfl) hg fun a' w' E' hG=>hK _ _ (ih h1 E' a' w' hG)
 | @alt o rest σ acc L Ws hm h _ ih=>
  intro E a w hg
  have h0:=Qgp hds (i:=0) (o:=o) rfl
  have h1:QdP C.nt rest=true:=by unfold QdP at hds ⊢;rw [List.all_cons,Bool.and_eq_true] at hds;exact hds.2
  exact wpList_step fun K hK=>h E σ a w K Q h0 (fun p hp=>by obtain ⟨l,_,rfl⟩:=List.mem_map.1 hp;rfl) hg fun W a' w' E' hW hG=>hK _ _ (ih W hW h1 E' a' w' hG)
def QbG (ops:Array Oper) (j:Nat):Nat:=(((ops[j]?).bind (·.dst)).getD 0)
theorem Qc5 {j:Nat} {b:Bool} {d:Option Tmp} {op:Op} {ty:TypeId} {pos:String} {af:Array Edge} (hd:((ops[j]?).bind (·.dst)).isSome=true) (hg:σ (.s (QbG ops j))=.av (.val (.sc (.bool b))))
  (h:OpOk P ops C ⟨d,op,ty,pos,af,none⟩ (rds σ L) W):OpOk P ops C ⟨d,op,ty,pos,af,some (j,b)⟩ (rds σ (.s (QbG ops j)::L)) W:=by
 intro E σ' a w Kt Q h1 h2 h3 h4
 have h5:=h E σ' a w Kt Q h1 (fun p hp=>h2 p (by obtain ⟨l,hl,rfl⟩:=List.mem_map.1 hp;exact List.mem_map.2 ⟨l,List.mem_cons_of_mem _ hl,rfl⟩)) h3 h4
 rw [if_pos (by simp [Region.wanted])] at h5
 have h6:=h3.sl (QbG ops j) (.val (.sc (.bool b))) (by have:=h2 (.s (QbG ops j),σ (.s (QbG ops j))) (by simp [rds]);simp only at this;rw [this];exact hg)
 have h6:=Rd.sc_eq h6
 obtain ⟨t,ht⟩:=Option.isSome_iff_exists.1 hd
 have hgs:QbG ops j=t:=by unfold QbG;rw [ht];rfl
 rw [hgs] at h6
 have hlt:t<a.tmps.size:=by
  rcases Nat.lt_or_ge t a.tmps.size with hl | hl
  ·exact hl
  ·rw [Array.getD_eq_getD_getElem?,Array.getElem?_eq_none hl] at h6;cases h6
 have hy:yielded ops a.tmps j=some b:=by
  unfold yielded
  rw [ht]
  simp only [Option.bind_some]
  have:a.tmps[t]? = some (.bool b):=by rw [Array.getElem?_eq_getElem hlt];congr 1;rw [←h6];simp [Array.getD_eq_getD_getElem?,hlt]
  rw [this]
 rw [if_pos (by simp [Region.wanted,hy])]
 exact h5
theorem QrR {j:Nat} {b:Bool} {d:Tmp} {op:Op} {ty:TypeId} {pos:String} {af:Array Edge} {v:Value} (hd:((ops[j]?).bind (·.dst)).isSome=true) (hg:σ (.s (QbG ops j))=.av (.val (.sc v))) (hv:v≠.bool b) :
  OpOk P ops C ⟨some d,op,ty,pos,af,some (j,b)⟩ (rds σ [.s (QbG ops j)]) [(.s d,.av (.val (.sc undef)))]:=by
 intro E σ' a w Kt Q h1 h2 h3 h4
 have h6:=h3.sl (QbG ops j) (.val (.sc v)) (by have:=h2 (.s (QbG ops j),σ (.s (QbG ops j))) (by simp [rds]);simp only at this;rw [this];exact hg)
 have h6:=Rd.sc_eq h6
 obtain ⟨t,ht⟩:=Option.isSome_iff_exists.1 hd
 have hgs:QbG ops j=t:=by unfold QbG;rw [ht];rfl
 rw [hgs] at h6
 have hy:Region.wanted ⟨some d,op,ty,pos,af,some (j,b)⟩ (yielded ops a.tmps)=false:=by
  simp only [Region.wanted]
  unfold yielded
  rw [ht]
  simp only [Option.bind_some]
  rcases Nat.lt_or_ge t a.tmps.size with hl | hl
  ·have:a.tmps[t]? = some v:=by rw [Array.getElem?_eq_getElem hl];congr 1;rw [←h6];simp [Array.getD_eq_getD_getElem?,hl]
   rw [this]
   cases v <;> simp at hv ⊢
   exact hv
  ·rw [Array.getElem?_eq_none hl];rfl
 rw [if_neg (by simp [hy])]
 exact h4 _ _ E (h3.slot d _ undef (h1 d rfl) (Rd.sc _))
noncomputable def Qb7 (P:Program) (ops:Array Oper) (C:Ctx) (md:Bool) (K:St→List FP→Prop):List Oper→St→List FP→Prop
 | [],σ,acc=>K σ acc.reverse
 | ⟨d,op,ty,pos,af,none⟩::rest,σ,acc=>match Qa8 P σ d op with
  | some (c,L,W)=>c∧Qb7 P ops C md K rest (Qaf σ W) ((L,QcP W)::acc)
  | none=>Run P ops C md K (⟨d,op,ty,pos,af,none⟩::rest) σ acc
 | ⟨some d,op,ty,pos,af,some (j,b)⟩::rest,σ,acc=>match σ (.s (QbG ops j)) with
  | .av (.val (.sc (.bool b')))=>((ops[j]?).bind (·.dst)).isSome=true∧(b'=b→match Qa8 P σ (some d) op with
   | some (c,L,W)=>c∧Qb7 P ops C md K rest (Qaf σ W) ((.s (QbG ops j)::L,QcP W)::acc)
   | none=>Run P ops C md K (⟨some d,op,ty,pos,af,some (j,b)⟩::rest) σ acc) ∧
   (b' = !b→Qb7 P ops C md K rest (put σ (.s d) (.av (.val (.sc undef)))) (([.s (QbG ops j)],[.s d])::acc))
  | .av (.val (.sc (.tuple _)))=>((ops[j]?).bind (·.dst)).isSome=true∧Qb7 P ops C md K rest (put σ (.s d) (.av (.val (.sc undef)))) (([.s (QbG ops j)],[.s d])::acc)
  | _=>False
 | _,_,_=>False
theorem QaJ:∀ {todo:List Oper} {σ:St} {acc:List FP},Qb7 P ops C md K todo σ acc→Run P ops C md K todo σ acc
 | [],_,_,h=>.nil h
 | ⟨d,op,ty,pos,af,none⟩::rest,σ,acc,h=>by
  unfold Qb7 at h
  split at h
  ·rename_i c L W hs
   exact QaQ (Qkf d op c L W hs h.1 ops ty pos af) (QaJ h.2)
  ·exact h
 | ⟨some d,op,ty,pos,af,some (j,b)⟩::rest,σ,acc,h=>by
  unfold Qb7 at h
  split at h
  ·rename_i b' hg
   obtain ⟨h1,h2,h3⟩:=h
   by_cases hb:b'=b
   ·subst hb
    have h4:=h2 rfl
    split at h4
    ·rename_i c L W hs
     exact QaQ (Qc5 h1 hg (Qkf (some d) op c L W hs h4.1 ops ty pos af)) (QaJ h4.2)
    ·exact h4
   ·have h4:=h3 ((by intro b b' h;cases b <;> cases b' <;> first | rfl | exact absurd rfl h:∀ b b':Bool,¬b'=b→b' = !b) b b' hb)
    exact QaQ (QrR h1 hg (fun he=>hb (by cases he;rfl))) (QaJ h4)
  ·rename_i vs hg
   exact QaQ (QrR h.1 hg (fun he=>by cases he)) (QaJ h.2)
  ·exact h.elim
 | ⟨none,op,ty,pos,af,some (j,b)⟩::rest,σ,acc,h=>by unfold Qb7 at h;exact h.elim
theorem QvF {d:Tmp} {x:Operand} {ty:TypeId} {pos:String} {af:Array Edge} {o k:Id} {go g:Nat} {s:List Nat} {kvs:List (Value × T)} (hm:md=true) (hx:ev σ x=.ptr o go 0) (hgo:gg σ o=go) (ho:σ (.o o)=.itr k g s) (hgk:gg σ k=g) (hr:σ (.r k)=.tree (.mp kvs))
  (k1:∀ (i:Nat) (p:Value × T),kvs[i]? = some p→i∉s→Qb7 P ops C md K rest (Qaf σ [(.o o,.non),(.o o,.itr k g (s++[i])),(.s d,.av (.val (.tup [.sc (.bool true),.sc p.1,Qq4 .any (some p.2)])))]) ((rdl x++[.g o,.o o,.g k,.r k],[.o o,.o o,.s d])::acc))
  (k2:(∀ i,i<kvs.length→i∈s)→Qb7 P ops C md K rest (Qaf σ [(.s d,.av (.val (.tup [.sc (.bool false)])))]) ((rdl x++[.g o,.o o,.g k,.r k],[.s d])::acc)) :
  Run P ops C md K (⟨some d,.next x false,ty,pos,af,none⟩::rest) σ acc:=
 .alt (L:=rdl x++[.g o,.o o,.g k,.r k]) (Ws:=QBu o k g s kvs d) hm (fun E σ' a w Kt Q hd hr0 hg hK=>by
   rw [if_pos (by simp [Region.wanted])]
   exact Qvu hx hgo ho hgk hr E σ' a w Kt Q (hd d rfl) (QcS hr0) hg hK) fun W hW=>by
  rcases hW with ⟨i,p,h1,h2,rfl⟩ | ⟨h1,rfl⟩
  ·exact QaJ (k1 i p h1 h2)
  ·exact QaJ (k2 h1)
theorem Qn3 {d:Tmp} {F:FuncId} (hK:∀ args w,(callFunc F args).run P w=.ok (.enter F args) w) {xs:List Operand} {tys:Array TypeId} {args:List Arg} {objs objs':List (List CA)} {res:Arg} {ty:TypeId} {pos:String} {af:Array Edge}
  (hspec:Qan P F args objs res objs') (ids:List Id) {ts1 ts2:List Ho} (h1:MArgs σ ids (xs.map (ev σ)) args ts1) (h2:MObjs σ ids ids objs ts2) (hn:(ts1++ts2).Nodup∧Qd2 d ids objs'∧(objs'.length=objs.length∨objs'.length=objs.length+1))
  (k:Qb7 P ops C md K rest (Qaf σ (QbY σ d ids (ts1++ts2) objs' res)) ((QeN d xs ids (ts1++ts2) objs objs',QcP (QbY σ d ids (ts1++ts2) objs' res))::acc)) :
  Run P ops C md K (⟨some d,.call { callee:=.value (.func F),args:=xs.toArray,argTypes:=tys },ty,pos,af,none⟩::rest) σ acc:=
 QaQ (QmF hK hspec ids h1 h2 hn.1 hn.2.1 hn.2.2 ty pos af) (QaJ k)
theorem Qlq {j:Nat} {b:Bool} {d:Tmp} {F:FuncId} (hK:∀ args w,(callFunc F args).run P w=.ok (.enter F args) w) {xs:List Operand} {tys:Array TypeId} {args:List Arg} {objs objs':List (List CA)} {res:Arg} {ty:TypeId} {pos:String} {af:Array Edge}
  (hspec:Qan P F args objs res objs') (hd:((ops[j]?).bind (·.dst)).isSome=true) (hg:σ (.s (QbG ops j))=.av (.val (.sc (.bool b)))) (ids:List Id) {ts1 ts2:List Ho} (h1:MArgs σ ids (xs.map (ev σ)) args ts1) (h2:MObjs σ ids ids objs ts2) (hn:(ts1++ts2).Nodup∧Qd2 d ids objs'∧(objs'.length=objs.length∨objs'.length=objs.length+1))
  (k:Qb7 P ops C md K rest (Qaf σ (QbY σ d ids (ts1++ts2) objs' res)) ((.s (QbG ops j)::QeN d xs ids (ts1++ts2) objs objs',QcP (QbY σ d ids (ts1++ts2) objs' res))::acc)) :
  Run P ops C md K (⟨some d,.call { callee:=.value (.func F),args:=xs.toArray,argTypes:=tys },ty,pos,af,some (j,b)⟩::rest) σ acc:=
 QaQ (Qc5 hd hg (QmF hK hspec ids h1 h2 hn.1 hn.2.1 hn.2.2 ty pos af)) (QaJ k)
theorem QrS {d:Tmp} {F:FuncId} (hK:∀ args w,(callFunc F args).run P w=.ok (.enter F args) w) {f:Operand} {zs:List AV} (hf:ev σ f=.fn F zs∨(ev σ f=.val (.sc (.func (.func F) #[] #[]))∧zs=[])) {xs:List Operand} {tys:Array TypeId} {args:List Arg} {objs objs':List (List CA)} {res:Arg} {ty:TypeId} {pos:String} {af:Array Edge}
  (hspec:Qan P F args objs res objs') (ids:List Id) {ts1 ts2:List Ho} (h1:MArgs σ ids (xs.map (ev σ)++zs) args ts1) (h2:MObjs σ ids ids objs ts2) (hn:(ts1++ts2).Nodup∧Qd2 d ids objs'∧(objs'.length=objs.length∨objs'.length=objs.length+1))
  (k:Qb7 P ops C md K rest (Qaf σ (QbY σ d ids (ts1++ts2) objs' res)) ((rdl f++QeN d xs ids (ts1++ts2) objs objs',QcP (QbY σ d ids (ts1++ts2) objs' res))::acc)) :
  Run P ops C md K (⟨some d,.call { callee:=.value f,args:=xs.toArray,argTypes:=tys },ty,pos,af,none⟩::rest) σ acc:=
 QaQ (Qvp hK hf hspec ids h1 h2 hn.1 hn.2.1 hn.2.2 ty pos af) (QaJ k)
theorem Qde {d:Option Tmp} {op:Op} {ty:TypeId} {pos:String} {af:Array Edge} {st:Stp} {c:Prop} (hs:Qbl P C σ d op st) (he:st=some (c,L,W)) (hc:c) (k:Qb7 P ops C md K rest (Qaf σ W) ((L,QcP W)::acc)) :
  Run P ops C md K (⟨d,op,ty,pos,af,none⟩::rest) σ acc:=
 QaQ (hs c L W he hc ops ty pos af) (QaJ k)
end
def AW (P:Program) (C:Ctx) (c:Code) (σ:St) (Q:Exit→St→Prop):Prop:=∀ E a w,Gm C E σ a w→c.wp P (fun e a' w'=>∃ E' σ',Q e σ'∧Gm C E' σ' a' w') a w
def Qib (k:St→Prop) (Q:Exit→St→Prop):Exit→St→Prop
 | .normal,σ=>k σ
 | e,σ=>Q e σ
def Qg1 (id:Nat) (Q:Exit→St→Prop):Exit→St→Prop
 | .exit i,σ=>if i=id then Q .normal σ else Q (.exit i) σ
 | e,σ=>Q e σ
section
variable {P:Program} {C:Ctx} {σ:St} {Q:Exit→St→Prop}
theorem QyK (h:Q .normal σ):AW P C .skip σ Q:=fun E a w hg=>wp_skip ⟨E,σ,h,hg⟩
theorem QyL {i:Nat} (h:Q (.exit i) σ):AW P C (.exit i) σ Q:=fun E a w hg=>wp_exit ⟨E,σ,h,hg⟩
theorem QBC (h:Q .ret σ):AW P C .ret σ Q:=fun E a w hg=>wp_ret ⟨E,σ,h,hg⟩
theorem Qlr {x y:Code} (h:AW P C x σ (Qib (fun σ'=>AW P C y σ' Q) Q)):AW P C (.seq x y) σ Q:=fun E a w hg=>by
 apply wp_seq
 refine Code.wp_mono (fun e a' w' hq=>?_) (h E a w hg)
 obtain ⟨E',σ',h1,h2⟩:=hq
 cases e with
 | normal=>exact h1 E' a' w' h2
 | _=>exact ⟨E',σ',h1,h2⟩
theorem QyM {c:Operand} {x y:Code} {b:Bool} (hc:ev σ c=.val (.sc (.bool b))) (h1:b=true→AW P C x σ Q) (h2:b=false→AW P C y σ Q):AW P C (.cond c x y) σ Q:=fun E a w hg=>by
 have:=Qax hg c
 rw [hc] at this
 exact wp_cond_split (Rd.sc_eq this) (fun hb=>h1 hb E a w hg) (fun hb=>h2 hb E a w hg)
theorem QvG {id:Nat} {c:Code} (h:AW P C c σ (Qg1 id Q)):AW P C (.block id c) σ Q:=fun E a w hg=>by
 apply wp_block
 refine Code.wp_mono (fun e a' w' hq=>?_) (h E a w hg)
 obtain ⟨E',σ',h1,h2⟩:=hq
 cases e with
 | exit i=>
  simp only [Qg1,Exit.inBlock] at h1 ⊢
  split at h1
  ·rename_i hi;rw [if_pos hi];exact ⟨E',σ',h1,h2⟩
  ·rename_i hi;rw [if_neg hi];exact ⟨E',σ',h1,h2⟩
 | _=>exact ⟨E',σ',h1,h2⟩
theorem QrT {id:Nat} {l:List Oper} (hds:QdP C.nt l=true) (h:Qb7 P l.toArray C true (fun σ' _=>Q .normal σ') l σ []):AW P C (.region id l.toArray false) σ Q:=fun E a w hg=>
 wp_region_lit ((QaJ h).list hds (fun σ' fp E a w hk hg=>⟨E,σ',hk,hg⟩) E a w hg)
theorem QpK {id:Nat} {l:List Oper} (hm:P.follows .mixedOrders=true) (hds:QdP C.nt l=true) (h:Qb7 P l.toArray C false (fun σ' fp=>chk l fp=true∧Q .normal σ') l σ []):AW P C (.region id l.toArray true) σ Q:=fun E a w hg=>by
 obtain ⟨tr,σ',ht,hk⟩:=(QaJ h).tr
 exact Qjo hm ht (by simpa using hk.1) hds hg fun E a w hg=>⟨E,σ',hk.2,hg⟩
def base:St:=fun _=>.non
def Qja (L:List (Pl × X)):St:=Qaf base L
def QxI (σ:St):AV→AV→Prop
 | .ptr o g off,.ptr o' g' off'=>o'=o∧g'=0∧off'=off∧g=gg σ o
 | .val x,.val y=>Sub x y
 | _,_=>False
def Qkg (σ:St):List AV→List AV→Prop
 | [],[]=>True
 | x::xs,y::ys=>QxI σ x y∧Qkg σ xs ys
 | _,_=>False
def Qls (σ:St):AV→AV→Prop
 | .own k g e sz es,.own k' g' e' sz' es'=>k'=k∧g'=0∧e'=e∧sz'=sz∧es'=es∧g=gq σ k
 | .ptr o g off,.ptr o' g' off'=>o'=o∧g'=0∧off'=off∧g=gg σ o
 | .ref k g,.ref k' g'=>k'=k∧g'=0∧g=gh σ k
 | .elp k g sz i off,.elp k' g' sz' i' off'=>k'=k∧g'=0∧sz'=sz∧i'=i∧off'=off∧g=gh σ k
 | .vw k g sz off len,.vw k' g' sz' off' len'=>k'=k∧g'=0∧sz'=sz∧off'=off∧len'=len∧g=gh σ k
 | .fn K xs,.fn K' xs'=>K'=K∧Qkg σ xs xs'
 | x,.val y=>Sub (plain x) y
 | _,_=>False
def QvH (σ:St) (l:Pl):X→Prop
 | .av y=>match l with
  | .s t=>∃ x,σ (.s t)=.av x∧Qls σ x y
  | .c o i=>∃ x,σ (.c o i)=.av x∧Qls σ x y
  | _=>False
 | .num n=>∃ o,l=.o o∧σ (.o o)=.num n
 | .row e sz n=>∃ k,l=.k k∧σ (.k k)=.row e sz n
 | .tree x=>∃ k,l=.r k∧σ (.r k)=.tree x
 | .lent i y=>∃ k z,l=.l k∧σ (.l k)=.lent i z∧Qls σ z y
 | .itr k g s=>∃ o g',l=.o o∧σ (.o o)=.itr k g' s∧g'=gg σ k∧g=0
 | .non=>False
def Weak (σ:St):List (Pl × X)→Prop
 | []=>True
 | p::L=>QvH σ p.1 p.2∧Weak σ L
theorem Weak.mem:∀ {L:List (Pl × X)},Weak σ L→∀ p∈L,QvH σ p.1 p.2
 | _::_,h,p,hp=>by
  rcases List.mem_cons.1 hp with rfl | hp
  ·exact h.1
  ·exact Weak.mem h.2 p hp
theorem QyN (L:List (Pl × X)) (l:Pl):Qja L l=.non∨∃ x,(l,x)∈L∧Qja L l=x:=by
 by_cases h:l∈QcP L
 ·obtain ⟨x,h1,h2⟩:=Qj4 L base l h
  exact .inr ⟨x,h1,h2⟩
 ·exact .inl (Qcd _ _ _ h)
theorem Gm.weak {E:Env} {a:Act} {w:World} (h:Gm C E σ a w) {L:List (Pl × X)} (hw:Weak σ L):Gm C E (Qja L) a w:=by
 have hx:∀ l x,Qja L l=x→x≠.non→QvH σ l x:=fun l x h1 h2=>by
  rcases QyN L l with h3 | ⟨y,h3,h4⟩
  ·rw [h3] at h1;exact absurd h1.symm h2
  ·rw [h4] at h1;subst h1;exact hw.mem _ h3
 have hq:∀ k,gq (Qja L) k=0:=fun k=>by
  unfold gq
  split
  ·rename_i g hg
   obtain ⟨o,ho,_⟩:=hx _ _ hg (by simp)
   cases ho
  ·rfl
 have hgg:∀ k,gg (Qja L) k=0:=fun k=>by
  unfold gg
  split
  ·rename_i g hg
   obtain ⟨o,ho,_⟩:=hx _ _ hg (by simp)
   cases ho
  ·rfl
 have hO:∀ o n,Qja L (.o o)=.num n→σ (.o o)=.num n:=fun o n h1=>by
  obtain ⟨o',ho,h2⟩:=hx _ _ h1 (by simp)
  cases ho;exact h2
 have hK:∀ k e sz n,Qja L (.k k)=.row e sz n→σ (.k k)=.row e sz n:=fun k e sz n h1=>by
  obtain ⟨o',ho,h2⟩:=hx _ _ h1 (by simp)
  cases ho;exact h2
 have hgh:∀ k,gh (Qja L) k=0:=fun k=>by
  unfold gh
  split
  ·rename_i g hg
   obtain ⟨o,ho,_⟩:=hx _ _ hg (by simp)
   cases ho
  ·rfl
 have hR:∀ k x,Qja L (.r k)=.tree x→σ (.r k)=.tree x:=fun k x h1=>by
  obtain ⟨k',hk,h2⟩:=hx _ _ h1 (by simp)
  cases hk;exact h2
 have hP:∀ x y v,QxI σ x y→RdP E σ x v→RdP E (Qja L) y v:=fun x y v h1 h2=>by
  cases x with
  | val x=>
       cases y with
       | val y=>exact h1 _ _ h2
       | _=>exact h1.elim
  | ptr o g off=>
        cases y with
        | ptr o' g' off'=>
         obtain ⟨rfl,rfl,rfl,h3⟩:=h1
         exact ⟨by rw [hgg];exact Nat.le_refl _,fun _=>h2.2 h3⟩
        | _=>exact h1.elim
  | _=>cases y <;> exact h1.elim
 have hPs:∀ (xs ys:List AV) (vs:List Value),Qkg σ xs ys→vs.length=xs.length→(∀ (i:Nat) (h1:i<xs.length) (h2:i<vs.length),RdP E σ xs[i] vs[i])→vs.length=ys.length∧∀ (i:Nat) (h1:i<ys.length) (h2:i<vs.length),RdP E (Qja L) ys[i] vs[i]:=by
  intro xs
  induction xs with
  | nil=>
      intro ys vs h1 h2 h3;cases ys with
      | nil=>exact ⟨h2,fun i h=>by simp at h⟩
      | cons=>exact h1.elim
  | cons x xs ih=>
   intro ys vs h1 h2 h3
   cases ys with
   | nil=>exact h1.elim
   | cons y ys=>
    cases vs with
    | nil=>simp at h2
    | cons v vs=>
     obtain ⟨h4,h5⟩:=ih ys vs h1.2 (by simpa using h2) (fun i a b=>by have:=h3 (i+1) (by simpa using a) (by simpa using b);simpa using this)
     refine ⟨by simpa using h4,fun i a b=>?_⟩
     cases i with
     | zero=>exact hP _ _ _ h1.1 (h3 0 (by simp) (by simp))
     | succ i=>exact h5 i (by simpa using a) (by simpa using b)
 have hA:∀ x y v,Qls σ x y→RdA E σ x v→RdA E (Qja L) y v:=fun x y v h1 h2=>by
  cases y with
  | val y=>
   cases x with
   | _=>exact h1 _ _ (Qc2 h2)
  | own k' g' e' sz' es'=>
   cases x with
   | own k g e sz es=>
    obtain ⟨rfl,rfl,rfl,rfl,rfl,h3⟩:=h1
    refine ⟨h2.1,by rw [hq];exact Nat.le_refl _,fun _ e1 s1 T1 h4=>(h2.2.2 h3) e1 s1 T1 (hK _ _ _ _ h4)⟩
   | _=>exact h1.elim
  | ptr o' g' off'=>
   cases x with
   | ptr o g off=>
    obtain ⟨rfl,rfl,rfl,h3⟩:=h1
    exact ⟨by rw [hgg];exact Nat.le_refl _,fun _=>h2.2 h3⟩
   | _=>exact h1.elim
  | ref k' g'=>
   cases x with
   | ref k g=>
    obtain ⟨rfl,rfl,h3⟩:=h1
    exact ⟨by rw [hgh];exact Nat.le_refl _,fun _=>h2.2 h3⟩
   | _=>exact h1.elim
  | elp k' g' sz' i' off'=>
   cases x with
   | elp k g sz i off=>
    obtain ⟨rfl,rfl,rfl,rfl,rfl,h3⟩:=h1
    exact ⟨by rw [hgh];exact Nat.le_refl _,fun _=>h2.2 h3⟩
   | _=>exact h1.elim
  | cp=>cases x <;> exact h1.elim
  | pv=>cases x <;> exact h1.elim
  | nv=>cases x <;> exact h1.elim
  | vw k' g' sz' off' len'=>
   cases x with
   | vw k g sz off len=>
    obtain ⟨rfl,rfl,rfl,rfl,rfl,h3⟩:=h1
    exact ⟨by rw [hgh];exact Nat.le_refl _,fun _=>h2.2 h3⟩
   | _=>exact h1.elim
  | fn K' xs'=>
   cases x with
   | fn K xs=>
    obtain ⟨rfl,h3⟩:=h1
    obtain ⟨ys,rfl,h4,h5⟩:=h2
    obtain ⟨h6,h7⟩:=hPs xs xs' ys h3 h4 h5
    exact ⟨ys,rfl,h6,h7⟩
   | _=>exact h1.elim
  | ag xs=>cases x <;> exact h1.elim
 refine ⟨h.sz,h.df,h.ms,h.fr,fun t x h1=>?_,fun o i x n h1 h2 h3=>?_,fun o n h1=>h.ob o n (hO _ _ h1),fun k e s T h1=>h.ro k e s T (hK _ _ _ _ h1),fun o o' n n' h1 h2=>h.oo o o' n n' (hO _ _ h1) (hO _ _ h2),
  fun k k' e s T e' s' T' b h1 h2=>h.rr k k' e s T e' s' T' b (hK _ _ _ _ h1) (hK _ _ _ _ h2),fun o n k e s T h1 h2=>h.or o n k e s T (hO _ _ h1) (hK _ _ _ _ h2),h.pi,h.ml,h.mx,
  ⟨fun k x h1=>h.tr.hg k x (hR _ _ h1),fun k x b h1 h2=>h.tr.dd k x b (hR _ _ h1) h2,fun k xs h1=>h.tr.bx k xs (hR _ _ h1),fun k k' x x' b h1 h2 h3 h4=>h.tr.tt k k' x x' b (hR _ _ h1) (hR _ _ h2) h3 h4,
   fun o n k x h1 h2 h3=>h.tr.ot o n k x (hO _ _ h1) (hR _ _ h2) h3,fun k' e s T k x b h1 h2 h3 h4=>h.tr.tk k' e s T k x b (hK _ _ _ _ h1) (hR _ _ h2) h3 h4,fun k x i y h1 h2=>?_,fun o k g s h1=>?_,fun o o' k g s k' g' s' h1 h2 h3=>?_⟩⟩
 ·obtain ⟨y,h2,h3⟩:=hx _ _ h1 (by simp)
  exact hA _ _ _ h3 (h.sl t y h2)
 ·obtain ⟨y,h4,h5⟩:=hx _ _ h1 (by simp)
  obtain ⟨v,hv,hr⟩:=h.ce o i y n h4 (hO _ _ h2) h3
  exact ⟨v,hv,hA _ _ _ h5 hr⟩
 ·obtain ⟨k',z,hk,h3,h4⟩:=hx _ _ h2 (by simp)
  cases hk
  obtain ⟨v,h5,h6⟩:=h.tr.le k x i z (hR _ _ h1) h3
  exact ⟨v,h5,hA _ _ _ h4 h6⟩
 ·obtain ⟨o',g',ho,h2,h3,rfl⟩:=hx _ _ h1 (by simp)
  cases ho
  obtain ⟨mb,n,bs,l,h4,h5,h6,h7⟩:=h.tr.it o k g' s h2
  exact ⟨mb,n,bs,l,h4,h5,Nat.zero_le _,fun _ x hx=>h7 h3 x (hR _ _ hx)⟩
 ·obtain ⟨p,q,ho,h4,_⟩:=hx _ _ h1 (by simp)
  cases ho
  obtain ⟨p',q',ho,h5,_⟩:=hx _ _ h2 (by simp)
  cases ho
  exact h.tr.ii o o' k q s k' q' s' h4 h5 h3
theorem QmJ {c:Code} (L:List (Pl × X)) (hw:Weak σ L) (h:AW P C c (Qja L) Q):AW P C c σ Q:=fun E a w hg=>h E a w (hg.weak hw)
theorem QyO {α:Type} {c:Code} (I:α→List (Pl × X)) (μ:α→Nat) (x:α) (hx:Weak σ (I x)) (round:∀ x,AW P C c (Qja (I x)) (Qib (fun σ'=>∃ y,Weak σ' (I y)∧μ y<μ x) Q)):AW P C (.loop c) σ Q:=by
 intro E a w hg b k cs
 have key:∀ n x E a w,μ x=n→Gm C E (Qja (I x)) a w→∃ e a' w',(∃ E' σ',Q e σ'∧Gm C E' σ' a' w')∧Arrives P (lone (b.at a (.code c :: .inLoop c::k)) cs w) b k cs e a' w':=by
  intro n
  induction n using Nat.strongRecOn with
  | _ n ih=>
   intro x E a w hn hI
   obtain ⟨e,a₁,w₁,⟨E1,σ1,hq,hG⟩,harr⟩:=round x E a w hI b (.inLoop c::k) cs
   cases e with
   | normal=>
    obtain ⟨y,hy,hlt⟩:=hq
    obtain ⟨e₂,a₂,w₂,hq₂,harr₂⟩:=ih (μ y) (hn ▸ hlt) y E1 a₁ w₁ rfl (hG.weak hy)
    exact ⟨e₂,a₂,w₂,hq₂,.of_steps (Steps.trans harr (.one step_inLoop)) harr₂⟩
   | exit id=>exact ⟨_,a₁,w₁,⟨E1,σ1,hq,hG⟩,.pass (x:=.inLoop c) rfl (fun _ _=>.inl (by simp)) harr⟩
   | goto l=>exact ⟨_,a₁,w₁,⟨E1,σ1,hq,hG⟩,.pass (x:=.inLoop c) rfl (fun _ _=>.inl (by simp)) harr⟩
   | ret=>exact ⟨_,a₁,w₁,⟨E1,σ1,hq,hG⟩,.pass (x:=.inLoop c) rfl (fun _ _=>.inl (by simp)) harr⟩
   | panic ch=>exact ⟨_,a₁,w₁,⟨E1,σ1,hq,hG⟩,.pass (x:=.inLoop c) rfl (fun _ _=>.inl (by simp)) harr⟩
   | outgrown=>exact ⟨_,a₁,w₁,⟨E1,σ1,hq,hG⟩,.pass (x:=.inLoop c) rfl (fun _ _=>.inl (by simp)) harr⟩
 obtain ⟨e,a',w',h1,h2⟩:=key (μ x) x E a w rfl (hg.weak hx)
 exact ⟨e,a',w',h1,.of_steps (.one step_loop) h2⟩
end
end Go.Proofs.YthfocmakkeonoaaGreatDoor
namespace Go.Proofs.YthfocmakkeonoaaGreatDoor
open Go.RowKit
def Qgn:Nat→Nat→List Id
 | _,0=>[]
 | i,n+1=>(1000+i,0)::Qgn (i+1) n
theorem Qfb:∀ (n i j:Nat),(Qgn i n)[j]? = if j<n then some (1000+(i+j),0) else none
 | 0,i,j=>by simp [Qgn]
 | n+1,i,0=>by simp [Qgn]
 | n+1,i,j+1=>by
  show (Qgn (i+1) n)[j]? = _
  rw [Qfb n (i+1) j,show i+1+j=i+(j+1) by omega]
  by_cases h:j<n
  ·rw [if_pos h,if_pos (by omega)]
  ·rw [if_neg h,if_neg (by omega)]
theorem QdF:∀ (n i:Nat),(Qgn i n).length=n
 | 0,_=>rfl
 | n+1,i=>by simp [Qgn,QdF n]
theorem QpL (n:Nat):(Qgn 0 n).Nodup:=by
 rw [List.nodup_iff_pairwise_ne,List.pairwise_iff_getElem]
 intro i j hi hj hij he
 have h1:(Qgn 0 n)[i]? = some (Qgn 0 n)[i]:=by simp [hi]
 have h2:(Qgn 0 n)[j]? = some (Qgn 0 n)[j]:=by simp [hj]
 rw [QdF] at hi hj
 rw [Qfb,if_pos hi] at h1
 rw [Qfb,if_pos hj] at h2
 rw [←he,←h1] at h2
 simp at h2
 omega
theorem QvI {n:Nat} {o:Id} (h:o∈Qgn 0 n):∃ i,i<n∧o=(1000+i,0):=by
 obtain ⟨i,hi⟩:=List.getElem?_of_mem h
 rw [Qfb] at hi
 split at hi
 ·rename_i hl;cases hi;exact ⟨i,hl,by rw [Nat.zero_add]⟩
 ·cases hi
def QBD (σ:St):FC→AV
 | .val x=>.val x
 | .ptr i off=>.ptr (1000+i,0) (gg σ (1000+i,0)) off
def QyP (σ:St) (t:Nat):Arg→List (Pl × X)
 | .ca (.own e sz es)=>[(.q (t,0),.num (gq σ (t,0)+1)),(.k (t,0),.row e sz es.length)]
 | .ca (.hd x)=>QaA σ (t,1) x
 | _=>[]
def QvJ (σ:St) (t:Nat):Arg→AV
 | .ca (.val x)=>.val x
 | .ca (.own e sz es)=>.own (t,0) (gq σ (t,0)+1) e sz es
 | .ca (.hd x)=>QeV σ (t,1) x
 | .ca (.hdl _ _ _)=>.val .any
 | .ptr i off=>.ptr (1000+i,0) (gg σ (1000+i,0)) off
 | .fn K cs=>.fn K (cs.map (QBD σ))
def Qg2 (σ:St) (t:Nat) (x:Arg):List (Pl × X):=QyP σ t x++[(.s t,.av (QvJ σ t x))]
def QrU:St→Nat→List Arg→List (Pl × X)
 | _,_,[]=>[]
 | σ,t,x::xs=>Qg2 σ t x++QrU (Qaf σ (Qg2 σ t x)) (t+1) xs
def QyQ (args:List Arg) (objs:List (List CA)):List (Pl × X):=
 QcH (Qgn 0 objs.length) base (Qgn 0 objs.length) objs++QrU (Qaf base (QcH (Qgn 0 objs.length) base (Qgn 0 objs.length) objs)) 0 args
def QBE (args:List Arg) (objs:List (List CA)):St:=Qaf base (QyQ args objs)
section
variable {P:Program} {C:Ctx} {σ:St} {E:Env} {a:Act} {w:World}
theorem Gm.knows (h:Gm C E σ a w) (t:Nat) (x:AV) (v:Value) (ht:t<C.nt) (hv:a.tmps.getD t undef=v) (hx:RdA E σ x v):Gm C E (put σ (.s t) (.av x)) a w:=by
 have h1:=h.slot t x v ht hx
 have:a.put (some t) v=a:=by
  have hlt:t<a.tmps.size:=by rw [h.sz];exact ht
  have hs:a.tmps.setIfInBounds t v=a.tmps:=by
   apply Array.ext
   ·simp
   ·intro i h1 h2
    rw [Array.getElem_setIfInBounds (by simpa using h2)]
    split
    ·rename_i he;subst he;rw [←hv];simp [Array.getD_eq_getD_getElem?,hlt]
    ·rfl
  cases a
  simp only [Act.put] at hs ⊢
  rw [hs]
 rwa [this] at h1
theorem QrV (bs:List Nat):∀ (args:List Arg) (vs:List Value) (F:List Nat) (t:Nat) (E:Env) (σ:St),Gm C E σ a w→ArgsOk E.m w bs args vs F→(∀ (j:Nat) (v:Value),vs[j]? = some v→t+j<C.nt∧a.tmps.getD (t+j) undef=v)→t+args.length≤1000 →
  (∀ (i b:Nat),bs[i]? = some b→E.loc (1000+i,0)=b)→(∀ b∈F,(C.D b∨C.w0.heap.size≤b)∧¬Qbm E σ b)→∃ E',Gm C E' (Qaf σ (QrU σ t args)) a w
 | [],vs,F,t,E,σ,hg,hA,_,_,_,_=>by cases hA;exact ⟨E,hg⟩
 | x::args,vs,F,t,E,σ,hg,hA,hv,ht,hloc,hb=>by
  cases hA with
  | @cons _ v F1 _ vs F2 h hs hd=>
   obtain ⟨hv1,hv2⟩:=hv 0 v rfl
   have hone:∃ E1,Gm C E1 (Qaf σ (QyP σ t x)) a w∧E1.m=E.m∧(∀ i:Nat,E1.loc (1000+i,0)=E.loc (1000+i,0))∧(∀ b,Qbm E1 (Qaf σ (QyP σ t x)) b→Qbm E σ b∨b∈F1)∧RdA E1 (Qaf σ (QyP σ t x)) (QvJ σ t x) v:=by
    have hp:∀ i off b,bs[i]? = some b→RdP E σ (.ptr (1000+i,0) (gg σ (1000+i,0)) off) (.pointer (some ⟨b,off,none⟩)):=fun i off b hi=>⟨Nat.le_refl _,fun _=>by rw [hloc i b hi]⟩
    cases x with
    | ca c=>
     cases c with
     | val y=>obtain ⟨h1,rfl⟩:=h;exact ⟨E,hg,rfl,fun _=>rfl,fun b h=>.inl h,h1⟩
     | own e sz es=>
      obtain ⟨⟨p1,ys,p2,p3⟩,rfl⟩:=h
      obtain ⟨E1,f1,f2,f3,f4,f5,f6⟩:=hg.gainRow (t,0) (gq σ (t,0)+1) (by omega) e sz es.length v ys p2 (fun b hb'=>⟨p3 b hb',hb b (List.mem_append_left _ (by simpa using hb'))⟩)
      exact ⟨E1,f1,f3,fun i=>by rw [f4],fun b hL=>(f5 b hL).imp id fun h=>by simpa using h,f6 es rfl p1⟩
     | hd y=>
      obtain ⟨p1,p2⟩:=h
      obtain ⟨E1,f1,f2,f3,f4,f5,f6⟩:=hg.gainTree (t,1) y v F1 p2 p1 (fun b hb'=>hb b (List.mem_append_left _ hb')) (by simp)
      exact ⟨E1,f1,f3,fun i=>f4 _ (by simp),f5,f6.toA⟩
     | hdl y i ob=>exact ⟨E,hg,rfl,fun _=>rfl,fun b h=>.inl h,Rd.any _⟩
    | ptr i off=>
     obtain ⟨⟨b,h1,rfl⟩,rfl⟩:=h
     exact ⟨E,hg,rfl,fun _=>rfl,fun b h=>.inl h,(hp i off b h1).toA⟩
    | fn K cs=>
     obtain ⟨⟨ys,rfl,q4,q5⟩,rfl⟩:=h
     refine ⟨E,hg,rfl,fun _=>rfl,fun b h=>.inl h,⟨ys,rfl,by simpa using q4,fun i h1 h2=>?_⟩⟩
     have hic:i<cs.length:=by simpa using h1
     have:=q5 i cs[i] ys[i] (by simp [hic]) (by simp [h2])
     rw [List.getElem_map]
     generalize cs[i]=c at this ⊢
     generalize ys[i]=y at this ⊢
     cases c with
     | val x=>exact this
     | ptr i off=>
      obtain ⟨b,q6,rfl⟩:=this
      exact hp i off b q6
   obtain ⟨E1,g1,g2,g3,g4,g5⟩:=hone
   have g6:=g1.knows t _ v hv1 hv2 g5
   have e0:Qaf σ (Qg2 σ t x)=put (Qaf σ (QyP σ t x)) (.s t) (.av (QvJ σ t x)):=by unfold Qg2;rw [Qal];rfl
   rw [←e0] at g6
   have hL:∀ b,Qbm E1 (Qaf σ (Qg2 σ t x)) b→Qbm E1 (Qaf σ (QyP σ t x)) b:=fun b ⟨u,hu⟩=>⟨u,by
    rw [e0] at hu
    cases u with
    | o i=>obtain ⟨n,h1,h2⟩:=hu;rw [Qag _ _ (by simp)] at h1;exact ⟨n,h1,h2⟩
    | k i=>obtain ⟨e,s,T,h1,h2⟩:=hu;rw [Qag _ _ (by simp)] at h1;exact ⟨e,s,T,h1,h2⟩
    | r i=>obtain ⟨y,h1,h2⟩:=hu;rw [Qag _ _ (by simp)] at h1;exact ⟨y,h1,h2⟩⟩
   obtain ⟨E',hE'⟩:=QrV bs args vs F2 (t+1) E1 _ g6 (by rw [g2];exact hs) (fun j u hj=>by have:=hv (j+1) u (by simpa using hj);rwa [show t+(j+1)=t+1+j by omega] at this) (by simp at ht;omega) (fun i b hi=>by rw [g3];exact hloc i b hi)
    (fun b hF=>⟨(hb b (List.mem_append_right _ hF)).1,fun hl=>by
     rcases g4 b (hL b hl) with h1 | h1
     ·exact (hb b (List.mem_append_right _ hF)).2 h1
     ·exact hd b h1 hF⟩)
   refine ⟨E',?_⟩
   show Gm C E' (Qaf σ (Qg2 σ t x++QrU (Qaf σ (Qg2 σ t x)) (t+1) args)) a w
   rw [Qal]
   exact hE'
end
inductive Qic (P:Program) (σ:St):ResultVar→AV→Prop where
 | tmp (t:Nat):Qic P σ (.tmp t) (ev σ (.tmp t))
 | agg (t:Nat) (ty:TypeId) (o:Id) (g n:Nat) (T:TI) (h1:ev σ (.tmp t)=.ptr o g 0) (h2:gg σ o=g) (h3:σ (.o o)=.num n) (h4:Qao P ty=some T) (h5:T.agg=true) (h6:T.size≤n):Qic P σ (.cell t ty) (.val (.agg (QeS σ o 0 T.size)))
 | one (t:Nat) (ty:TypeId) (o:Id) (g n:Nat) (T:TI) (h1:ev σ (.tmp t)=.ptr o g 0) (h2:gg σ o=g) (h3:σ (.o o)=.num n) (h4:Qao P ty=some T) (h5:T.agg=false) (h6:0<n):Qic P σ (.cell t ty) (Qbj σ o 0)
inductive Qgx (P:Program) (σ:St):List ResultVar→List AV→Prop where
 | nil:Qgx P σ [] []
 | cons {r rs x xs} (h:Qic P σ r x) (hs:Qgx P σ rs xs):Qgx P σ (r::rs) (x::xs)
inductive QBF (P:Program) (σ:St):List ResultVar→AV→Prop where
 | one {r x} (h:Qic P σ r x):QBF P σ [r] x
 | many {rs xs} (h:Qgx P σ rs xs) (hn:rs.length≠1):QBF P σ rs (.val (.tup (xs.map plain)))
section
variable {P:Program} {C:Ctx} {σ:St} {E:Env} {a:Act} {w:World}
theorem Qjw (hg:Gm C E σ a w) {r:ResultVar} {x:AV} (h:Qic P σ r x):∃ v,(Qfp a.tmps r).run P w=.ok v w∧RdA E σ x v:=by
 cases h with
 | tmp t=>exact ⟨_,Qyt t,Qax hg (.tmp t)⟩
 | agg t ty o g n T h1 h2 h3 h4 h5 h6=>
  have hp:=Qax hg (.tmp t)
  rw [h1] at hp
  have hp:a.tmps.getD t undef=_:=hp.2 h2.symm
  have hcell:∀ j,j<T.size→∃ v,w.cell? ⟨E.loc o,0+j,none⟩=some v∧Rd E.m (plain (Qbj σ o (0+j))) v:=fun j hj=>by
   obtain ⟨v,hv,hrd⟩:=Qdk hg (o:=o) (n:=n) (i:=0+j) h3 (by omega)
   exact ⟨v,hv,Qc2 hrd⟩
  obtain ⟨f,hf⟩:∃ f:Nat→Value,∀ j,j<T.size→w.cell? ⟨E.loc o,0+j,none⟩=some (f j)∧Rd E.m (plain (Qbj σ o (0+j))) (f j):=
   ⟨fun j=>if h:j<T.size then (hcell j h).choose else undef,fun j h=>by simp only [dif_pos h];exact (hcell j h).choose_spec⟩
  have hl:=run_loadCells (P:=P) w ⟨E.loc o,0,none⟩ T.size f (fun j hj=>by rw [QaF];exact (hf j hj).1)
  have hp':a.tmps[t]?.getD undef=.pointer (some ⟨E.loc o,0,none⟩):=by simpa using hp
  refine ⟨.agg ((List.range T.size).map f).toArray,by simp [Qfp,hp',asAddr,loadVar,Qbp h4,h5,QaH h4,hl],?_⟩
  refine Rd.agg _ _ (by simp [QbW]) (fun j hj=>?_)
  rw [Qgs]
  rw [QbW] at hj
  simpa using (hf j hj).2
 | one t ty o g n T h1 h2 h3 h4 h5 h6=>
  have hp:=Qax hg (.tmp t)
  rw [h1] at hp
  have hp:a.tmps.getD t undef=_:=hp.2 h2.symm
  have hp':a.tmps[t]?.getD undef=.pointer (some ⟨E.loc o,0,none⟩):=by simpa using hp
  obtain ⟨v,hv,hrd⟩:=Qdk hg (o:=o) (n:=n) (i:=0) h3 h6
  exact ⟨v,by simp [Qfp,hp',asAddr,loadVar,Qbp h4,h5,hv],hrd⟩
theorem QmK (hg:Gm C E σ a w) {rs:List ResultVar} {xs:List AV} (h:Qgx P σ rs xs):∃ vs:List Value,(rs.mapM (Qfp a.tmps)).run P w=.ok vs w∧vs.length=xs.length∧rs.length=xs.length∧∀ (i:Nat) (h1:i<xs.length) (h2:i<vs.length),RdA E σ xs[i] vs[i]:=by
 induction h with
 | nil=>exact ⟨[],by simp,rfl,rfl,fun i h=>by simp at h⟩
 | cons h _ ih=>
  obtain ⟨v,h1,h2⟩:=Qjw hg h
  obtain ⟨vs,h3,h4,h5,h6⟩:=ih
  refine ⟨v::vs,?_,by simp [h4],by simp [h5],fun i k1 k2=>?_⟩
  ·rw [List.mapM_cons]
   simp only [Sem.run_bind,h1,h3,Result.andThen_ok,Sem.run_pure]
  ·cases i with
   | zero=>exact h2
   | succ i=>exact h6 i (by simpa using k1) (by simpa using k2)
theorem QvK {fn:Func} (hg:Gm C E σ a w) {x:AV} (h:QBF P σ fn.results.toList x):∃ v,(results fn a.tmps).run P w=.ok v w∧RdA E σ x v:=by
 have e:results fn a.tmps=(do let vs ←fn.results.mapM (Qfp a.tmps);pure (if h:vs.size=1 then vs[0] else .tuple vs)):=by
  unfold results;rfl
 generalize hrs:fn.results.toList=rs at h
 have hm:fn.results.mapM (Qfp a.tmps)=(do pure (←rs.mapM (Qfp a.tmps)).toArray):=by
  rw [Array.mapM_eq_mapM_toList,hrs]
  simp
 cases h with
 | one h=>
  obtain ⟨v,h1,h2⟩:=Qjw hg h
  exact ⟨v,by rw [e,hm];simp [h1],h2⟩
 | many h hn=>
  rename_i xs
  obtain ⟨vs,h1,h2,h3,h4⟩:=QmK hg h
  refine ⟨.tuple vs.toArray,?_,Rd.tup _ _ (by simp [h2]) fun i hi=>?_⟩
  ·rw [e,hm]
   simp only [Sem.run_bind,h1,Result.andThen_ok,Sem.run_pure]
   rw [dif_neg (by simp;omega)]
  ·have hi':i<xs.length:=by simpa using hi
   have:=Qc2 (h4 i hi' (by omega))
   simpa using this
def Qid (P:Program) (σ:St) (rs:List ResultVar) (n:Nat) (res:Arg) (objs':List (List CA)):Prop:=
 ∃ (x:AV) (fresh:List Id) (ts1 ts2:List Ho),QBF P σ rs x∧MArgs σ (Qgn 0 n++fresh) [x] [res] ts1∧MObjs σ (Qgn 0 n++fresh) (Qgn 0 n++fresh) objs' ts2∧(ts1++ts2).Nodup
def QDt (P:Program) (rs:List ResultVar) (n:Nat) (res:Arg) (objs':List (List CA)):Exit→St→Prop
 | .ret,σ=>Qid P σ rs n res objs'
 | .normal,σ=>Qid P σ rs n res objs'
 | _,_=>False
theorem QpM {K:FuncId} {fn:Func} {c:Code} (hf:P.funcs[K]? = some fn) (hb:fn.body=some c) {args:List Arg} {objs:List (List CA)} {res:Arg} {objs':List (List CA)} (hn:fn.ntmps≤1000∧args.length≤fn.ntmps)
  (h:∀ C:Ctx,C.nt=fn.ntmps→AW P C c (QBE args objs) (QDt P fn.results.toList objs.length res objs')):Qan P K args objs res objs':=by
 intro m w vals bs F G hH
 have hvl:=hH.ar.len
 have hbl:=hH.ob.len
 obtain ⟨C,hC⟩:∃ C:Ctx,C = { nt:=fn.ntmps,w0:=w,D:=fun b=>b∈F++G,pins:=fun o=>if 1000≤o.1∧o.2=0 then bs[o.1-1000]? else none,m0:=m,np:=fun d hd=>by rw [if_neg];simp;omega,nq:=fun k hk=>by rw [if_neg];intro h;exact hk h.2 }:=⟨_,rfl⟩
 have c1:C.nt=fn.ntmps:=by rw [hC]
 have c2:C.w0=w:=by rw [hC]
 have c3:∀ b,C.D b↔b∈F++G:=fun b=>by rw [hC]
 have c4:∀ o,C.pins o=if 1000≤o.1∧o.2=0 then bs[o.1-1000]? else none:=fun o=>by rw [hC]
 have c5:C.m0=m:=by rw [hC]
 clear hC
 obtain ⟨E,hE⟩:∃ E:Env,E = { m:=m,loc:=fun o=>if 1000≤o.1∧o.2=0 then bs.getD (o.1-1000) 0 else 0,rv:=fun _=>undef,rx:=fun _=>[],bv:=fun _=>undef,bf:=fun _=>[] }:=⟨_,rfl⟩
 have e1:E.m=m:=by rw [hE]
 have e2:∀ (i b:Nat),bs[i]? = some b→E.loc (1000+i,0)=b:=fun i b hb=>by rw [hE];simp [hb]
 have e3:∀ o,E.loc o=if 1000≤o.1∧o.2=0 then bs.getD (o.1-1000) 0 else 0:=fun o=>by rw [hE]
 clear hE
 have nob:∀ (b:Nat),¬Qbm E base b:=fun b ⟨t,ht⟩=>by
  cases t with
  | o i=>obtain ⟨n,h1,_⟩:=ht;cases h1
  | k i=>obtain ⟨e,s,T,h1,_⟩:=ht;cases h1
  | r i=>obtain ⟨y,h1,_⟩:=ht;cases h1
 have hG0:Gm C E base { tmps:=vals.toArray++Array.replicate (fn.ntmps-vals.toArray.size) undef,defers:=[] } w:=by
  refine ⟨by simp [c1];omega,rfl,by rw [e1];exact hH.ms,by rw [c2];exact Chg.refl _ _,fun t x hx=>(by cases hx),fun o i x n h1 _ _=>(by cases h1),fun o n h1=>(by cases h1),fun k e s T h1=>(by cases h1),fun o o' n n' h1 _ _=>(by cases h1),fun k k' e s T e' s' T' b h1 _ _ _=>(by cases h1),fun o n k e s T h1 _ _=>(by cases h1),fun o b h1=>?_,by rw [c5,e1];exact Mem.le_refl _,fun b i _ _=>by rw [c5,e1],
   ⟨fun k x h1=>(by cases h1),fun k x b h1 _=>(by cases h1),fun k xs h1=>(by cases h1),fun k k' x x' b h1 _ _ _=>(by cases h1),fun o n k x h1 _ _=>(by cases h1),fun k' e s T k x b h1 _ _ _=>(by cases h1),fun k x i y h1 _=>(by cases h1),fun o k g s h1=>(by cases h1),fun o o' k g s k' g' s' h1 _ _=>(by cases h1)⟩⟩
  rw [c4] at h1
  rw [e3]
  split at h1
  ·rename_i hpq;rw [if_pos hpq];simp [h1]
  ·cases h1
 have hD:∀ b∈F++G,C.D b∨C.w0.heap.size≤b:=fun b hb=>.inl ((c3 b).2 hb)
 have hpl:∀ (i:Nat) (o:Id) (b:Nat),(Qgn 0 objs.length)[i]? = some o→bs[i]? = some b→E.loc o=b:=fun i o b h1 h2=>by
  rw [Qfb] at h1
  split at h1
  ·cases h1;rw [Nat.zero_add];exact e2 i b h2
  ·cases h1
 obtain ⟨E1,g1,_,g3,g4,g5⟩:=Qj5 (C:=C) (Qgn 0 objs.length) bs (Qgn 0 objs.length) objs bs G E base hG0 (by rw [e1];exact hH.ob) (QdF _ _) (QpL _) (fun o h=>h) hpl hpl
  (fun k hk hk'=>by
   have hne:∀ (ids:List Id) (objs:List (List CA)),∀ k∈Qcv ids objs,k.2≠0:=by
    intro ids
    induction ids with
    | nil=>intro objs k h;cases h
    | cons o ids ih=>
     intro objs k h
     cases objs with
     | nil=>cases h
     | cons cs objs=>
      rcases List.mem_append.1 h with h | h
      ·exact QfF _ _ _ _ h
      ·exact ih _ _ h
   obtain ⟨i,_,rfl⟩:=QvI hk'
   exact hne _ _ _ hk rfl)
  (fun b hb=>⟨hD b (List.mem_append_right _ hb),nob b⟩)
 obtain ⟨E2,g6⟩:=QrV (C:=C) (a:={ tmps:=vals.toArray++Array.replicate (fn.ntmps-vals.toArray.size) undef,defers:=[] }) bs args vals F 0 E1 _ g1 (by rw [g3,e1];exact hH.ar)
  (fun j v hj=>by
   have hjl:=(List.getElem?_eq_some_iff.1 hj).1
   refine ⟨by rw [c1];omega,?_⟩
   rw [Nat.zero_add]
   obtain ⟨_,rfl⟩:=List.getElem?_eq_some_iff.1 hj
   simp [Array.getD_eq_getD_getElem?,Array.getElem?_append,hjl]) (by omega)
  (fun i b hi=>by
   have hil:i<objs.length:=by have:=(List.getElem?_eq_some_iff.1 hi).1;omega
   rw [(g4 (1000+i,0) (List.mem_of_getElem? (i:=i) (by rw [Qfb,if_pos hil,Nat.zero_add]))).1];exact e2 i b hi)
  (fun b hb=>⟨hD b (List.mem_append_left _ hb),fun hL=>by
   rcases g5 b hL with h1 | h1
   ·exact nob b h1
   ·exact hH.di b hb h1⟩)
 have hG:Gm C E2 (QBE args objs) { tmps:=vals.toArray++Array.replicate (fn.ntmps-vals.toArray.size) undef,defers:=[] } w:=by
  unfold QBE QyQ;rw [Qal];exact g6
 clear g6 g5 g4 g3 g1
 have hwp:=h C c1 E2 _ w hG
 refine calls_of_wp hf hb (Code.wp_mono (fun e a' w' hq=>?_) hwp)
 obtain ⟨E',σ',hq,hG'⟩:=hq
 have main:Qid P σ' fn.results.toList objs.length res objs'→a'.defers=[]∧∃ v,(results fn a'.tmps).run P w'=.ok v w'∧∃ (v':Value) (m':Mem) (bs' F' G':List Nat),Ending.returned v=.returned v'∧Holds m' w' [v'] [res] objs' bs' F' G'∧m.le m' ∧
   Chg (fun b=>b∈F++G) w w'∧(∀ (i b:Nat),bs[i]? = some b→bs'[i]? = some b)∧(∀ (b i:Nat),b<w.heap.size→b∉F++G→m' b i=m b i)∧∀ b∈F'++G',b∈F++G∨w.heap.size≤b:=by
  rintro ⟨x,fresh,ts1,ts2,hr,hma,hmo,hnd⟩
  obtain ⟨v,hv,hrv'⟩:=QvK hG' hr
  obtain ⟨_,F',G',hH',hOw⟩:=QnZ hG' hma hmo [v] rfl (fun j y u q1 q2=>by
   cases j with
   | zero=>simp at q1 q2;subst q1;subst q2;exact hrv'
   | succ j=>simp at q1) hnd
  refine ⟨hG'.df,v,hv,v,E'.m,_,F',G',rfl,hH',by have:=hG'.ml;rwa [c5] at this,?_,fun i b hb=>?_,fun b i hb hn=>?_,fun b hb=>?_⟩
  ·have:=hG'.fr
   rw [c2] at this
   exact this.mono fun i _ hi=>(c3 i).1 hi
  ·have hil:i<objs.length:=by have:=(List.getElem?_eq_some_iff.1 hb).1;omega
   rw [List.getElem?_map,List.getElem?_append_left (by rw [QdF];exact hil),Qfb,if_pos hil]
   simp only [Option.map_some,Nat.zero_add,Option.some.injEq]
   exact hG'.pi (1000+i,0) b (by rw [c4];simp [hb])
  ·have:=hG'.mx b i (by rw [c2];exact hb) (by rw [c3];exact hn)
   rw [this,c5]
  ·obtain ⟨t,_,ht⟩:=hOw b hb
   have:=(hG'.ho_dd ht).2
   rwa [c3,c2] at this
 cases e with
 | ret=>exact main hq
 | normal=>exact main hq
 | exit i=>exact hq.elim
 | goto l=>exact hq.elim
 | panic ch=>exact hq.elim
 | outgrown=>exact hq.elim
end
end Go.Proofs.YthfocmakkeonoaaGreatDoor
