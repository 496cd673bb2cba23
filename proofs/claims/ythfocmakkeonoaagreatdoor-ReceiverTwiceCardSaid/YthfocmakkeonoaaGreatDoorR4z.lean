/- Abstract values: what a walk knows of slots, of objects in memory and of rows that grow; no world, no address. A region in whatever order: what each operation reads and writes, and which ones stand in an order. What each operation does to abstract values. What operations on memory do to abstract values. -/
import Derived.Test.YthfocmakkeonoaaGreatDoorKitz
import Derived.Orders
import Derived.Laws.BytesString
set_option linter.unusedVariables false
set_option linter.unusedSimpArgs false
set_option maxRecDepth 100000
set_option maxHeartbeats 16000000
namespace Go.Proofs.YthfocmakkeonoaaGreatDoor
open Go.RowKit
inductive V where
 | sc (v:Value)
 | lst (sz:Nat) (es:List (List V))
 | agg (xs:List V)
 | tup (xs:List V)
 | ep (xs:List V)
 | ifc (t:TypeId) (x:V)
 | any
 deriving Inhabited
abbrev Mem:=Nat→Nat→Option Value
def Mem.le (m m':Mem):Prop:=∀ b i v,m b i=some v→m' b i=some v
theorem Mem.le_refl (m:Mem):m.le m:=fun _ _ _ h=>h
theorem Mem.le_trans {a b c:Mem} (h:a.le b) (k:b.le c):a.le c:=fun _ _ _ x=>k _ _ _ (h _ _ _ x)
inductive Rd (m:Mem):V→Value→Prop where
 | sc (v:Value):Rd m (.sc v) v
 | any (v:Value):Rd m .any v
 | nil (sz:Nat) (A:Option Addr) (c:Nat) (h:A=none→c=0):Rd m (.lst sz []) (.slice A 0 c)
 | lst (sz:Nat) (es:List (List V)) (b o cap:Nat) (f:Nat→Nat→Value) (hc:es.length≤cap) (hsz:∀ i (h:i<es.length),es[i].length=sz)
  (hm:∀ i j,i<es.length→j<sz→m b (o+i * sz+j)=some (f i j))
  (hr:∀ i j (h:i<es.length) (hj:j<es[i].length),Rd m (es[i][j]) (f i j)):Rd m (.lst sz es) (.slice (some ⟨b,o,none⟩) es.length cap)
 | agg (xs:List V) (ys:Array Value) (hl:ys.size=xs.length) (h:∀ i (hi:i<xs.length),Rd m xs[i] (ys[i]'(hl ▸ hi))):Rd m (.agg xs) (.agg ys)
 | tup (xs:List V) (ys:Array Value) (hl:ys.size=xs.length) (h:∀ i (hi:i<xs.length),Rd m xs[i] (ys[i]'(hl ▸ hi))):Rd m (.tup xs) (.tuple ys)
 | ep (xs:List V) (b o:Nat) (f:Nat→Value) (hm:∀ j,j<xs.length→m b (o+j)=some (f j)) (hr:∀ j (hj:j<xs.length),Rd m xs[j] (f j)):Rd m (.ep xs) (.pointer (some ⟨b,o,none⟩))
 | ifc (t:TypeId) (x:V) (v:Value) (h:Rd m x v):Rd m (.ifc t x) (.iface t v)
theorem Rd.mono {m m':Mem} {x:V} {v:Value} (h:Rd m x v) (hm:m.le m'):Rd m' x v:=by
 induction h with
 | sc v=>exact .sc v
 | any v=>exact .any v
 | nil sz A c h=>exact .nil sz A c h
 | lst sz es b o cap f hc hsz h1 _ ih=>exact .lst sz es b o cap f hc hsz (fun i j a b=>hm _ _ _ (h1 i j a b)) ih
 | agg xs ys hl _ ih=>exact .agg xs ys hl ih
 | tup xs ys hl _ ih=>exact .tup xs ys hl ih
 | ep xs b o f h1 _ ih=>exact .ep xs b o f (fun j a=>hm _ _ _ (h1 j a)) ih
 | ifc t x v _ ih=>exact .ifc t x v ih
theorem Rd.nil0 {m:Mem} (sz:Nat):Rd m (.lst sz []) (.slice none 0 0):=.nil sz none 0 fun _=>rfl
theorem Rd.sc_eq {m:Mem} {u v:Value} (h:Rd m (.sc u) v):v=u:=by cases h;rfl
abbrev Id:=Nat × Nat
inductive AV where
 | val (x:V)
 | own (k:Id) (g:Nat) (e:TypeId) (sz:Nat) (es:List (List V))
 | ptr (o:Id) (g:Nat) (off:Nat)
 | ref (k:Id) (g:Nat)
 | elp (k:Id) (g:Nat) (sz i off:Nat)
 | vw (k:Id) (g:Nat) (sz off len:Nat)
 | cp (k:Id) (g:Nat) (c:Nat)
 | pv (u:Value) (o:Id) (g:Nat)
 | nv (u:Value) (k:Id) (g:Nat)
 | ag (xs:List AV)
 | fn (K:FuncId) (xs:List AV)
 deriving Inhabited
inductive T where
 | av (x:V)
 | box (xs:List T)
 | row (e:TypeId) (sz:Nat) (es:List (List T))
 | rw (e:TypeId) (sz:Nat) (es:List (List V))
 | mp (kvs:List (Value × T))
 | pm (kvs:List (Value × T))
 | bag (ps:List (Value × T))
 deriving Inhabited
def RdL (m:Mem) (xs:List V) (us:List Value):Prop:=us.length=xs.length∧∀ (i:Nat) (h1:i<xs.length) (h2:i<us.length),Rd m xs[i] us[i]
theorem RdL.mono {m m':Mem} {xs:List V} {us:List Value} (h:RdL m xs us) (hm:m.le m'):RdL m' xs us:=⟨h.1,fun i a b=>(h.2 i a b).mono hm⟩
inductive Hg (m:Mem) (w:World):List T→List Value→List Nat→Prop where
 | nil:Hg m w [] [] []
 | av {x v xs vs F} (h:Rd m x v) (hs:Hg m w xs vs F):Hg m w (.av x::xs) (v::vs) F
 | box {ys xs b us ty F vs F'} (hb:w.heap[b]? = some (.cells us.toArray ty (0,0))) (hm:∀ i,m b i=none) (h:Hg m w ys us F) (hs:Hg m w xs vs F') (h1:b∉F) (h2:b∉F') (h3:∀ i∈F,i∉F'):Hg m w (.box ys::xs) (.pointer (some ⟨b,0,none⟩)::vs) (b::(F++F'))
 | row {e sz es xs v us F vs F'} (ho:w.ownsRow 0 e sz v es.length us) (hz:∀ r∈es,r.length=sz) (hm:∀ b,v.ownBlock=some b→(∀ i,m b i=none)∧b∉F∧b∉F') (h:Hg m w es.flatten us F) (hs:Hg m w xs vs F') (h3:∀ i∈F,i∉F'):Hg m w (.row e sz es::xs) (v::vs) (v.ownBlock.toList++(F++F'))
 | rw {e sz es xs v us vs F'} (ho:w.ownsRow 0 e sz v es.length us) (hz:∀ r∈es,r.length=sz) (hr:RdL m es.flatten us) (hm:∀ b,v.ownBlock=some b→(∀ i,m b i=none)∧b∉F') (hs:Hg m w xs vs F'):Hg m w (.rw e sz es::xs) (v::vs) (v.ownBlock.toList++F')
 | mp {kvs xs b ents clock F vs F'} (hb:w.heap[b]? = some (.map ents clock)) (hm:∀ i,m b i=none) (hk:ents.toList.map (·.key)=kvs.map (·.1)) (hk2:(kvs.map (·.1)).Nodup) (hn:(ents.toList.map (·.born)).Nodup) (hc:∀ e∈ents.toList,e.born<clock)
  (h:Hg m w (kvs.map (·.2)) (ents.toList.map (·.val)) F) (hs:Hg m w xs vs F') (h1:b∉F) (h2:b∉F') (h3:∀ i∈F,i∉F'):Hg m w (.mp kvs::xs) (.map (some b)::vs) (b::(F++F'))
 | pm {kvs kvs' xs v vs F F'} (hp:kvs'.Perm kvs) (h:Hg m w [.mp kvs'] [v] F) (hs:Hg m w xs vs F') (h3:∀ i∈F,i∉F'):Hg m w (.pm kvs::xs) (v::vs) (F++F')
 | bag {ps xs vs F F'} (h:Hg m w (ps.map (·.2)) (ps.map (·.1)) F) (hs:Hg m w xs vs F') (h3:∀ i∈F,i∉F'):Hg m w (.bag ps::xs) (.bool false::vs) (F++F')
def QcB (w:World) (v:Value) (i:Nat):Option Value:=
 match v with
 | .slice (some a) _ _=>w.cell? ⟨a.block,a.off+i,none⟩
 | .map (some b)=>match w.heap[b]? with | some (.map es _)=>(es[i]?).map (·.val) | _=>none
 | _=>none
inductive Pl where
 | s (t:Nat)
 | c (o:Id) (i:Nat)
 | o (o:Id)
 | g (o:Id)
 | k (k:Id)
 | q (k:Id)
 | r (k:Id)
 | h (k:Id)
 | l (k:Id)
 deriving DecidableEq
inductive X where
 | tree (x:T)
 | lent (i:Nat) (x:AV)
 | itr (k:Id) (g:Nat) (seen:List Nat)
 | av (x:AV)
 | num (n:Nat)
 | row (e:TypeId) (sz n:Nat)
 | non
 deriving Inhabited
abbrev St:=Pl→X
def put (σ:St) (l:Pl) (x:X):St:=fun l'=>if l'=l then x else σ l'
def Qaf (σ:St):List (Pl × X)→St
 | []=>σ
 | p::ps=>Qaf (put σ p.1 p.2) ps
theorem Qal (σ:St) (a b:List (Pl × X)):Qaf σ (a++b)=Qaf (Qaf σ a) b:=by
 induction a generalizing σ with
 | nil=>rfl
 | cons p a ih=>exact ih _
structure Env where
 m:Mem
 loc:Id→Nat
 rv:Id→Value
 rx:Id→List Value
 bv:Id→Value
 bf:Id→List Nat
def gq (σ:St) (k:Id):Nat:=match σ (.q k) with | .num g=>g | _=>0
def gg (σ:St) (o:Id):Nat:=match σ (.g o) with | .num g=>g | _=>0
def gh (σ:St) (o:Id):Nat:=match σ (.h o) with | .num g=>g | _=>0
theorem QaL {σ σ':St} {k:Id} (h:σ' (.h k)=σ (.h k)):gh σ' k=gh σ k:=by unfold gh;rw [h]
theorem Qk0 {σ:St} {k:Id} {n:Nat} (h:σ (.h k)=.num n):gh σ k=n:=by unfold gh;rw [h]
theorem Qda {σ σ':St} {k:Id} (h:σ' (.q k)=σ (.q k)):gq σ' k=gq σ k:=by unfold gq;rw [h]
theorem Qaz {σ σ':St} {k:Id} (h:σ' (.g k)=σ (.g k)):gg σ' k=gg σ k:=by unfold gg;rw [h]
theorem Qk1 {σ:St} {k:Id} {n:Nat} (h:σ (.q k)=.num n):gq σ k=n:=by unfold gq;rw [h]
theorem QdO {σ:St} {k:Id} {n:Nat} (h:σ (.g k)=.num n):gg σ k=n:=by unfold gg;rw [h]
def QBe (E:Env) (σ:St) (k:Id) (g:Nat) (e:TypeId) (sz n:Nat) (v:Value):Prop:=
 g≤gq σ k∧(g=gq σ k→∀ e' sz' T,σ (.k k)=.row e' sz' T→n≤T∧(n=T→e'=e∧sz'=sz∧v=E.rv k))
def QFp (bv v:Value) (sz off len:Nat):Prop:=
 (bv=.slice none 0 0∧v=.slice none 0 0∧len=0∧off=0)∨∃ b n cap o,bv=.slice (some ⟨b,0,none⟩) n cap∧v=.slice (some ⟨b,o,none⟩) len (cap-off)∧(off<cap→o=off * sz)∧(off=0→o=0)
def Qfq:Value→Nat
 | .slice _ _ c=>c
 | _=>0
def RdP (E:Env) (σ:St):AV→Value→Prop
 | .val x,v=>Rd E.m x v
 | .own k g e sz es,v=>Rd E.m (.lst sz es) v∧QBe E σ k g e sz es.length v
 | .ptr o g off,v=>g≤gg σ o∧(g=gg σ o→v=.pointer (some ⟨E.loc o,off,none⟩))
 | .ref k g,v=>g≤gh σ k∧(g=gh σ k→v=E.bv k)
 | .elp k g sz i off,v=>g≤gh σ k∧(g=gh σ k→∃ b,(E.bv k).ownBlock=some b∧v=.pointer (some ⟨b,i * sz+off,none⟩))
 | .vw k g sz off len,v=>g≤gh σ k∧(g=gh σ k→QFp (E.bv k) v sz off len)
 | .cp k g c,_=>g≤gh σ k∧(g=gh σ k→Qfq (E.bv k)=c)
 | .pv u o g,_=>g≤gg σ o∧(g=gg σ o→u=.pointer (some ⟨E.loc o,0,none⟩))
 | .nv u k g,_=>g≤gh σ k∧(g=gh σ k→u=E.bv k)
 | .ag _,_=>False
 | .fn _ _,_=>False
def RdA (E:Env) (σ:St):AV→Value→Prop
 | .val x,v=>Rd E.m x v
 | .own k g e sz es,v=>Rd E.m (.lst sz es) v∧QBe E σ k g e sz es.length v
 | .ptr o g off,v=>g≤gg σ o∧(g=gg σ o→v=.pointer (some ⟨E.loc o,off,none⟩))
 | .ref k g,v=>g≤gh σ k∧(g=gh σ k→v=E.bv k)
 | .elp k g sz i off,v=>g≤gh σ k∧(g=gh σ k→∃ b,(E.bv k).ownBlock=some b∧v=.pointer (some ⟨b,i * sz+off,none⟩))
 | .vw k g sz off len,v=>g≤gh σ k∧(g=gh σ k→QFp (E.bv k) v sz off len)
 | .cp k g c,_=>g≤gh σ k∧(g=gh σ k→Qfq (E.bv k)=c)
 | .pv u o g,_=>g≤gg σ o∧(g=gg σ o→u=.pointer (some ⟨E.loc o,0,none⟩))
 | .nv u k g,_=>g≤gh σ k∧(g=gh σ k→u=E.bv k)
 | .ag xs,v=>∃ ys:List Value,v=.agg ys.toArray∧ys.length=xs.length∧∀ (i:Nat) (h1:i<xs.length) (h2:i<ys.length),RdP E σ xs[i] ys[i]
 | .fn K xs,v=>∃ ys:List Value,v=.func (.func K) #[] ys.toArray∧ys.length=xs.length∧∀ (i:Nat) (h1:i<xs.length) (h2:i<ys.length),RdP E σ xs[i] ys[i]
theorem RdP.toA {E:Env} {σ:St} {x:AV} {v:Value} (h:RdP E σ x v):RdA E σ x v:=by
 cases x with
 | ag=>exact h.elim
 | fn=>exact h.elim
 | _=>exact h
structure Mo (E:Env) (σ:St) (E':Env) (σ':St):Prop where
 m:E.m.le E'.m
 g:∀ o,gg σ o≤gg σ' o∧(gg σ o=gg σ' o→E'.loc o=E.loc o)
 q:∀ k,gq σ k≤gq σ' k∧(gq σ k=gq σ' k→∀ e sz T',σ' (.k k)=.row e sz T'→∃ T,σ (.k k)=.row e sz T∧T≤T'∧(T=T'→E'.rv k=E.rv k))
 h:∀ k,gh σ k≤gh σ' k∧(gh σ k=gh σ' k→E'.bv k=E.bv k)
theorem RdP.mo {E E':Env} {σ σ':St} {x:AV} {v:Value} (h:RdP E σ x v) (hm:Mo E σ E' σ'):RdP E' σ' x v:=by
 cases x with
 | val x=>exact Rd.mono h hm.m
 | own k g e sz es=>
  obtain ⟨hle,heq⟩:=hm.q k
  obtain ⟨h1,h2⟩:=h.2
  refine ⟨Rd.mono h.1 hm.m,Nat.le_trans h1 hle,fun he e' sz' T' hT'=>?_⟩
  obtain ⟨T,hT,hTl,hTe⟩:=heq (by omega) e' sz' T' hT'
  obtain ⟨h3,h4⟩:=h2 (by omega) e' sz' T hT
  refine ⟨Nat.le_trans h3 hTl,fun hn=>?_⟩
  obtain ⟨a,b,c⟩:=h4 (by omega)
  exact ⟨a,b,c.trans (hTe (by omega)).symm⟩
 | ptr o g off=>
  obtain ⟨hle,heq⟩:=hm.g o
  obtain ⟨h1,h2⟩:=h
  refine ⟨Nat.le_trans h1 hle,fun he=>?_⟩
  rw [heq (by omega)]
  exact h2 (by omega)
 | ref k g=>
  obtain ⟨hle,heq⟩:=hm.h k
  obtain ⟨h1,h2⟩:=h
  refine ⟨Nat.le_trans h1 hle,fun he=>?_⟩
  rw [heq (by omega)]
  exact h2 (by omega)
 | elp k g sz i off=>
  obtain ⟨hle,heq⟩:=hm.h k
  obtain ⟨h1,h2⟩:=h
  refine ⟨Nat.le_trans h1 hle,fun he=>?_⟩
  rw [heq (by omega)]
  exact h2 (by omega)
 | cp k g c=>
  obtain ⟨hle,heq⟩:=hm.h k
  obtain ⟨h1,h2⟩:=h
  refine ⟨Nat.le_trans h1 hle,fun he=>?_⟩
  rw [heq (by omega)]
  exact h2 (by omega)
 | pv u o g=>
  obtain ⟨hle,heq⟩:=hm.g o
  obtain ⟨h1,h2⟩:=h
  refine ⟨Nat.le_trans h1 hle,fun he=>?_⟩
  rw [heq (by omega)]
  exact h2 (by omega)
 | nv u k g=>
  obtain ⟨hle,heq⟩:=hm.h k
  obtain ⟨h1,h2⟩:=h
  refine ⟨Nat.le_trans h1 hle,fun he=>?_⟩
  rw [heq (by omega)]
  exact h2 (by omega)
 | vw k g sz off len=>
  obtain ⟨hle,heq⟩:=hm.h k
  obtain ⟨h1,h2⟩:=h
  refine ⟨Nat.le_trans h1 hle,fun he=>?_⟩
  rw [heq (by omega)]
  exact h2 (by omega)
 | ag=>exact h.elim
 | fn=>exact h.elim
theorem RdA.mo {E E':Env} {σ σ':St} {x:AV} {v:Value} (h:RdA E σ x v) (hm:Mo E σ E' σ'):RdA E' σ' x v:=by
 cases x with
 | ag xs=>
  obtain ⟨ys,h1,h2,h3⟩:=h
  exact ⟨ys,h1,h2,fun i a b=>(h3 i a b).mo hm⟩
 | fn K xs=>
  obtain ⟨ys,h1,h2,h3⟩:=h
  exact ⟨ys,h1,h2,fun i a b=>(h3 i a b).mo hm⟩
 | val x=>exact RdP.mo (x:=.val x) h hm
 | own k g e sz es=>exact RdP.mo (x:=.own k g e sz es) h hm
 | ptr o g off=>exact RdP.mo (x:=.ptr o g off) h hm
 | ref k g=>exact RdP.mo (x:=.ref k g) h hm
 | elp k g sz i off=>exact RdP.mo (x:=.elp k g sz i off) h hm
 | vw k g sz off len=>exact RdP.mo (x:=.vw k g sz off len) h hm
 | cp k g c=>exact RdP.mo (v:=v) (x:=.cp k g c) h hm
 | pv u o g=>exact RdP.mo (v:=v) (x:=.pv u o g) h hm
 | nv u k g=>exact RdP.mo (v:=v) (x:=.nv u k g) h hm
theorem Mo.same {E:Env} {σ σ':St} (hg:∀ o,σ' (.g o)=σ (.g o)) (hq:∀ k,σ' (.q k)=σ (.q k)) (hk:∀ k,σ' (.k k)=σ (.k k)) (hh:∀ k,σ' (.h k)=σ (.h k)):Mo E σ E σ':=
 ⟨Mem.le_refl _,fun o=>⟨Nat.le_of_eq (Qaz (hg o)).symm,fun _=>rfl⟩,fun k=>⟨Nat.le_of_eq (Qda (hq k)).symm,fun _ e sz T h2=>⟨T,by rw [←hk];exact h2,Nat.le_refl _,fun _=>rfl⟩⟩,fun k=>⟨Nat.le_of_eq (QaL (hh k)).symm,fun _=>rfl⟩⟩
structure Ctx where
 nt:Nat
 w0:World
 D:Nat→Prop
 pins:Id→Option Nat
 np:∀ d,d<nt→pins (d,0)=none
 nq:∀ k:Id,k.2≠0→pins k=none
 m0:Mem
theorem QcG {w w':World} {base:Nat} {e:TypeId} {size n:Nat} {v:Value} {xs:List Value} (h:w.ownsRow base e size v n xs) (hb:∀ k,v.ownBlock=some k→w'.heap[k]? = w.heap[k]?):w'.ownsRow base e size v n xs:=by
 refine ⟨h.1,?_⟩
 rcases h.2 with h2 | ⟨g,cap,cur,hv,hg,hh,r⟩
 ·exact .inl h2
 ·exact .inr ⟨g,cap,cur,hv,hg,(hb g (by rw [hv];rfl)).trans hh,r⟩
theorem Qd1 {w:World} {base:Nat} {e:TypeId} {size n:Nat} {v:Value} {xs:List Value} (h:w.ownsRow base e size v n xs) {b:Nat} (hb:v.ownBlock=some b):∃ cur,w.heap[b]? = some (.cells cur e (0,0)):=by
 rcases h.2 with ⟨rfl,_⟩ | ⟨g,cap,cur,rfl,_,hh,_⟩
 ·cases hb
 ·cases hb;exact ⟨cur,hh⟩
theorem Hg.mono {m m':Mem} {w w':World} {xs:List T} {vs:List Value} {F:List Nat} (h:Hg m w xs vs F) (hm:m.le m'):(∀ b∈F,w'.heap[b]? = w.heap[b]?∧∀ i,m' b i=m b i)→Hg m' w' xs vs F:=by
 induction h with
 | nil=>intro _;exact .nil
 | av h _ ih=>intro hF;exact .av (h.mono hm) (ih hF)
 | box hb hb0 h hs h1 h2 h3 ih ih'=>
  intro hF
  obtain ⟨a1,a2⟩:=hF _ (List.mem_cons_self ..)
  exact .box (a1.trans hb) (fun i=>(a2 i).trans (hb0 i)) (ih fun b hb=>hF b (by simp [hb])) (ih' fun b hb=>hF b (by simp [hb])) h1 h2 h3
 | @row e sz es xs v us F vs F' ho hz hb0 h hs h3 ih ih'=>
  intro hF
  refine .row (QcG ho fun k hk=>(hF k (by simp [hk])).1) hz (fun b hb=>⟨fun i=>?_,(hb0 b hb).2⟩) (ih fun b hb=>hF b (by simp [hb])) (ih' fun b hb=>hF b (by simp [hb])) h3
  rw [(hF b (by simp [hb])).2 i];exact (hb0 b hb).1 i
 | @rw e sz es xs v us vs F' ho hz hr hb0 hs ih=>
  intro hF
  refine .rw (QcG ho fun k hk=>(hF k (by simp [hk])).1) hz (hr.mono hm) (fun b hb=>⟨fun i=>?_,(hb0 b hb).2⟩) (ih fun b hb=>hF b (by simp [hb]))
  rw [(hF b (by simp [hb])).2 i];exact (hb0 b hb).1 i
 | mp hb hb0 hk hk2 hn hc h hs h1 h2 h3 ih ih'=>
  intro hF
  obtain ⟨a1,a2⟩:=hF _ (List.mem_cons_self ..)
  exact .mp (a1.trans hb) (fun i=>(a2 i).trans (hb0 i)) hk hk2 hn hc (ih fun b hb=>hF b (by simp [hb])) (ih' fun b hb=>hF b (by simp [hb])) h1 h2 h3
 | pm hp h hs h3 ih ih'=>
  intro hF
  exact .pm hp (ih fun b hb=>hF b (by simp [hb])) (ih' fun b hb=>hF b (by simp [hb])) h3
 | bag h hs h3 ih ih'=>
  intro hF
  exact .bag (ih fun b hb=>hF b (by simp [hb])) (ih' fun b hb=>hF b (by simp [hb])) h3
theorem Hg.mem {m:Mem} {w:World} {xs:List T} {vs:List Value} {F:List Nat} (h:Hg m w xs vs F):∀ b∈F,b<w.heap.size∧∀ i,m b i=none:=by
 induction h with
 | nil=>intro b hb;cases hb
 | av _ _ ih=>exact ih
 | box hb hb0 h hs h1 h2 h3 ih ih'=>
  intro b h
  rcases List.mem_cons.1 h with rfl | h
  ·exact ⟨(Array.getElem?_eq_some_iff.1 hb).1,hb0⟩
  ·rcases List.mem_append.1 h with h | h
   ·exact ih b h
   ·exact ih' b h
 | @row e sz es xs v us F vs F' ho hz hb0 h hs h3 ih ih'=>
  intro b h
  rcases List.mem_append.1 h with h | h
  ·have:v.ownBlock=some b:=by simpa using h
   exact ⟨(ho.lt b this).2,(hb0 b this).1⟩
  ·rcases List.mem_append.1 h with h | h
   ·exact ih b h
   ·exact ih' b h
 | @rw e sz es xs v us vs F' ho hz hr hb0 hs ih=>
  intro b h
  rcases List.mem_append.1 h with h | h
  ·have:v.ownBlock=some b:=by simpa using h
   exact ⟨(ho.lt b this).2,(hb0 b this).1⟩
  ·exact ih b h
 | mp hb hb0 hk hk2 hn hc h hs h1 h2 h3 ih ih'=>
  intro b h
  rcases List.mem_cons.1 h with rfl | h
  ·exact ⟨(Array.getElem?_eq_some_iff.1 hb).1,hb0⟩
  ·rcases List.mem_append.1 h with h | h
   ·exact ih b h
   ·exact ih' b h
 | pm hp h hs h3 ih ih'=>
  intro b h
  rcases List.mem_append.1 h with h | h
  ·exact ih b h
  ·exact ih' b h
 | bag h hs h3 ih ih'=>
  intro b h
  rcases List.mem_append.1 h with h | h
  ·exact ih b h
  ·exact ih' b h
theorem Hg.noIt {m:Mem} {w:World} {xs:List T} {vs:List Value} {F:List Nat} (h:Hg m w xs vs F):∀ b∈F,∀ mb n bs l,w.heap[b]?≠some (.mapIter mb n bs l):=by
 induction h with
 | nil=>intro b hb;cases hb
 | av _ _ ih=>exact ih
 | box hb hb0 h hs h1 h2 h3 ih ih'=>
  intro b h mb n bs l he
  rcases List.mem_cons.1 h with rfl | h
  ·rw [hb] at he;cases he
  ·rcases List.mem_append.1 h with h | h
   ·exact ih b h _ _ _ _ he
   ·exact ih' b h _ _ _ _ he
 | @row e sz es xs v us F vs F' ho hz hb0 h hs h3 ih ih'=>
  intro b h mb n bs l he
  rcases List.mem_append.1 h with h | h
  ·obtain ⟨cur,hc⟩:=Qd1 ho (by simpa using h)
   rw [hc] at he;cases he
  ·rcases List.mem_append.1 h with h | h
   ·exact ih b h _ _ _ _ he
   ·exact ih' b h _ _ _ _ he
 | @rw e sz es xs v us vs F' ho hz hr hb0 hs ih=>
  intro b h mb n bs l he
  rcases List.mem_append.1 h with h | h
  ·obtain ⟨cur,hc⟩:=Qd1 ho (by simpa using h)
   rw [hc] at he;cases he
  ·exact ih b h _ _ _ _ he
 | mp hb hb0 hk hk2 hn hc h hs h1 h2 h3 ih ih'=>
  intro b h mb n bs l he
  rcases List.mem_cons.1 h with rfl | h
  ·rw [hb] at he;cases he
  ·rcases List.mem_append.1 h with h | h
   ·exact ih b h _ _ _ _ he
   ·exact ih' b h _ _ _ _ he
 | pm hp h hs h3 ih ih'=>
  intro b h mb n bs l he
  rcases List.mem_append.1 h with h | h
  ·exact ih b h _ _ _ _ he
  ·exact ih' b h _ _ _ _ he
 | bag h hs h3 ih ih'=>
  intro b h mb n bs l he
  rcases List.mem_append.1 h with h | h
  ·exact ih b h _ _ _ _ he
  ·exact ih' b h _ _ _ _ he
theorem Hg.len {m:Mem} {w:World} {xs:List T} {vs:List Value} {F:List Nat} (h:Hg m w xs vs F):vs.length=xs.length:=by
 induction h <;> simp_all
theorem QhJ {w w':World} {v:Value} (h:∀ b,(v.ownBlock=some b∨v=.map (some b))→w'.heap[b]? = w.heap[b]?) (i:Nat):QcB w' v i=QcB w v i:=by
 unfold QcB
 split
 ·rename_i a _ _
  exact World.cell?_of_block (h a.block (.inl rfl))
 ·rename_i b
  rw [h b (.inr rfl)]
 ·rfl
theorem Hg.head {m:Mem} {w:World} {x:T} {v:Value} {F:List Nat} (h:Hg m w [x] [v] F) (hx:∀ y,x≠.av y):∀ b,(v.ownBlock=some b∨v=.map (some b))→b∈F:=by
 intro b hb
 cases h with
 | av=>exact absurd rfl (hx _)
 | box=>rcases hb with hb | hb <;> cases hb
 | row ho=>
  rcases hb with hb | hb
  ·simp [hb]
  ·subst hb
   rcases ho.2 with ⟨h,_⟩ | ⟨_,_,_,h,_⟩ <;> cases h
 | rw ho=>
  rcases hb with hb | hb
  ·simp [hb]
  ·subst hb
   rcases ho.2 with ⟨h,_⟩ | ⟨_,_,_,h,_⟩ <;> cases h
 | mp=>
    rcases hb with hb | hb
    ·cases hb
    ·cases hb;simp
 | pm hp h=>
  cases h
  rcases hb with hb | hb
  ·cases hb
  ·cases hb;simp
 | bag=>rcases hb with hb | hb <;> cases hb
def Qrh (E:Env) (w:World) (k:Id) (seen:List Nat) (mb:Option Nat) (since:Nat) (bs:Array Nat) (last:Nat):Prop:=
 (mb=none∧E.bv k=.map none)∨∃ r ents clock,mb=some r∧E.bv k=.map (some r)∧w.heap[r]? = some (.map ents clock)∧since=clock∧last=clock∧bs.toList=seen.map (fun i=>((ents[i]?).map (·.born)).getD 0)∧∀ i∈seen,i<ents.size
structure Trees (C:Ctx) (E:Env) (σ:St) (w:World):Prop where
 hg:∀ k x,σ (.r k)=.tree x→Hg E.m w [x] [E.bv k] (E.bf k)∧∀ y,x≠.av y
 dd:∀ k x b,σ (.r k)=.tree x→b∈E.bf k→C.D b∨C.w0.heap.size≤b
 bx:∀ k xs,σ (.r k)=.tree (.box xs)→E.bv k=.pointer (some ⟨E.loc k,0,none⟩)∧k.2≠0
 tt:∀ k k' x x' b,σ (.r k)=.tree x→σ (.r k')=.tree x'→b∈E.bf k→b∈E.bf k'→k=k'
 ot:∀ o n k x,σ (.o o)=.num n→σ (.r k)=.tree x→E.loc o∉E.bf k
 tk:∀ k' e s T k x b,σ (.k k')=.row e s T→σ (.r k)=.tree x→b∈E.bf k→(E.rv k').ownBlock≠some b
 le:∀ k x i y,σ (.r k)=.tree x→σ (.l k)=.lent i y→∃ v,QcB w (E.bv k) i=some v∧RdA E σ y v
 it:∀ o k g s,σ (.o o)=.itr k g s→∃ mb since bs last,w.heap[E.loc o]? = some (.mapIter mb since bs last)∧(C.D (E.loc o)∨C.w0.heap.size≤E.loc o)∧g≤gg σ k∧(g=gg σ k→∀ x,σ (.r k)=.tree x→Qrh E w k s mb since bs last)
 ii:∀ o o' k g s k' g' s',σ (.o o)=.itr k g s→σ (.o o')=.itr k' g' s'→E.loc o=E.loc o'→o=o'
theorem Trees.step' {C:Ctx} {E E':Env} {σ σ':St} {w w':World} (h:Trees C E σ w) (hm:Mo E σ E' σ') (hv:E'.bv=E.bv) (hf:E'.bf=E.bf) (hr:∀ k x,σ' (.r k)=.tree x→σ (.r k)=.tree x) (hl:∀ k i y,σ' (.l k)=.lent i y→σ (.l k)=.lent i y)
  (hlo:∀ k xs,σ (.r k)=.tree (.box xs)→k.2≠0→E'.loc k=E.loc k) (hw:∀ k x b,σ (.r k)=.tree x→b∈E.bf k→b<w.heap.size→(∀ i,E.m b i=none)→w'.heap[b]? = w.heap[b]?∧∀ i,E'.m b i=none)
  (ho:∀ o n k x,σ' (.o o)=.num n→σ (.r k)=.tree x→E'.loc o∈E.bf k→E'.loc o<w.heap.size→∃ n',σ (.o o)=.num n'∧E'.loc o=E.loc o)
  (hk:∀ k' e s T b k x,σ' (.k k')=.row e s T→σ (.r k)=.tree x→b∈E.bf k→(E'.rv k').ownBlock=some b→b<w.heap.size→∃ e s T,σ (.k k')=.row e s T∧(E.rv k').ownBlock=some b)
  (hi:∀ o k g s,σ' (.o o)=.itr k g s→σ (.o o)=.itr k g s∧E'.loc o=E.loc o) (hj:∀ (o k:Id) (g:Nat) (s:List Nat) (mb:Option Nat) (n:Nat) (bs:Array Nat) (l:Nat),σ' (.o o)=.itr k g s→w.heap[E.loc o]? = some (Obj.mapIter mb n bs l)→w'.heap[E.loc o]? = w.heap[E.loc o]?):Trees C E' σ' w':=by
 have hF:∀ k x,σ (.r k)=.tree x→∀ b∈E.bf k,w'.heap[b]? = w.heap[b]?∧∀ i,E'.m b i=E.m b i:=fun k x hx b hb=>by
  obtain ⟨h1,h2⟩:=(h.hg k x hx).1.mem b hb
  obtain ⟨h3,h4⟩:=hw k x b hx hb h1 h2
  exact ⟨h3,fun i=>by rw [h4 i,h2 i]⟩
 refine ⟨fun k x hx=>?_,fun k x b hx hb=>?_,fun k xs hx=>?_,fun k k' x x' b h1 h2 h3 h4=>?_,fun o n k x h1 h2 h3=>?_,fun k' e s T k x b h1 h2 h3 h4=>?_,fun k x i y h1 h2=>?_,fun o k g s h1=>?_,fun o o' k g s k' g' s' h1 h2 h3=>?_⟩
 ·have:=h.hg k x (hr k x hx)
  rw [hv,hf]
  exact ⟨this.1.mono hm.m (hF k x (hr k x hx)),this.2⟩
 ·rw [hf] at hb;exact h.dd k x b (hr k x hx) hb
 ·obtain ⟨h1,h2⟩:=h.bx k xs (hr _ _ hx)
  rw [hv,hlo k xs (hr _ _ hx) h2];exact ⟨h1,h2⟩
 ·rw [hf] at h3 h4;exact h.tt k k' x x' b (hr _ _ h1) (hr _ _ h2) h3 h4
 ·rw [hf] at h3
  have h2:=hr _ _ h2
  obtain ⟨n',h5,h6⟩:=ho o n k x h1 h2 h3 ((h.hg k x h2).1.mem _ h3).1
  rw [h6] at h3
  exact h.ot o n' k x h5 h2 h3
 ·rw [hf] at h3
  have h2:=hr _ _ h2
  obtain ⟨e',s',T',h5,h6⟩:=hk k' e s T b k x h1 h2 h3 h4 ((h.hg k x h2).1.mem _ h3).1
  exact h.tk k' e' s' T' k x b h5 h2 h3 h6
 ·have h1:=hr _ _ h1
  obtain ⟨v,h5,h6⟩:=h.le k x i y h1 (hl _ _ _ h2)
  rw [hv]
  exact ⟨v,by rw [QhJ (fun b hb=>(hF k x h1 b ((h.hg k x h1).1.head (h.hg k x h1).2 b hb)).1)];exact h5,h6.mo hm⟩
 ·have h0:=h1
  obtain ⟨h1,h2⟩:=hi o k g s h1
  obtain ⟨mb,n,bs,l,h3,h4,h5,h6⟩:=h.it o k g s h1
  have hg:=(hm.g k).1
  refine ⟨mb,n,bs,l,by rw [h2,hj o k g s _ _ _ _ h0 h3,h3],by rw [h2];exact h4,by omega,fun he x hx=>?_⟩
  have hx:=hr k x hx
  rcases h6 (by omega) x hx with ⟨e1,e2⟩ | ⟨r,ents,clock,e1,e2,e3,e4⟩
  ·exact .inl ⟨e1,by rw [hv];exact e2⟩
  ·exact .inr ⟨r,ents,clock,e1,by rw [hv];exact e2,by rw [(hF k x hx r ((h.hg k x hx).1.head (h.hg k x hx).2 r (.inr e2))).1];exact e3,e4⟩
 ·obtain ⟨h1,e1⟩:=hi o k g s h1
  obtain ⟨h2,e2⟩:=hi o' k' g' s' h2
  rw [e1,e2] at h3
  exact h.ii o o' k g s k' g' s' h1 h2 h3
theorem Trees.step {C:Ctx} {E E':Env} {σ σ':St} {w w':World} (h:Trees C E σ w) (hm:Mo E σ E' σ') (hv:E'.bv=E.bv) (hf:E'.bf=E.bf) (hr:∀ k x,σ' (.r k)=.tree x→σ (.r k)=.tree x) (hl:∀ k i y,σ' (.l k)=.lent i y→σ (.l k)=.lent i y)
  (hlo:∀ k xs,σ (.r k)=.tree (.box xs)→k.2≠0→E'.loc k=E.loc k) (hw:∀ k x b,σ (.r k)=.tree x→b∈E.bf k→b<w.heap.size→(∀ i,E.m b i=none)→w'.heap[b]? = w.heap[b]?∧∀ i,E'.m b i=none)
  (ho:∀ o n k x,σ' (.o o)=.num n→σ (.r k)=.tree x→E'.loc o∈E.bf k→E'.loc o<w.heap.size→∃ n',σ (.o o)=.num n'∧E'.loc o=E.loc o)
  (hk:∀ k' e s T b k x,σ' (.k k')=.row e s T→σ (.r k)=.tree x→b∈E.bf k→(E'.rv k').ownBlock=some b→b<w.heap.size→∃ e s T,σ (.k k')=.row e s T∧(E.rv k').ownBlock=some b)
  (hi:∀ o k g s,σ' (.o o)=.itr k g s→σ (.o o)=.itr k g s∧E'.loc o=E.loc o) (hj:∀ (b:Nat) (mb:Option Nat) (n:Nat) (bs:Array Nat) (l:Nat),w.heap[b]? = some (Obj.mapIter mb n bs l)→w'.heap[b]? = w.heap[b]?):Trees C E' σ' w':=
 h.step' hm hv hf hr hl hlo hw ho hk hi fun o k g s mb n bs l _ h1=>hj _ _ _ _ _ h1
theorem Trees.beside {C:Ctx} {E:Env} {σ σ':St} {w w':World} (h:Trees C E σ w) (hm:Mo E σ E σ') (hr:∀ k,σ' (.r k)=σ (.r k)) (hl:∀ k,σ' (.l k)=σ (.l k)) (ho:∀ k,σ' (.o k)=σ (.o k)) (hk:∀ k,σ' (.k k)=σ (.k k))
  (hw:∀ k x b,σ (.r k)=.tree x→b∈E.bf k→b<w.heap.size→w'.heap[b]? = w.heap[b]?) (hj:∀ (b:Nat) (mb:Option Nat) (n:Nat) (bs:Array Nat) (l:Nat),w.heap[b]? = some (Obj.mapIter mb n bs l)→w'.heap[b]? = w.heap[b]?):Trees C E σ' w':=
 h.step hm rfl rfl (fun k x hx=>by rw [←hr];exact hx) (fun k i y hy=>by rw [←hl];exact hy) (fun _ _ _ _=>rfl) (fun k x b h1 h2 h3 h4=>⟨hw k x b h1 h2 h3,h4⟩)
  (fun o n k x h1 h2 _ _=>⟨n,by rw [←ho];exact h1,rfl⟩) (fun k' e s T b k x h1 _ _ h4 _=>⟨e,s,T,by rw [←hk];exact h1,h4⟩) (fun o k g s h=>⟨by rw [←ho];exact h,rfl⟩) hj
structure Gm (C:Ctx) (E:Env) (σ:St) (a:Act) (w:World):Prop where
 sz:a.tmps.size=C.nt
 df:a.defers=[]
 ms:∀ b i v,E.m b i=some v→w.cell? ⟨b,i,none⟩=some v
 fr:Chg C.D C.w0 w
 sl:∀ t x,σ (.s t)=.av x→RdA E σ x (a.tmps.getD t undef)
 ce:∀ o i x n,σ (.c o i)=.av x→σ (.o o)=.num n→i<n→∃ v,w.cell? ⟨E.loc o,i,none⟩=some v∧RdA E σ x v
 ob:∀ o n,σ (.o o)=.num n→(∃ cs ty,w.heap[E.loc o]? = some (.cells cs ty (0,0))∧cs.size=n)∧(∀ i,E.m (E.loc o) i=none)∧(C.D (E.loc o)∨C.w0.heap.size≤E.loc o)
 ro:∀ k e s T,σ (.k k)=.row e s T→w.ownsRow 0 e s (E.rv k) T (E.rx k)∧∀ b,(E.rv k).ownBlock=some b→(∀ i,E.m b i=(E.rx k)[i]?)∧(C.D b∨C.w0.heap.size≤b)
 oo:∀ o o' n n',σ (.o o)=.num n→σ (.o o')=.num n'→E.loc o=E.loc o'→o=o'
 rr:∀ k k' e s T e' s' T' b,σ (.k k)=.row e s T→σ (.k k')=.row e' s' T'→(E.rv k).ownBlock=some b→(E.rv k').ownBlock=some b→k=k'
 or:∀ o n k e s T,σ (.o o)=.num n→σ (.k k)=.row e s T→(E.rv k).ownBlock≠some (E.loc o)
 pi:∀ o b,C.pins o=some b→E.loc o=b
 ml:C.m0.le E.m
 mx:∀ b i,b<C.w0.heap.size→¬C.D b→E.m b i=C.m0 b i
 tr:Trees C E σ w
section
variable {C:Ctx} {E:Env} {σ:St} {a:Act} {w:World}
theorem QaZ (σ:St) (l:Pl) (x:X):put σ l x l=x:=by simp [put]
theorem Qag (σ:St) {l l':Pl} (x:X) (h:l'≠l):put σ l x l'=σ l':=by simp [put,h]
theorem Qk2 (a:Act) (d:Option Tmp) (v:Value):(a.put d v).tmps.size=a.tmps.size:=by cases d <;> simp [Act.put]
theorem Qi6 (a:Act) (d:Option Tmp) (v:Value):(a.put d v).defers=a.defers:=by cases d <;> rfl
theorem Qk3 (a:Act) (t:Nat) (v:Value) (h:t<a.tmps.size):(a.put (some t) v).tmps.getD t undef=v:=by
 simp [Act.put,Array.getD_eq_getD_getElem?,Array.getElem?_setIfInBounds,h]
theorem Qpp (a:Act) (t u:Nat) (v:Value) (h:u≠t):(a.put (some t) v).tmps.getD u undef=a.tmps.getD u undef:=by
 simp [Act.put,Array.getD_eq_getD_getElem?,Array.getElem?_setIfInBounds,Ne.symm h]
theorem Gm.slot (h:Gm C E σ a w) (t:Nat) (x:AV) (v:Value) (ht:t<C.nt) (hx:RdA E σ x v):Gm C E (put σ (.s t) (.av x)) (a.put (some t) v) w:=by
 have hmo:Mo E σ E (put σ (.s t) (.av x)):=Mo.same (fun o=>Qag _ _ (by simp)) (fun o=>Qag _ _ (by simp)) (fun o=>Qag _ _ (by simp)) (fun o=>Qag _ _ (by simp))
 have hO:∀ o,put σ (.s t) (.av x) (.o o)=σ (.o o):=fun o=>Qag _ _ (by simp)
 have hK:∀ o,put σ (.s t) (.av x) (.k o)=σ (.k o):=fun o=>Qag _ _ (by simp)
 have hCc:∀ o i,put σ (.s t) (.av x) (.c o i)=σ (.c o i):=fun o i=>Qag _ _ (by simp)
 refine ⟨by rw [Qk2];exact h.sz,by rw [Qi6];exact h.df,h.ms,h.fr,fun u y hy=>?_,fun o i y n h1 h2 h3=>?_,fun o n h1=>h.ob o n (by rw [←hO];exact h1),fun k e s T h1=>h.ro k e s T (by rw [←hK];exact h1),
  fun o o' n n' h1 h2=>h.oo o o' n n' (by rw [←hO];exact h1) (by rw [←hO];exact h2),fun k k' e s T e' s' T' b h1 h2=>h.rr k k' e s T e' s' T' b (by rw [←hK];exact h1) (by rw [←hK];exact h2),
  fun o n k e s T h1 h2=>h.or o n k e s T (by rw [←hO];exact h1) (by rw [←hK];exact h2),h.pi,h.ml,h.mx,
  h.tr.beside hmo (fun o=>Qag _ _ (by simp)) (fun o=>Qag _ _ (by simp)) hO hK (fun _ _ _ _ _ _=>rfl) (fun _ _ _ _ _ _=>rfl)⟩
 ·by_cases hu:u=t
  ·subst hu
   rw [QaZ] at hy
   cases hy
   rw [Qk3 _ _ _ (by rw [h.sz];exact ht)]
   exact hx.mo hmo
  ·rw [Qag _ _ (by simpa using hu)] at hy
   rw [Qpp _ _ _ _ hu]
   exact (h.sl u y hy).mo hmo
 ·obtain ⟨v,hv,hr⟩:=h.ce o i y n (by rw [←hCc];exact h1) (by rw [←hO];exact h2) h3
  exact ⟨v,hv,hr.mo hmo⟩
theorem Gm.heap {w':World} (h:Gm C E σ a w) (hw:∀ k,k<w.heap.size→w'.heap[k]? = w.heap[k]?) (hf:Chg C.D w w'):Gm C E σ a w':=by
 have hcell:∀ b i v,w.cell? ⟨b,i,none⟩=some v→w'.cell? ⟨b,i,none⟩=some v:=by
  intro b i v hv
  rcases Nat.lt_or_ge b w.heap.size with hb | hb
  ·rw [World.cell?_of_block (w:=w) (w':=w') (a:=⟨b,i,none⟩) (hw b hb)];exact hv
  ·have:w.heap[b]? = none:=Array.getElem?_eq_none hb
   simp [World.cell?,this] at hv
 have hlt:∀ k o,w.heap[k]? = some o→w'.heap[k]? = some o:=fun k o hk=>by
  rw [hw k (Array.getElem?_eq_some_iff.1 hk).1];exact hk
 refine ⟨h.sz,h.df,fun b i v hv=>hcell _ _ _ (h.ms b i v hv),h.fr.trans hf,h.sl,fun o i x n h1 h2 h3=>?_,fun o n h1=>?_,fun k e s T h1=>?_,h.oo,h.rr,h.or,h.pi,h.ml,h.mx,
  h.tr.beside (Mo.same (fun _=>rfl) (fun _=>rfl) (fun _=>rfl) (fun _=>rfl)) (fun _=>rfl) (fun _=>rfl) (fun _=>rfl) (fun _=>rfl) (fun _ _ b _ _ hb=>hw b hb) (fun b _ _ _ _ h=>hw b (Array.getElem?_eq_some_iff.1 h).1)⟩
 ·obtain ⟨v,hv,hr⟩:=h.ce o i x n h1 h2 h3
  exact ⟨v,hcell _ _ _ hv,hr⟩
 ·obtain ⟨⟨cs,ty,h2,h3⟩,h4⟩:=h.ob o n h1
  exact ⟨⟨cs,ty,hlt _ _ h2,h3⟩,h4⟩
 ·obtain ⟨h2,h3⟩:=h.ro k e s T h1
  exact ⟨QcG h2 fun k hk=>hw k (h2.lt k hk).2,h3⟩
theorem Gm.drew (h:Gm C E σ a w):Gm C E σ a w.drew:=h.heap (fun _ _=>rfl) (Chg.refl _ _).drew
theorem Gm.drawn (h:Gm C E σ a w) (n:Nat):Gm C E σ a { w with drawn:=n }:=h.heap (fun _ _=>rfl) ⟨rfl,rfl,rfl,Nat.le_refl _,fun _ _ _=>rfl⟩
theorem Gm.alloc (h:Gm C E σ a w) (o:Obj):Gm C E σ a (w.alloc o):=h.heap (fun k hk=>Below.heap_alloc w o k hk) ((Chg.refl _ _).alloc o)
end
def QaU (o:Id):Nat→List AV→List (Pl × X)
 | _,[]=>[]
 | i,x::xs=>(.c o i,.av x)::QaU o (i+1) xs
theorem Qaw (o:Id):∀ (xs:List AV) (i:Nat) (σ:St) (l:Pl),(∀ j,l≠.c o j)→Qaf σ (QaU o i xs) l=σ l
 | [],_,_,_,_=>rfl
 | x::xs,i,σ,l,h=>by
  show Qaf (put σ (.c o i) (.av x)) (QaU o (i+1) xs) l=_
  rw [Qaw o xs (i+1) _ l h,Qag _ _ (h i)]
theorem QhK (o:Id):∀ (xs:List AV) (i j:Nat) (σ:St),Qaf σ (QaU o i xs) (.c o j)=if i≤j then (match xs[j-i]? with | some x=>.av x | none=>σ (.c o j)) else σ (.c o j)
 | [],i,j,σ=>by simp [QaU,Qaf]
 | x::xs,i,j,σ=>by
  show Qaf (put σ (.c o i) (.av x)) (QaU o (i+1) xs) (.c o j)=_
  rw [QhK o xs (i+1) j _]
  by_cases h1:i=j
  ·subst h1
   have:¬i+1≤i:=by omega
   simp [this,put]
  ·have hne:Pl.c o j≠Pl.c o i:=by simp;omega
   by_cases h2:i≤j
   ·have h3:i+1≤j:=by omega
    have h4:j-i=(j-(i+1))+1:=by omega
    simp only [if_pos h2,if_pos h3,h4,List.getElem?_cons_succ,Qag _ _ hne]
   ·have h3:¬i+1≤j:=by omega
    simp only [if_neg h2,if_neg h3,Qag _ _ hne]
section
variable {C:Ctx} {E:Env} {σ:St} {a:Act} {w:World}
def QxH (o:Id) (G n:Nat) (xs:List AV):List (Pl × X):=(.g o,.num (G+1))::(.o o,.num n)::QaU o 0 xs
theorem Gm.object (h:Gm C E σ a w) (o:Id) (G:Nat) (hG:gg σ o=G) (ty:TypeId) (cs:Array Value) (xs:List AV) (hl:cs.size=xs.length)
  (hx:∀ i (hi:i<xs.length),RdA E σ xs[i] (cs[i]'(hl ▸ hi))) (hp:C.pins o=none) (h0:o.2=0) :
  ∃ E',Gm C E' (Qaf σ (QxH o G xs.length xs)) a (w.alloc (.cells cs ty))∧E'.m=E.m∧RdA E' (Qaf σ (QxH o G xs.length xs)) (.ptr o (G+1) 0) (.pointer (some ⟨w.heap.size,0,none⟩)):=by
 have hs0:=h.fr.size
 obtain ⟨σ1,hσ1⟩:∃ s,s=put (put σ (.g o) (.num (G+1))) (.o o) (.num xs.length):=⟨_,rfl⟩
 have hσ:Qaf σ (QxH o G xs.length xs)=Qaf σ1 (QaU o 0 xs):=by rw [hσ1];rfl
 have qg:∀ o',Qaf σ1 (QaU o 0 xs) (.g o')=if o'=o then .num (G+1) else σ (.g o'):=by
  intro o'
  rw [Qaw _ _ _ _ _ (by simp),hσ1,Qag _ _ (by simp)]
  by_cases e:o'=o
  ·subst e;simp [put]
  ·simp [put,e]
 have qo:∀ o',Qaf σ1 (QaU o 0 xs) (.o o')=if o'=o then .num xs.length else σ (.o o'):=by
  intro o'
  rw [Qaw _ _ _ _ _ (by simp),hσ1]
  by_cases e:o'=o
  ·subst e;simp [put]
  ·simp [put,e]
 have qk:∀ k,Qaf σ1 (QaU o 0 xs) (.k k)=σ (.k k):=by intro k;rw [Qaw _ _ _ _ _ (by simp),hσ1];simp [put]
 have qq:∀ k,Qaf σ1 (QaU o 0 xs) (.q k)=σ (.q k):=by intro k;rw [Qaw _ _ _ _ _ (by simp),hσ1];simp [put]
 have qs:∀ t,Qaf σ1 (QaU o 0 xs) (.s t)=σ (.s t):=by intro k;rw [Qaw _ _ _ _ _ (by simp),hσ1];simp [put]
 have qh:∀ k,Qaf σ1 (QaU o 0 xs) (.h k)=σ (.h k):=by intro k;rw [Qaw _ _ _ _ _ (by simp),hσ1];simp [put]
 have qr:∀ k,Qaf σ1 (QaU o 0 xs) (.r k)=σ (.r k):=by intro k;rw [Qaw _ _ _ _ _ (by simp),hσ1];simp [put]
 have ql:∀ k,Qaf σ1 (QaU o 0 xs) (.l k)=σ (.l k):=by intro k;rw [Qaw _ _ _ _ _ (by simp),hσ1];simp [put]
 have qc:∀ o' i,o'≠o→Qaf σ1 (QaU o 0 xs) (.c o' i)=σ (.c o' i):=by
  intro o' i e;rw [Qaw _ _ _ _ _ (by simp [e]),hσ1];simp [put]
 obtain ⟨E',hE'⟩:∃ E':Env,E' = { E with loc:=fun o'=>if o'=o then w.heap.size else E.loc o' }:=⟨_,rfl⟩
 have hm:E'.m=E.m:=by rw [hE']
 have hloc:∀ o',o'≠o→E'.loc o'=E.loc o':=by intro o' e;rw [hE'];simp [e]
 have hloco:E'.loc o=w.heap.size:=by rw [hE'];simp
 have hrv:E'.rv=E.rv:=by rw [hE']
 have hrx:E'.rx=E.rx:=by rw [hE']
 have hbv:E'.bv=E.bv:=by rw [hE']
 have hbf:E'.bf=E.bf:=by rw [hE']
 have qco:∀ j (hj:j<xs.length),Qaf σ1 (QaU o 0 xs) (.c o j)=.av xs[j]:=by
  intro j hj;rw [QhK];simp [hj]
 rw [hσ]
 clear hσ
 generalize Qaf σ1 (QaU o 0 xs)=σ2 at *
 have hfresh:∀ i,E.m w.heap.size i=none:=by
  intro i
  cases hc:E.m w.heap.size i with
  | none=>rfl
  | some v=>
   have:=h.ms _ _ _ hc
   simp [World.cell?] at this
 have hmo:Mo E σ E' σ2:=by
  refine ⟨by rw [hm];exact Mem.le_refl _,fun o'=>?_,fun k=>⟨Nat.le_of_eq (Qda (qq k)).symm,fun _ e sz T h2=>⟨T,by rw [←qk];exact h2,Nat.le_refl _,fun _=>by rw [hrv]⟩⟩,fun k=>⟨Nat.le_of_eq (QaL (qh k)).symm,fun _=>by rw [hbv]⟩⟩
  by_cases e:o'=o
  ·subst e
   have:gg σ2 o'=G+1:=QdO (by rw [qg,if_pos rfl])
   exact ⟨by omega,fun e=>absurd e (by omega)⟩
  ·have:gg σ2 o'=gg σ o':=Qaz (by rw [qg,if_neg e])
   exact ⟨by omega,fun _=>hloc _ e⟩
 have hA:=h.alloc (.cells cs ty)
 have hcell:∀ (b i:Nat) (v:Value),w.cell? ⟨b,i,none⟩=some v→(w.alloc (.cells cs ty)).cell? ⟨b,i,none⟩=some v:=by
  intro b i v hv
  rcases Nat.lt_or_ge b w.heap.size with hb | hb
  ·rw [World.cell?_of_block (w:=w) (a:=⟨b,i,none⟩) (Below.heap_alloc w _ b hb)];exact hv
  ·have:w.heap[b]? = none:=Array.getElem?_eq_none hb
   simp [World.cell?,this] at hv
 have hnlt:∀ o' n,σ (.o o')=.num n→E.loc o'<w.heap.size:=by
  intro o' n h1
  obtain ⟨⟨c1,t1,h2,_⟩,_⟩:=h.ob o' n h1
  exact (Array.getElem?_eq_some_iff.1 h2).1
 refine ⟨E',⟨h.sz,h.df,fun b i v hv=>hA.ms b i v (by rw [←hm];exact hv),hA.fr,fun t x h1=>(h.sl t x (by rw [←qs];exact h1)).mo hmo,fun o' i x n h1 h2 h3=>?_,fun o' n h1=>?_,fun k e s T h1=>?_,fun o1 o2 n n' h1 h2 h3=>?_,fun k k' e s T e' s' T' b h1 h2 h3 h4=>?_,fun o' n k e s T h1 h2=>?_,fun o' b h1=>?_,by rw [hm];exact h.ml,by rw [hm];exact h.mx,
  h.tr.step hmo hbv hbf (fun k x hx=>by rw [←qr];exact hx) (fun k i y hy=>by rw [←ql];exact hy) (fun k xs _ hk=>hloc k (fun e=>hk (by rw [e];exact h0))) (fun k x b _ _ hb h5=>⟨Below.heap_alloc w _ b hb,by rw [hm];exact h5⟩)
   (fun o' n k x h1 _ _ h4=>by
    by_cases e:o'=o
    ·subst e;rw [hloco] at h4;omega
    ·rw [qo,if_neg e] at h1;exact ⟨n,h1,hloc _ e⟩)
   (fun k' e s T b k x h1 _ _ h4 _=>⟨e,s,T,by rw [←qk];exact h1,by rw [←hrv];exact h4⟩)
   (fun o' k g s h1=>by
    by_cases e:o'=o
    ·rw [qo,if_pos e] at h1;cases h1
    ·rw [qo,if_neg e] at h1;exact ⟨h1,hloc _ e⟩)
   (fun b _ _ _ _ h=>Below.heap_alloc w _ b (Array.getElem?_eq_some_iff.1 h).1)⟩,hm,?_⟩
 ·by_cases e:o'=o
  ·subst e
   rw [qo,if_pos rfl] at h2
   cases h2
   rw [qco i h3] at h1
   cases h1
   refine ⟨cs[i]'(hl ▸ h3),?_,(hx i h3).mo hmo⟩
   rw [hloco]
   have:(w.alloc (.cells cs ty)).heap[w.heap.size]? = some (.cells cs ty (0,0)):=heap_alloc_new w _
   rw [cell_of_row _ _ _ _ _ _ this]
   simp [hl ▸ h3]
  ·rw [qo,if_neg e] at h2
   rw [qc _ _ e] at h1
   obtain ⟨v,hv,hr⟩:=h.ce o' i x n h1 h2 h3
   exact ⟨v,by rw [hloc _ e];exact hcell _ _ _ hv,hr.mo hmo⟩
 ·by_cases e:o'=o
  ·subst e
   rw [qo,if_pos rfl] at h1
   cases h1
   rw [hloco,hm]
   exact ⟨⟨cs,ty,heap_alloc_new w _,hl⟩,hfresh,.inr hs0⟩
  ·rw [qo,if_neg e] at h1
   rw [hloc _ e,hm]
   exact hA.ob o' n h1
 ·rw [qk] at h1
  rw [hrv,hrx,hm]
  exact hA.ro k e s T h1
 ·rw [qo] at h1 h2
  by_cases e1:o1=o
  ·by_cases e2:o2=o
   ·rw [e1,e2]
   ·rw [if_neg e2] at h2
    subst e1
    rw [hloco,hloc _ e2] at h3
    have:=hnlt o2 n' h2
    omega
  ·rw [if_neg e1] at h1
   by_cases e2:o2=o
   ·subst e2
    rw [hloco,hloc _ e1] at h3
    have:=hnlt o1 n h1
    omega
   ·rw [if_neg e2] at h2
    rw [hloc _ e1,hloc _ e2] at h3
    exact h.oo o1 o2 n n' h1 h2 h3
 ·rw [qk] at h1 h2
  rw [hrv] at h3 h4
  exact h.rr k k' e s T e' s' T' b h1 h2 h3 h4
 ·rw [qk] at h2
  rw [qo] at h1
  rw [hrv]
  by_cases e1:o'=o
  ·subst e1
   rw [hloco]
   intro he
   have:=((h.ro k e s T h2).1.lt _ he).2
   omega
  ·rw [if_neg e1] at h1
   rw [hloc _ e1]
   exact h.or o' n k e s T h1 h2
 ·by_cases e1:o'=o
  ·subst e1;rw [hp] at h1;cases h1
  ·rw [hloc _ e1];exact h.pi o' b h1
 ·have:gg σ2 o=G+1:=QdO (by rw [qg,if_pos rfl])
  exact ⟨by omega,fun _=>by rw [hloco]⟩
theorem Gm.store (h:Gm C E σ a w) (o:Id) (n i:Nat) (ho:σ (.o o)=.num n) (hi:i<n) (x:AV) (v:Value) (hx:RdA E σ x v) :
  Gm C E (put σ (.c o i) (.av x)) a (w.setCell ⟨E.loc o,i,none⟩ v)∧(∃ u,w.cell? ⟨E.loc o,i,none⟩=some u)∧w.frozen? ⟨E.loc o,i,none⟩=false:=by
 have hmo:Mo E σ E (put σ (.c o i) (.av x)):=Mo.same (fun o=>Qag _ _ (by simp)) (fun o=>Qag _ _ (by simp)) (fun o=>Qag _ _ (by simp)) (fun o=>Qag _ _ (by simp))
 have hO:∀ o',put σ (.c o i) (.av x) (.o o')=σ (.o o'):=fun o'=>Qag _ _ (by simp)
 have hK:∀ o',put σ (.c o i) (.av x) (.k o')=σ (.k o'):=fun o'=>Qag _ _ (by simp)
 have hS:∀ o',put σ (.c o i) (.av x) (.s o')=σ (.s o'):=fun o'=>Qag _ _ (by simp)
 obtain ⟨⟨cs,ty,hb,hn⟩,hm0,hD⟩:=h.ob o n ho
 have hcs:∃ u,w.cell? ⟨E.loc o,i,none⟩=some u:=⟨cs[i]'(hn ▸ hi),by simp [World.cell?,hb,hn ▸ hi]⟩
 have hself:(w.setCell ⟨E.loc o,i,none⟩ v).heap[E.loc o]? = some (.cells (cs.setIfInBounds i v) ty (0,0)):=by
  simp [World.setCell,Array.getElem?_modify,hb]
 have hoth:∀ k,k≠E.loc o→(w.setCell ⟨E.loc o,i,none⟩ v).heap[k]? = w.heap[k]?:=fun k hk=>heap_setCell_other w _ k v hk
 have hcell:∀ (b j:Nat),b≠E.loc o→(w.setCell ⟨E.loc o,i,none⟩ v).cell? ⟨b,j,none⟩=w.cell? ⟨b,j,none⟩:=fun b j hb=>World.cell?_of_block (hoth b hb)
 refine ⟨⟨h.sz,h.df,fun b j u hu=>?_,h.fr.setCell _ _ (fun hlt=>by rcases hD with hD | hD;exact hD;exact absurd hlt (by have:(⟨E.loc o,i,none⟩:Addr).block=E.loc o:=rfl;omega)),fun t y hy=>(h.sl t y (by rw [←hS];exact hy)).mo hmo,fun o' j y n' h1 h2 h3=>?_,fun o' n' h1=>?_,fun k e s T h1=>?_,
  fun o1 o2 n n' h1 h2=>h.oo o1 o2 n n' (by rw [←hO];exact h1) (by rw [←hO];exact h2),fun k k' e s T e' s' T' b h1 h2=>h.rr k k' e s T e' s' T' b (by rw [←hK];exact h1) (by rw [←hK];exact h2),
  fun o n k e s T h1 h2=>h.or o n k e s T (by rw [←hO];exact h1) (by rw [←hK];exact h2),h.pi,h.ml,h.mx,
  h.tr.beside hmo (fun o=>Qag _ _ (by simp)) (fun o=>Qag _ _ (by simp)) hO hK (fun k x b h1 h2 _=>hoth b (fun e=>h.tr.ot o n k x ho h1 (e ▸ h2))) (fun b _ _ _ _ hb'=>hoth b (fun e=>by rw [e,hb] at hb';cases hb'))⟩,hcs,by simp [World.frozen?,hb]⟩
 ·have hne:b≠E.loc o:=by rintro rfl;rw [hm0] at hu;cases hu
  rw [hcell _ _ hne]
  exact h.ms b j u hu
 ·rw [hO] at h2
  by_cases e:o'=o
  ·subst e
   have hn':n'=n:=by rw [ho] at h2;cases h2;rfl
   subst hn'
   by_cases ei:j=i
   ·subst ei
    rw [QaZ] at h1
    cases h1
    exact ⟨v,by simp [World.cell?,hself,hn ▸ h3],hx.mo hmo⟩
   ·rw [Qag _ _ (by simp [ei])] at h1
    obtain ⟨u,hu,hr⟩:=h.ce o' j y n' h1 h2 h3
    refine ⟨u,?_,hr.mo hmo⟩
    have hne:(⟨E.loc o',i,none⟩:Addr)≠⟨E.loc o',j,none⟩:=by simp [Ne.symm ei]
    rw [World.cell?_setCell_other _ _ _ _ hne]
    exact hu
  ·rw [Qag _ _ (by simp [e])] at h1
   obtain ⟨u,hu,hr⟩:=h.ce o' j y n' h1 h2 h3
   refine ⟨u,?_,hr.mo hmo⟩
   rw [hcell _ _ (fun he=>e (h.oo o' o n' n h2 ho he))]
   exact hu
 ·rw [hO] at h1
  obtain ⟨⟨c1,t1,h2,h3⟩,h4⟩:=h.ob o' n' h1
  refine ⟨?_,h4⟩
  by_cases e:E.loc o'=E.loc o
  ·rw [e]
   rw [e,hb] at h2
   cases h2
   exact ⟨_,_,hself,by simp [h3]⟩
  ·exact ⟨c1,t1,by rw [hoth _ e];exact h2,h3⟩
 ·rw [hK] at h1
  obtain ⟨h2,h3⟩:=h.ro k e s T h1
  exact ⟨QcG h2 fun b hb=>hoth b (fun he=>h.or o n k e s T ho h1 (by rw [hb,he])),h3⟩
end
end Go.Proofs.YthfocmakkeonoaaGreatDoor
namespace Go.Proofs.YthfocmakkeonoaaGreatDoor
open Go.RowKit
abbrev RW:=List (Pl × X) × List (Pl × X)
def QcP (W:List (Pl × X)):List Pl:=W.map (·.1)
def OpOk (P:Program) (ops:Array Oper) (C:Ctx) (o:Oper) (R W:List (Pl × X)):Prop:=
 ∀ (E:Env) (σ:St) (a:Act) (w:World) (K:Act→World→Prop) (Q:Exit→Act→World→Prop),(∀ d,o.dst=some d→d<C.nt)→(∀ p∈R,σ p.1=p.2)→Gm C E σ a w →
  (∀ a' w' E',Gm C E' (Qaf σ W) a' w'→K a' w')→if Region.wanted o (yielded ops a.tmps)=true then o.wp P a w K Q else K (a.put o.dst undef) w
inductive Tr (P:Program) (ops:Array Oper) (C:Ctx):List Oper→St→List RW→St→Prop where
 | nil (σ:St):Tr P ops C [] σ [] σ
 | cons (o:Oper) (rest:List Oper) (σ σ':St) (R W:List (Pl × X)) (tr:List RW) (h:OpOk P ops C o R W) (hr:∀ p∈R,σ p.1=p.2) (ht:Tr P ops C rest (Qaf σ W) tr σ'):Tr P ops C (o::rest) σ ((R,W)::tr) σ'
def sel (p:Nat→Bool):Nat→List RW→St→St
 | _,[],σ=>σ
 | i,rw::tr,σ=>sel p (i+1) tr (if p i then Qaf σ rw.2 else σ)
theorem Qcd:∀ (W:List (Pl × X)) (σ:St) (l:Pl),l∉QcP W→Qaf σ W l=σ l
 | [],_,_,_=>rfl
 | p::W,σ,l,h=>by
  simp only [QcP,List.map_cons,List.mem_cons,not_or] at h
  show Qaf (put σ p.1 p.2) W l=_
  rw [Qcd W _ l h.2,Qag _ _ h.1]
theorem QhL:∀ (W:List (Pl × X)) (σ σ':St) (l:Pl),l∈QcP W∨σ l=σ' l→Qaf σ W l=Qaf σ' W l
 | [],_,_,_,h=>by rcases h with h | h;cases h;exact h
 | p::W,σ,σ',l,h=>by
  show Qaf (put σ p.1 p.2) W l=Qaf (put σ' p.1 p.2) W l
  apply QhL W
  by_cases e:l=p.1
  ·right;subst e;rw [QaZ,QaZ]
  ·rcases h with h | h
   ·simp only [QcP,List.map_cons,List.mem_cons] at h
    exact .inl (h.resolve_left e)
   ·right;rw [Qag _ _ e,Qag _ _ e];exact h
theorem QnQ (p q:Nat→Bool) (l:Pl):∀ (tr:List RW) (i:Nat) (σ σ':St),(∀ j rw,tr[j]? = some rw→l∈QcP rw.2→p (i+j)=q (i+j))→σ l=σ' l→sel p i tr σ l=sel q i tr σ' l
 | [],_,_,_,_,h=>h
 | rw::tr,i,σ,σ',h,he=>by
  show sel p (i+1) tr _ l=sel q (i+1) tr _ l
  apply QnQ p q l tr
  ·intro j x hx hl
   have:=h (j+1) x (by simpa using hx) hl
   rwa [show i+(j+1)=i+1+j by omega] at this
  ·by_cases hl:l∈QcP rw.2
   ·have h0:=h 0 rw rfl hl
    simp only [Nat.add_zero] at h0
    rw [h0]
    cases q i
    ·exact he
    ·exact QhL _ _ _ _ (.inl hl)
   ·have e1:∀ (b:Bool) (s:St),(if b then Qaf s rw.2 else s) l=s l:=by intro b s;cases b;rfl;exact Qcd _ _ _ hl
    rw [e1,e1]
    exact he
theorem QnR (p:Nat→Bool) (l:Pl):∀ (tr:List RW) (i k:Nat) (σ σ':St) (rw:RW),tr[k]? = some rw→l∈QcP rw.2→p (i+k)=true→(∀ j x,k<j→tr[j]? = some x→l∈QcP x.2→p (i+j)=false) →
  sel p i tr σ l=Qaf σ' rw.2 l
 | [],_,_,_,_,_,h,_,_,_=>by simp at h
 | x::tr,i,0,σ,σ',rw,h,hl,hp,hn=>by
  simp only [List.getElem?_cons_zero,Option.some.injEq] at h
  subst h
  simp only [Nat.add_zero] at hp
  show sel p (i+1) tr (if p i then Qaf σ x.2 else σ) l=_
  rw [if_pos hp,QnQ p (fun _=>false) l tr (i+1) _ (Qaf σ' x.2) (fun j y hy hl'=>?_) (QhL _ _ _ _ (.inl hl))]
  ·clear hn hp
   generalize Qaf σ' x.2=s
   generalize i+1=k
   induction tr generalizing k with
   | nil=>rfl
   | cons y tr ih=>exact ih _
  ·have:=hn (j+1) y (by omega) (by simpa using hy) hl'
   rwa [show i+(j+1)=i+1+j by omega] at this
 | x::tr,i,k+1,σ,σ',rw,h,hl,hp,hn=>by
  show sel p (i+1) tr _ l=_
  refine QnR p l tr (i+1) k _ σ' rw (by simpa using h) hl (by rw [show i+1+k=i+(k+1) by omega];exact hp) (fun j y hj hy hl'=>?_)
  have:=hn (j+1) y (by omega) (by simpa using hy) hl'
  rwa [show i+(j+1)=i+1+j by omega] at this
theorem Qri:∀ (tr:List RW) (i:Nat) (σ:St) (p:Nat→Bool),(∀ j,j<tr.length→p (i+j)=true)→sel p i tr σ=tr.foldl (fun s x=>Qaf s x.2) σ
 | [],_,_,_,_=>rfl
 | x::tr,i,σ,p,h=>by
  show sel p (i+1) tr (if p i then Qaf σ x.2 else σ)=_
  rw [if_pos (by simpa using h 0 (by simp)),Qri tr (i+1) _ p (fun j hj=>by have:=h (j+1) (by simpa using hj);rwa [show i+(j+1)=i+1+j by omega] at this)]
  rfl
theorem QjY:∀ (tr:List RW) (i:Nat) (σ:St) (p:Nat→Bool),(∀ j,j<tr.length→p (i+j)=false)→sel p i tr σ=σ
 | [],_,_,_,_=>rfl
 | x::tr,i,σ,p,h=>by
  show sel p (i+1) tr (if p i then Qaf σ x.2 else σ)=_
  rw [if_neg (by have:=h 0 (by simp);simp at this;simp [this]),QjY tr (i+1) _ p (fun j hj=>by have:=h (j+1) (by simpa using hj);rwa [show i+(j+1)=i+1+j by omega] at this)]
section
variable {P:Program} {ops:Array Oper} {C:Ctx}
theorem Tr.length:∀ {l:List Oper} {σ σ':St} {tr:List RW},Tr P ops C l σ tr σ'→tr.length=l.length
 | _,_,_,_,.nil _=>rfl
 | _,_,_,_,.cons _ _ _ _ _ _ _ _ _ ht=>by simp [ht.length]
theorem Tr.final:∀ {l:List Oper} {σ σ':St} {tr:List RW},Tr P ops C l σ tr σ'→σ'=tr.foldl (fun s x=>Qaf s x.2) σ
 | _,_,_,_,.nil _=>rfl
 | _,_,_,_,.cons _ _ _ _ _ _ _ _ _ ht=>ht.final
theorem Tr.ok:∀ {l:List Oper} {σ σ':St} {tr:List RW},Tr P ops C l σ tr σ'→∀ (i:Nat) (o:Oper) (rw:RW),l[i]? = some o→tr[i]? = some rw→OpOk P ops C o rw.1 rw.2
 | _,_,_,_,.nil _,i,o,rw,h,_=>by simp at h
 | _,_,_,_,.cons _ _ _ _ _ _ _ h0 _ ht,0,o,rw,h,h'=>by simp at h h';subst h;subst h';exact h0
 | _,_,_,_,.cons _ _ _ _ _ _ _ h0 _ ht,i+1,o,rw,h,h'=>ht.ok i o rw (by simpa using h) (by simpa using h')
theorem Tr.read:∀ {l:List Oper} {σ σ':St} {tr:List RW},Tr P ops C l σ tr σ'→∀ (k i:Nat) (rw:RW),tr[i]? = some rw→∀ x∈rw.1,sel (fun j=>decide (j<k+i)) k tr σ x.1=x.2
 | _,_,_,_,.nil _,k,i,rw,h,_,_=>by simp at h
 | _,σ,_,_,.cons _ _ _ _ R W tr _ hr ht,k,0,rw,h,x,hx=>by
  simp at h
  subst h
  rw [QjY _ _ _ _ (fun j hj=>by simp)]
  exact hr x hx
 | _,σ,_,_,.cons _ _ _ _ R W tr _ hr ht,k,i+1,rw,h,x,hx=>by
  have:=ht.read (k+1) i rw (by simpa using h) x hx
  show sel _ (k+1) tr (if decide (k<k+(i+1)) then Qaf σ W else σ) x.1=_
  rw [if_pos (by simp)]
  rw [←this]
  congr 1
  funext j
  rw [show k+(i+1)=k+1+i by omega]
def Qk4 (acc:Array Nat) (o:Oper):Nat:=o.after.toList.foldl (fun s e=>if Region.binds .any e then s ||| 2 ^ e.on ||| acc.getD e.on 0 else s) 0
def Qyu (acc:Array Nat):List Oper→Array Nat
 | []=>acc
 | o::l=>Qyu (acc.push (Qk4 acc o)) l
abbrev FP:=List Pl × List Pl
def QhM (a:RW):FP:=(QcP a.1,QcP a.2)
def QjZ (a b:FP):Bool:=a.2.any (fun l=>b.1.contains l || b.2.contains l) || a.1.any (fun l=>b.2.contains l)
def Qk5 (bf:Array Nat) (j:Nat) (b:FP):Nat→List FP→Bool
 | _,[]=>true
 | i,a::l=>if i<j then (!QjZ a b || (bf.getD j 0).testBit i) && Qk5 bf j b (i+1) l else true
def QnS (bf:Array Nat) (all:List FP):Nat→List FP→Bool
 | _,[]=>true
 | j,b::l=>Qk5 bf j b 0 all && QnS bf all (j+1) l
def Qj0:Nat→List Oper→Bool
 | _,[]=>true
 | j,o::l=>o.after.toList.all (fun e=>!Region.binds .any e || decide (e.on<j)) && Qj0 (j+1) l
def QdP (nt:Nat) (l:List Oper):Bool:=l.all fun o=>match o.dst with | some d=>decide (d<nt) | none=>true
def chk (ops:List Oper) (tr:List FP):Bool:=Qj0 0 ops && QnS (Qyu #[] ops) tr 0 tr
theorem Qgp {nt:Nat} {l:List Oper} (h:QdP nt l=true) {i:Nat} {o:Oper} (ho:l[i]? = some o):∀ d,o.dst=some d→d<nt:=by
 intro d hd
 have:=List.all_eq_true.1 h o (List.mem_of_getElem? ho)
 rw [hd] at this
 simpa using this
theorem Qgq {bf:Array Nat} {j:Nat} {b:FP}:∀ (l:List FP) (i:Nat),Qk5 bf j b i l=true→∀ k a,l[k]? = some a→i+k<j→QjZ a b=true→(bf.getD j 0).testBit (i+k)=true
 | [],_,_,k,a,h,_,_=>by simp at h
 | x::l,i,h,k,a,hk,hlt,hc=>by
  unfold Qk5 at h
  rw [if_pos (by omega),Bool.and_eq_true] at h
  cases k with
  | zero=>simp at hk;subst hk;simpa [hc] using h.1
  | succ k=>have:=Qgq l (i+1) h.2 k a (by simpa using hk) (by omega) hc;rwa [show i+(k+1)=i+1+k by omega]
theorem Qgr {bf:Array Nat} {all:List FP}:∀ (l:List FP) (j:Nat),QnS bf all j l=true→∀ k b,l[k]? = some b→Qk5 bf (j+k) b 0 all=true
 | [],_,_,k,b,h=>by simp at h
 | x::l,j,h,k,b,hk=>by
  unfold QnS at h
  rw [Bool.and_eq_true] at h
  cases k with
  | zero=>simp at hk;subst hk;exact h.1
  | succ k=>have:=Qgr l (j+1) h.2 k b (by simpa using hk);rwa [show j+(k+1)=j+1+k by omega]
theorem QhN:∀ (l:List Oper) (j:Nat),Qj0 j l=true→∀ k o,l[k]? = some o→∀ e∈o.after,Region.binds .any e=true→e.on<j+k
 | [],_,_,k,b,h=>by simp at h
 | x::l,j,h,k,o,hk=>by
  unfold Qj0 at h
  rw [Bool.and_eq_true] at h
  cases k with
  | zero=>
   simp at hk;subst hk
   intro e he hb
   have:=List.all_eq_true.1 h.1 e (by simpa using he)
   simpa [hb] using this
  | succ k=>intro e he hb;have:=QhN l (j+1) h.2 k o (by simpa using hk) e he hb;omega
theorem QnT (acc:Array Nat) (i:Nat):∀ (l:List Edge) (s:Nat),(l.foldl (fun s e=>if Region.binds .any e then s ||| 2 ^ e.on ||| acc.getD e.on 0 else s) s).testBit i=true →
  s.testBit i=true∨∃ e∈l,Region.binds .any e=true∧(i=e.on∨(acc.getD e.on 0).testBit i=true)
 | [],s,h=>.inl h
 | e::l,s,h=>by
  simp only [List.foldl_cons] at h
  rcases QnT acc i l _ h with h1 | ⟨e',he',h2⟩
  ·by_cases hb:Region.binds .any e=true
   ·rw [if_pos hb,Nat.testBit_or,Nat.testBit_or,Bool.or_eq_true,Bool.or_eq_true] at h1
    rcases h1 with (h1 | h1) | h1
    ·exact .inl h1
    ·rw [Nat.testBit_two_pow] at h1
     exact .inr ⟨e,by simp,hb,.inl (by simpa using (of_decide_eq_true h1).symm)⟩
    ·exact .inr ⟨e,by simp,hb,.inr h1⟩
   ·rw [if_neg hb] at h1
    exact .inl h1
  ·exact .inr ⟨e',by simp [he'],h2⟩
theorem QmA (S:Nat→Prop):∀ (l:List Oper) (acc:Array Nat),(∀ j i,j<acc.size→S j→(acc.getD j 0).testBit i=true→S i) →
  (∀ k o,l[k]? = some o→S (acc.size+k)→∀ e∈o.after,Region.binds .any e=true→S e.on)→(∀ k o,l[k]? = some o→∀ e∈o.after,Region.binds .any e=true→e.on<acc.size+k) →
  ∀ j i,j<acc.size+l.length→S j→((Qyu acc l).getD j 0).testBit i=true→S i
 | [],acc,h,_,_,j,i,hj,hS,hb=>h j i (by simpa using hj) hS hb
 | o::l,acc,h,hd,he,j,i,hj,hS,hb=>by
  refine QmA S l (acc.push (Qk4 acc o)) ?_ (fun k o' hk hs=>hd (k+1) o' (by simpa using hk) (by rw [Array.size_push] at hs;rwa [show acc.size+(k+1)=acc.size+1+k by omega]))
   (fun k o' hk e hm hbd=>by have:=he (k+1) o' (by simpa using hk) e hm hbd;rw [Array.size_push];omega) j i (by rw [Array.size_push];simp at hj;omega) hS hb
  intro j i hj hs hb
  rw [Array.size_push] at hj
  by_cases hje:j<acc.size
  ·have:(acc.push (Qk4 acc o)).getD j 0=acc.getD j 0:=by simp [Array.getElem?_push,Nat.ne_of_lt hje]
   rw [this] at hb
   exact h j i hje hs hb
  ·have hjj:j=acc.size:=by omega
   subst hjj
   have:(acc.push (Qk4 acc o)).getD acc.size 0=Qk4 acc o:=by simp
   rw [this] at hb
   rcases QnT acc i _ _ hb with h1 | ⟨e,hm,hbd,h2⟩
   ·simp at h1
   ·have hSe:=hd 0 o rfl (by simpa using hs) e (by simpa using hm) hbd
    rcases h2 with rfl | h2
    ·exact hSe
    ·exact h e.on i (by have:=he 0 o rfl e (by simpa using hm) hbd;simpa using this) hSe h2
theorem Qjo {id:Nat} {Q:Exit→Act→World→Prop} {l:List Oper} {σ σ':St} {tr:List RW} {a:Act} {w:World} {E:Env} (hm:P.follows .mixedOrders=true)
  (ht:Tr P l.toArray C l σ tr σ') (hc:chk l (tr.map QhM)=true) (hds:QdP C.nt l=true) (hg:Gm C E σ a w) (hQ:∀ E a w,Gm C E σ' a w→Q .normal a w):(Code.region id l.toArray true).wp P Q a w:=by
 apply wp_region_any hm
 unfold chk at hc
 rw [Bool.and_eq_true] at hc
 obtain ⟨hedge,hchk⟩:=hc
 have hlen:=ht.length
 have hE:=QhN l 0 hedge
 simp only [Nat.zero_add] at hE
 have key:∀ (fuel:Nat) (listed:Array Bool) (a:Act) (w:World),listed.size=l.length →
   (∀ j,listed.getD j false=true→∀ o,l[j]? = some o→∀ e∈o.after,Region.binds .any e=true→listed.getD e.on false=true) →
   (∃ E,Gm C E (sel (fun j=>listed.getD j false) 0 tr σ) a w)→(listed.toList.count false≤fuel)→wpAny P .any l.toArray Q fuel listed a w:=by
  intro fuel
  have hdone:∀ (listed:Array Bool) (a:Act) (w:World),listed.size=l.length→(∃ E,Gm C E (sel (fun j=>listed.getD j false) 0 tr σ) a w)→Region.ready .any l.toArray listed=[]→Q .normal a w:=by
   intro listed a w hs ⟨E,hG⟩ hr
   have hall:∀ j,j<l.length→listed.getD j false=true:=by
    intro j
    induction j using Nat.strongRecOn with
    | _ j ih=>
     intro hj
     cases hx:listed.getD j false with
     | true=>rfl
     | false=>
      have hmem:j∈Region.ready .any l.toArray listed:=by
       rw [mem_ready]
       refine ⟨?_,l[j],by simp [hj],fun e he hb=>ih e.on (hE j l[j] (by simp [hj]) e he hb) ?_⟩
       ·have:j<listed.size:=by omega
        simp [Array.getD_eq_getD_getElem?,this] at hx ⊢
        exact hx
       ·have:=hE j l[j] (by simp [hj]) e he hb;omega
      rw [hr] at hmem
      cases hmem
   rw [Qri tr 0 σ _ (fun j hj=>by simpa using hall j (by omega)),←ht.final] at hG
   exact hQ E a w hG
  induction fuel with
  | zero=>
   intro listed a w hs hd hG hcount
   have hr:Region.ready .any l.toArray listed=[]:=by
    cases hr:Region.ready .any l.toArray listed with
    | nil=>rfl
    | cons j _=>
     have hj:j∈Region.ready .any l.toArray listed:=by rw [hr];simp
     rw [mem_ready] at hj
     have hlt:j<listed.size:=by
      obtain ⟨_,o,ho,_⟩:=hj
      have:=(Array.getElem?_eq_some_iff.1 ho).1
      simp at this;omega
     have h0:=hj.1
     simp [Array.getD_eq_getD_getElem?,hlt] at h0
     have:false∈listed.toList:=by rw [←h0];simp
     have:=List.count_pos_iff.2 this
     omega
   exact ⟨hr,hdone listed a w hs hG hr⟩
  | succ fuel ih=>
   intro listed a w hs hd hG hcount
   refine ⟨hdone listed a w hs hG,fun i hi=>?_⟩
   rw [mem_ready] at hi
   obtain ⟨hi0,o,ho,hpre⟩:=hi
   have hil:i<l.length:=by have:=(Array.getElem?_eq_some_iff.1 ho).1;simpa using this
   have hol:l[i]? = some o:=by simpa using ho
   have hi0':listed.getD i false=false:=by
    have:i<listed.size:=by omega
    simp [Array.getD_eq_getD_getElem?,this] at hi0 ⊢
    exact hi0
   obtain ⟨rw,hrw⟩:∃ rw,tr[i]? = some rw:=⟨tr[i]'(by omega),by simp [hlen,hil]⟩
   have hok:=ht.ok i o rw hol hrw
   obtain ⟨E,hG⟩:=hG
   -- what is listed,or is i,is closed
   have hcl1:∀ j i',j<l.length→listed.getD j false=true→((Qyu #[] l).getD j 0).testBit i'=true→listed.getD i' false=true:=
    fun j i' hj=>QmA (fun j=>listed.getD j false=true) l #[] (by intro j i h;simp at h) (fun k o hk hs e he hb=>hd k (by simpa using hs) o hk e he hb) (fun k o hk e he hb=>by have:=hE k o hk e he hb;simpa using this) j i' (by simpa using hj)
   have hbi:∀ i',((Qyu #[] l).getD i 0).testBit i'=true→i'=i∨listed.getD i' false=true:=by
    intro i' hb
    refine QmA (fun j=>j=i∨listed.getD j false=true) l #[] (by intro j i h;simp at h) (fun k o' hk hs e he hbd=>?_) (fun k o hk e he hb=>by have:=hE k o hk e he hb;simpa using this) i i' (by simpa using hil) (.inl rfl) hb
    simp only [List.size_toArray,List.length_nil,Nat.zero_add] at hs
    rcases hs with rfl | hs
    ·rw [hol] at hk;cases hk;exact .inr (hpre e he hbd)
    ·exact .inr (hd k hs o' hk e he hbd)
   have hcla:∀ j b,tr[j]? = some b→i<j→QjZ (QhM rw) (QhM b)=true→((Qyu #[] l).getD j 0).testBit i=true:=fun j b hj hij hcl=>by
    have:=Qgq (tr.map QhM) 0 (by simpa using Qgr (tr.map QhM) 0 hchk j (QhM b) (by simp [hj])) i (QhM rw) (by simp [hrw]) (by omega) hcl
    simpa using this
   have hclb:∀ j b,tr[j]? = some b→j<i→QjZ (QhM b) (QhM rw)=true→((Qyu #[] l).getD i 0).testBit j=true:=fun j b hj hij hcl=>by
    have:=Qgq (tr.map QhM) 0 (by simpa using Qgr (tr.map QhM) 0 hchk i (QhM rw) (by simp [hrw])) j (QhM b) (by simp [hj]) (by omega) hcl
    simpa using this
   have hnot:∀ j b,tr[j]? = some b→i<j→QjZ (QhM rw) (QhM b)=true→listed.getD j false=false:=by
    intro j b hj hij hcl
    cases hx:listed.getD j false with
    | false=>rfl
    | true=>
     have:=hcl1 j i (by have:=(List.getElem?_eq_some_iff.1 hj).1;omega) hx (hcla j b hj hij hcl)
     rw [hi0'] at this
     cases this
   have hyes:∀ j b,tr[j]? = some b→j<i→QjZ (QhM b) (QhM rw)=true→listed.getD j false=true:=fun j b hj hij hcl=>(hbi j (hclb j b hj hij hcl)).resolve_left (by omega)
   have hread:∀ x∈rw.1,sel (fun j=>listed.getD j false) 0 tr σ x.1=x.2:=by
    intro x hx
    rw [←ht.read 0 i rw hrw x hx]
    refine QnQ _ _ x.1 tr 0 σ σ (fun j b hj hl=>?_) rfl
    have hxl:x.1∈QcP rw.1:=List.mem_map.2 ⟨x,hx,rfl⟩
    simp only [Nat.zero_add]
    rcases Nat.lt_trichotomy j i with h | h | h
    ·rw [hyes j b hj h (by unfold QjZ;rw [Bool.or_eq_true];left;rw [List.any_eq_true];exact ⟨x.1,hl,by simp [QhM,hxl]⟩)]
     simp [h]
    ·subst h;rw [hi0'];simp
    ·rw [hnot j b hj h (by unfold QjZ;rw [Bool.or_eq_true];right;rw [List.any_eq_true];exact ⟨x.1,hxl,by simp [QhM,hl]⟩)]
     simp;omega
   have hnext:Qaf (sel (fun j=>listed.getD j false) 0 tr σ) rw.2=sel (fun j=>(listed.setIfInBounds i true).getD j false) 0 tr σ:=by
    funext x
    by_cases hx:x∈QcP rw.2
    ·symm
     refine QnR _ x tr 0 i _ _ rw hrw hx (by simp;omega) (fun j b hij hj hl=>?_)
     simp only [Nat.zero_add]
     rw [getD_set_ne false (by omega)]
     exact hnot j b hj hij (by unfold QjZ;rw [Bool.or_eq_true];left;rw [List.any_eq_true];exact ⟨x,hx,by simp [QhM,hl]⟩)
    ·rw [Qcd _ _ _ hx]
     refine QnQ _ _ x tr 0 σ σ (fun j b hj hl=>?_) rfl
     simp only [Nat.zero_add]
     by_cases hji:j=i
     ·subst hji;rw [hrw] at hj;cases hj;exact absurd hl hx
     ·rw [getD_set_ne false (Ne.symm hji)]
   have hgo:=hok E _ a w (fun a' w'=>wpAny P .any l.toArray Q fuel (listed.setIfInBounds i true) a' w') Q (Qgp hds hol) hread hG (fun a' w' E' hG'=>by
    refine ih (listed.setIfInBounds i true) a' w' (by simpa using hs) (fun j hj o' ho' e he hb=>?_) ⟨E',by rw [←hnext];exact hG'⟩ ?_
    ·by_cases hji:j=i
     ·subst hji;rw [hol] at ho';cases ho';exact getD_set_true (hpre e he hb)
     ·rw [getD_set_ne false (Ne.symm hji)] at hj
      exact getD_set_true (hd j hj o' ho' e he hb)
    ·have hlt:i<listed.size:=by omega
     have hx:listed[i]=false:=by simpa [Array.getD_eq_getD_getElem?,hlt] using hi0'
     have:(listed.setIfInBounds i true).toList.count false=listed.toList.count false-1:=by
      rw [Array.toList_setIfInBounds]
      have hl':i<listed.toList.length:=by simpa using hlt
      have hx':listed.toList[i]=false:=by rw [Array.getElem_toList];exact hx
      rw [List.count_set hl',hx']
      simp
     omega)
   unfold wpOp
   rw [ho]
   simp only
   split
   ·rename_i hw;rw [if_pos hw] at hgo;exact .inl hgo
   ·rename_i hw;rw [if_neg hw] at hgo;exact hgo
 exact key _ _ _ _ (by simp) (fun j hj=>by simp [Array.getD_eq_getD_getElem?,Array.getElem?_replicate] at hj;split at hj <;> simp at hj) ⟨E,by
  rw [QjY tr 0 σ _ (fun j hj=>by simp [Array.getElem?_replicate];split <;> rfl)];exact hg.drawn _⟩ (by simp)
end
end Go.Proofs.YthfocmakkeonoaaGreatDoor
namespace Go.Proofs.YthfocmakkeonoaaGreatDoor
open Go.RowKit
inductive Sh where
 | bool | int (k:IntKind) | str | slice | array (n:Nat) | strct | ptr | map | other
structure TI where
 sh:Sh
 agg:Bool
 size:Nat
 bytes:Nat
 zero:List Value
 elem:TypeId
 fields:List (Nat × Nat × Bool)
 fok:Bool
 zok:Bool
def Qao (P:Program) (t:TypeId):Option TI:=
 match P.info? t,P.underlying t with
 | some i,some d=>some {
  sh:=match d with | .bool=>.bool | .int k=>.int k | .string=>.str | .slice _=>.slice | .array n _=>.array n | .struct _=>.strct | .pointer _=>.ptr | .map _ _=>.map | _=>.other
  agg:=match d with | .struct _ | .array _ _=>true | _=>false
  size:=i.size
  bytes:=i.bytes
  zero:=match i.zero with | some z=>z.cells.toList | none=>[]
  elem:=match d with | .slice e | .array _ e | .pointer e | .map _ e=>e | _=>0
  fields:=match d with | .struct fs=>fs.toList.map fun f=>(f.offset,((P.info? f.type).map (·.size)).getD 0,(match P.underlying f.type with | some (.struct _) | some (.array _ _)=>true | _=>false)) | _=>[]
  fok:=match d with | .struct fs=>fs.toList.all fun f=>(P.info? f.type).isSome | _=>true
  zok:=i.zero.isSome }
 | _,_=>none
theorem Qak {P:Program} {t:TypeId} {T:TI} (h:Qao P t=some T):∃ i d,P.info? t=some i∧P.underlying t=some d∧T.size=i.size∧T.bytes=i.bytes ∧
  T.agg=(match d with | .struct _ | .array _ _=>true | _=>false)∧(T.sh=.slice→d=.slice T.elem)∧(∀ n,T.sh=.array n→d=.array n T.elem)∧(T.sh=.str→d=.string)∧(∀ k,T.sh=.int k→d=.int k)∧(T.sh=.bool→d=.bool) ∧
  (T.sh=.strct→∃ fs,d=.struct fs∧T.fields=fs.toList.map fun f=>(f.offset,((P.info? f.type).map (·.size)).getD 0,(match P.underlying f.type with | some (.struct _) | some (.array _ _)=>true | _=>false))) ∧
  (T.zero=match i.zero with | some z=>z.cells.toList | none=>[])∧(T.sh=.map→∃ k,d=.map k T.elem)∧(T.sh=.ptr→d=.pointer T.elem)∧(T.fok=match d with | .struct fs=>fs.toList.all fun f=>(P.info? f.type).isSome | _=>true) ∧
  T.zok=i.zero.isSome:=by
 unfold Qao at h
 cases hi:P.info? t with
 | none=>rw [hi] at h;cases h
 | some i=>
  cases hd:P.underlying t with
  | none=>rw [hi,hd] at h;cases h
  | some d=>
   rw [hi,hd] at h
   simp only [Option.some.injEq] at h
   subst h
   refine ⟨i,d,rfl,rfl,rfl,rfl,rfl,?_,?_,?_,?_,?_,?_,rfl,?_,?_,rfl,rfl⟩ <;> cases d <;> simp
def ev (σ:St):Operand→AV
 | .tmp t=>match σ (.s t) with | .av x=>x | _=>.val .any
 | .const v=>.val (.sc v)
 | .global g=>.val (.sc (.pointer (some ⟨g,0,none⟩)))
 | .func f=>.val (.sc (.func (.func f) #[] #[]))
def rdl:Operand→List Pl
 | .tmp t=>[.s t]
 | _=>[]
def rds (σ:St) (L:List Pl):List (Pl × X):=L.map fun l=>(l,σ l)
theorem Qae {σ σ':St} {x:Operand} (h:∀ l∈rdl x,σ' l=σ l):ev σ' x=ev σ x:=by
 cases x with
 | tmp t=>simp only [ev];rw [h (.s t) (by simp [rdl])]
 | _=>rfl
section
variable {P:Program} {ops:Array Oper} {C:Ctx} {E:Env} {σ:St} {a:Act} {w:World}
theorem Qax (h:Gm C E σ a w) (x:Operand):RdA E σ (ev σ x) (a.eval x):=by
 cases x with
 | tmp t=>
  show RdA E σ (ev σ (.tmp t)) (a.tmps.getD t undef)
  simp only [ev]
  split
  ·rename_i x hx;exact h.sl t x hx
  ·exact Rd.any _
 | _=>exact Rd.sc _
abbrev Stp:=Option (Prop × List Pl × List (Pl × X))
def Qbl (P:Program) (C:Ctx) (σ:St) (d:Option Tmp) (op:Op) (st:Stp):Prop:=
 ∀ c L W,st=some (c,L,W)→c→∀ ops ty pos af,OpOk P ops C ⟨d,op,ty,pos,af,none⟩ (rds σ L) W
theorem QcS {σ σ':St} {L:List Pl} (h:∀ p∈rds σ L,σ' p.1=p.2):∀ l∈L,σ' l=σ l:=fun l hl=>h (l,σ l) (List.mem_map.2 ⟨l,hl,rfl⟩)
theorem QaV {d:Tmp} {op:Op} {c:Prop} {L:List Pl} {W0:List (Pl × X)} {x:AV}
  (h:c→∀ ty pos af E σ' a w,(∀ l∈L,σ' l=σ l)→Gm C E σ' a w→(d<C.nt)→∃ v w' E',(execOp a.eval ⟨some d,op,ty,pos,af,none⟩).run P w=.ok (.value v) w'∧Gm C E' (Qaf σ' W0) a w'∧RdA E' (Qaf σ' W0) x v) :
  Qbl P C σ (some d) op (some (c,L,W0++[(.s d,.av x)])):=by
 intro c' L' W' he hc ops ty pos af E σ' a w K Q hd hr hg hK
 simp only [Option.some.injEq,Prod.mk.injEq] at he
 obtain ⟨rfl,rfl,rfl⟩:=he
 obtain ⟨v,w',E',h1,h2,h3⟩:=h hc ty pos af E σ' a w (QcS hr) hg (hd d rfl)
 rw [if_pos (by simp [Region.wanted])]
 show Oper.upon _ _ _ _ _ _
 rw [h1]
 refine hK _ _ E' ?_
 rw [Qal]
 exact h2.slot d x v (hd d rfl) h3
theorem Qar {d:Tmp} {op:Op} {c:Prop} {L:List Pl} {x:AV}
  (h:c→∀ ty pos af E σ' a w,(∀ l∈L,σ' l=σ l)→Gm C E σ' a w→∃ v,(execOp a.eval ⟨some d,op,ty,pos,af,none⟩).run P w=.ok (.value v) w∧RdA E σ' x v) :
  Qbl P C σ (some d) op (some (c,L,[(.s d,.av x)])):=by
 refine QaV (W0:=[]) fun hc ty pos af E σ' a w hr hg _=>?_
 obtain ⟨v,h1,h2⟩:=h hc ty pos af E σ' a w hr hg
 exact ⟨v,w,E,h1,hg,h2⟩
def QhO (σ:St) (d:Tmp) (x:Operand):Stp:=some (True,rdl x,[(.s d,.av (ev σ x))])
theorem Qyv (d:Tmp) (x:Operand):Qbl P C σ (some d) (.move x) (QhO σ d x):=
 Qar fun _ ty pos af E σ' a w hr hg=>⟨a.eval x,by simp [execOp],by rw [←Qae hr];exact Qax hg x⟩
theorem Qrj (d:Tmp) (x:Operand):Qbl P C σ (some d) (.assign x) (QhO σ d x):=
 Qar fun _ ty pos af E σ' a w hr hg=>⟨a.eval x,by simp [execOp],by rw [←Qae hr];exact Qax hg x⟩
def Qhq (σ:St) (x:Operand):Option Value:=match ev σ x with | .val (.sc v)=>some v | _=>none
theorem QaS {σ':St} {x:Operand} {v:Value} (hs:Qhq σ x=some v) (hr:∀ l∈rdl x,σ' l=σ l) (h:Gm C E σ' a w):a.eval x=v:=by
 have h1:=Qax h x
 rw [Qae hr] at h1
 unfold Qhq at hs
 cases he:ev σ x with
 | val y=>
  rw [he] at hs h1
  cases y with
  | sc u=>simp at hs;subst hs;exact Rd.sc_eq h1
  | _=>simp at hs
 | _=>rw [he] at hs;simp at hs
theorem Qaq {L M:List Pl} {σ σ':St} (h:∀ l∈L++M,σ' l=σ l):(∀ l∈L,σ' l=σ l)∧(∀ l∈M,σ' l=σ l):=
 ⟨fun l hl=>h l (List.mem_append_left _ hl),fun l hl=>h l (List.mem_append_right _ hl)⟩
def Qk6 (σ:St) (d:Tmp) (c x y:Operand):Stp:=
 match Qhq σ c with
 | some (.bool b)=>some (True,rdl c++(rdl x++rdl y),[(.s d,.av (if b then ev σ x else ev σ y))])
 | _=>none
theorem Qyw (d:Tmp) (c x y:Operand):Qbl P C σ (some d) (.pick c x y) (Qk6 σ d c x y):=by
 unfold Qk6
 split
 ·rename_i b hb
  refine Qar fun _ ty pos af E σ' a w hr hg=>?_
  obtain ⟨h1,h2⟩:=Qaq hr
  obtain ⟨h3,h4⟩:=Qaq h2
  have e:=QaS hb h1 hg
  refine ⟨if b then a.eval x else a.eval y,by cases b <;> simp [execOp,e,asBool],?_⟩
  cases b
  ·rw [if_neg (by simp),if_neg (by simp),←Qae h4];exact Qax hg y
  ·rw [if_pos rfl,if_pos rfl,←Qae h3];exact Qax hg x
 ·intro _ _ _ h;cases h
def Qhh (op:BinOp) (k:IntKind) (x y:Int):Int:=
 let a:=BitVec.ofInt k.bits x
 let b:=BitVec.ofInt k.bits y
 match op with
 | .and=>k.wrap (a &&& b).toNat
 | .or=>k.wrap (a ||| b).toNat
 | .xor=>k.wrap (a ^^^ b).toNat
 | _=>k.wrap (a &&& ~~~b).toNat
def QAZ (op:BinOp) (x y:Value):Option (Prop × Value):=
 match op,x,y with
 | .shl,.int k a,.int _ b=>some (0≤b,.int k (k.wrap (a * 2 ^ (min b.toNat k.bits))))
 | .shr,.int k a,.int _ b=>some (0≤b,.int k (a.fdiv (2 ^ (min b.toNat k.bits))))
 | .add,.int k a,.int k' b=>some (k=k',.int k (k.wrap (a+b)))
 | .sub,.int k a,.int k' b=>some (k=k',.int k (k.wrap (a-b)))
 | .mul,.int k a,.int k' b=>some (k=k',.int k (k.wrap (a * b)))
 | .quo,.int k a,.int k' b=>some (k=k'∧b≠0,.int k (k.wrap (a.tdiv b)))
 | .rem,.int k a,.int k' b=>some (k=k'∧b≠0,.int k (a.tmod b))
 | .and,.int k a,.int k' b=>some (k=k',.int k (Qhh .and k a b))
 | .or,.int k a,.int k' b=>some (k=k',.int k (Qhh .or k a b))
 | .xor,.int k a,.int k' b=>some (k=k',.int k (Qhh .xor k a b))
 | .andNot,.int k a,.int k' b=>some (k=k',.int k (Qhh .andNot k a b))
 | .eql,.int k a,.int k' b=>some (k=k',.bool (a == b))
 | .neq,.int k a,.int k' b=>some (k=k',.bool (a != b))
 | .lss,.int k a,.int k' b=>some (k=k',.bool (decide (a<b)))
 | .leq,.int k a,.int k' b=>some (k=k',.bool (decide (a≤b)))
 | .gtr,.int k a,.int k' b=>some (k=k',.bool (decide (b<a)))
 | .geq,.int k a,.int k' b=>some (k=k',.bool (decide (b≤a)))
 | .add,.string a,.string b=>some (((a.size+b.size:Nat):Int)≤9223372036854775807,.string (a++b))
 | .eql,.string a,.string b=>some (True,.bool (a.toList == b.toList))
 | .neq,.string a,.string b=>some (True,.bool !(a.toList == b.toList))
 | _,_,_=>none
theorem Qyx {op:BinOp} {x y v:Value} {c:Prop} (h:QAZ op x y=some (c,v)) (hc:c) (t:TypeId) (w:World):(binOp op t x y).run P w=.ok v w:=by
 unfold QAZ at h
 split at h <;> simp only [Option.some.injEq,Prod.mk.injEq,reduceCtorEq] at h
 all_goals (obtain ⟨rfl,rfl⟩:=h)
 ·rename_i b;simp [binOp,Op.shift,Int.not_lt.2 hc]
 ·rename_i b;simp [binOp,Op.shift,Int.not_lt.2 hc]
 all_goals (first
  | (subst hc;simp [binOp,Op.intArith,Op.intBits,Op.intCmp,Qhh];done)
  | (obtain ⟨rfl,hc2⟩:=hc;simp [binOp,Op.intDiv,hc2];done)
  | (simp [binOp,Op.stringOp];done)
  | (simp only [binOp,Op.stringOp];rw [if_neg ((by decide:IntKind.i64.max=9223372036854775807) ▸ Int.not_lt.2 hc)];rfl))
theorem Qe4 {op:BinOp} {t:TypeId} {x y:Operand} {u v:Value} (h:(∃ k n,u=.int k n)∨(∃ s,u=.string s)∨(∃ b,u=.bool b)) (w:World):(eqGuard op t x y u v).run P w=.ok () w:=by
 unfold eqGuard
 rcases h with ⟨k,n,rfl⟩ | ⟨s,rfl⟩ | ⟨s,rfl⟩ <;> cases op <;> simp
theorem Qpq {op:BinOp} {x y v:Value} {c:Prop} (h:QAZ op x y=some (c,v)):(∃ k n,x=.int k n)∨(∃ s,x=.string s)∨(∃ b,x=.bool b):=by
 unfold QAZ at h
 split at h <;> simp at h <;> simp
def Qrk (σ:St) (d:Tmp) (op:BinOp) (x y:Operand):Stp:=
 match Qhq σ x,Qhq σ y with
 | some u,some v=>match QAZ op u v with
  | some (c,r)=>some (c,rdl x++rdl y,[(.s d,.av (.val (.sc r)))])
  | none=>none
 | _,_=>none
theorem QBf (d:Tmp) (op:BinOp) (t t':TypeId) (x y:Operand):Qbl P C σ (some d) (.binOp op t x y t') (Qrk σ d op x y):=by
 unfold Qrk
 split
 ·rename_i u v hu hv
  split
  ·rename_i c r hb
   refine Qar fun hc ty pos af E σ' a w hr hg=>?_
   obtain ⟨h1,h2⟩:=Qaq hr
   have e1:=QaS hu h1 hg
   have e2:=QaS hv h2 hg
   refine ⟨r,?_,Rd.sc _⟩
   simp [execOp,e1,e2,Qe4 (Qpq hb),Qyx hb hc]
  ·intro _ _ _ h;cases h
 ·intro _ _ _ h;cases h
def Qk7 (P:Program) (σ:St) (d:Tmp) (op:BinOp) (t:TypeId) (x y:Operand):Stp:=
 match op,Qhq σ x,Qhq σ y with
 | .eql,some (.bool u),some (.bool v)=>some ((Qao P t).map (·.sh)=some .bool,rdl x++rdl y,[(.s d,.av (.val (.sc (.bool (u == v)))))])
 | .neq,some (.bool u),some (.bool v)=>some ((Qao P t).map (·.sh)=some .bool,rdl x++rdl y,[(.s d,.av (.val (.sc (.bool (u != v)))))])
 | _,_,_=>none
theorem Qrl {t:TypeId} (h:(Qao P t).map (·.sh)=some .bool):P.underlying t=some .bool:=by
 cases ht:Qao P t with
 | none=>rw [ht] at h;cases h
 | some T=>
  rw [ht] at h
  simp at h
  obtain ⟨i,d,_,h2,_,_,_,_,_,_,_,h3,_⟩:=Qak ht
  rw [h2,h3 h]
theorem Qyy (d:Tmp) (op:BinOp) (t t':TypeId) (x y:Operand):Qbl P C σ (some d) (.binOp op t x y t') (Qk7 P σ d op t x y):=by
 unfold Qk7
 split
 ·rename_i u v hu hv
  refine Qar fun hc ty pos af E σ' a w hr hg=>?_
  obtain ⟨h1,h2⟩:=Qaq hr
  have e1:=QaS hu h1 hg
  have e2:=QaS hv h2 hg
  refine ⟨.bool (u == v),?_,Rd.sc _⟩
  have hq:∀ n:Nat,(Op.equalIn (n+1) t (.bool u) (.bool v)).run P w=.ok (u == v) w:=fun n=>by simp [Op.equalIn,run_underlying (Qrl hc)]
  simp [execOp,e1,e2,Qe4 (.inr (.inr ⟨u,rfl⟩)),binOp,Op.equal,Op.maxDepth,hq 9999]
 ·rename_i u v hu hv
  refine Qar fun hc ty pos af E σ' a w hr hg=>?_
  obtain ⟨h1,h2⟩:=Qaq hr
  have e1:=QaS hu h1 hg
  have e2:=QaS hv h2 hg
  refine ⟨.bool (u != v),?_,Rd.sc _⟩
  have hq:∀ n:Nat,(Op.equalIn (n+1) t (.bool u) (.bool v)).run P w=.ok (u == v) w:=fun n=>by simp [Op.equalIn,run_underlying (Qrl hc)]
  simp [execOp,e1,e2,Qe4 (.inr (.inr ⟨u,rfl⟩)),binOp,Op.equal,Op.maxDepth,hq 9999,bne]
 ·intro _ _ _ h;cases h
def QBg (σ:St) (d:Tmp) (op:UnOp) (x:Operand):Stp:=
 match op,Qhq σ x with
 | .neg,some (.int k n)=>some (True,rdl x,[(.s d,.av (.val (.sc (.int k (k.wrap (0-n))))))])
 | .xor,some (.int k n)=>some (True,rdl x,[(.s d,.av (.val (.sc (.int k (Qhh .xor k (if k.signed then -1 else k.max) n)))))])
 | .not,some (.bool b)=>some (True,rdl x,[(.s d,.av (.val (.sc (.bool !b))))])
 | _,_=>none
theorem QDN (d:Tmp) (op:UnOp) (t:TypeId) (x:Operand):Qbl P C σ (some d) (.unOp op t x) (QBg σ d op x):=by
 unfold QBg
 split
 ·rename_i k n hx
  refine Qar fun hc ty pos af E σ' a w hr hg=>⟨_,?_,Rd.sc _⟩
  simp [execOp,QaS hx hr hg,Op.unary,Op.intArith]
 ·rename_i k n hx
  refine Qar fun hc ty pos af E σ' a w hr hg=>⟨_,?_,Rd.sc _⟩
  simp [execOp,QaS hx hr hg,Op.unary,Op.intBits,Qhh]
 ·rename_i b hx
  refine Qar fun hc ty pos af E σ' a w hr hg=>⟨_,?_,Rd.sc _⟩
  simp [execOp,QaS hx hr hg,Op.unary]
 ·intro _ _ _ h;cases h
def Qk8 (P:Program) (σ:St) (d:Tmp) (src dst:TypeId) (x:Operand):Stp:=
 match Qhq σ x,Qao P dst with
 | some (.int _ n),some { sh:=.int k,.. }=>some ((Qao P src).isSome=true,rdl x,[(.s d,.av (.val (.sc (.int k (k.wrap n)))))])
 | _,_=>none
theorem Qyz (d:Tmp) (s t:TypeId) (x:Operand):Qbl P C σ (some d) (.convert s t x) (Qk8 P σ d s t x):=by
 unfold Qk8
 split
 ·rename_i k0 n k _ _ _ _ _ _ _ _ hx ht
  refine Qar fun hc ty pos af E σ' a w hr hg=>⟨_,?_,Rd.sc _⟩
  obtain ⟨i,d,_,h2,_,_,_,_,_,_,h3,_⟩:=Qak ht
  obtain ⟨S,hS⟩:=Option.isSome_iff_exists.1 hc
  obtain ⟨i',d',_,h2',_⟩:=Qak hS
  have h4:P.underlying t=some (.int k):=by rw [h2,h3 k rfl]
  simp [execOp,QaS hx hr hg,convert,run_underlying h2',run_underlying h4,Conv.intToInt]
 ·intro _ _ _ h;cases h
def Qrm (σ:St) (d:Tmp) (x:Operand) (i:Nat):Stp:=
 match ev σ x with
 | .val (.tup xs)=>match xs[i]? with | some y=>some (True,rdl x,[(.s d,.av (.val y))]) | none=>none
 | _=>none
theorem QBh (d:Tmp) (x:Operand) (i:Nat):Qbl P C σ (some d) (.extract x i) (Qrm σ d x i):=by
 unfold Qrm
 split
 ·rename_i xs hx
  split
  ·rename_i y hy
   refine Qar fun hc ty pos af E σ' a w hr hg=>?_
   have h1:=Qax hg x
   rw [Qae hr,hx] at h1
   have h1:Rd E.m (.tup xs) (a.eval x):=h1
   generalize hv:a.eval x=v at h1
   cases h1 with
   | tup _ ys hl h=>
    have hi:i<xs.length:=(List.getElem?_eq_some_iff.1 hy).1
    have:=h i hi
    rw [(List.getElem?_eq_some_iff.1 hy).2] at this
    exact ⟨ys[i]'(hl ▸ hi),by simp [execOp,hv,Instr.extract,hl ▸ hi],this⟩
  ·intro _ _ _ h;cases h
 ·intro _ _ _ h;cases h
end
end Go.Proofs.YthfocmakkeonoaaGreatDoor
namespace Go.Proofs.YthfocmakkeonoaaGreatDoor
open Go.RowKit
theorem QaF (b o n:Nat):(⟨b,o,none⟩:Addr).add n=⟨b,o+n,none⟩:=by unfold Addr.add;split <;> simp_all
def QBi:AV→V
 | .val x=>x
 | .own _ _ _ sz es=>.lst sz es
 | _=>.any
def plain:AV→V
 | .val x=>x
 | .own _ _ _ sz es=>.lst sz es
 | .ptr _ _ _=>.any
 | .ref _ _=>.any
 | .elp _ _ _ _ _=>.any
 | .vw _ _ _ _ _=>.any
 | .cp _ _ _=>.any
 | .pv _ _ _=>.any
 | .nv _ _ _=>.any
 | .ag xs=>.agg (xs.map QBi)
 | .fn _ _=>.any
section
variable {P:Program} {ops:Array Oper} {C:Ctx} {E:Env} {σ:St} {a:Act} {w:World}
theorem Qc2 {x:AV} {v:Value} (h:RdA E σ x v):Rd E.m (plain x) v:=by
 cases x with
 | val x=>exact h
 | own k g e sz es=>exact h.1
 | ptr o g off=>exact Rd.any _
 | ref=>exact Rd.any _
 | elp=>exact Rd.any _
 | vw=>exact Rd.any _
 | cp=>exact Rd.any _
 | pv=>exact Rd.any _
 | nv=>exact Rd.any _
 | fn=>exact Rd.any _
 | ag xs=>
  obtain ⟨ys,rfl,h2,h3⟩:=h
  refine Rd.agg _ _ (by simpa using h2) fun i hi=>?_
  have hi':i<xs.length:=by simpa using hi
  have:=h3 i hi' (by omega)
  rw [List.getElem_map]
  generalize xs[i]=x at this
  cases x with
  | val x=>exact this
  | own k g e sz es=>exact this.1
  | _=>exact Rd.any _
def Qfr (P:Program) (σ:St) (d:Tmp) (s:TypeId) (x:Operand) (f:Nat):Stp:=
 match Qao P s with
 | some { sh:=.strct,fields:=fs,fok:=true,.. }=>match fs[f]? with
  | some (off,size,_)=>match ev σ x with
   | .ptr o g i=>some (size≠0∧gg σ o=g,rdl x++[.g o],[(.s d,.av (.ptr o g (i+off)))])
   | .val (.ep xs)=>some (size≠0,rdl x,[(.s d,.av (.val (.ep (xs.drop off))))])
   | _=>none
  | none=>none
 | _=>none
theorem Qe5 {s:TypeId} {T:TI} {fs:List (Nat × Nat × Bool)} {f off size:Nat} {ag:Bool} {b i:Nat} (ht:Qao P s=some T) (h1:T.sh=.strct) (h2:T.fields=fs) (h3:T.fok=true) (hf:fs[f]? = some (off,size,ag)) (hs:size≠0) (w:World) :
  (Instr.fieldAt s (.pointer (some ⟨b,i,none⟩)) f).run P w=.ok (.pointer (some ⟨b,i+off,none⟩)) w:=by
 obtain ⟨ti,d,hi,hd,_,_,_,_,_,_,_,_,h4,_,_,_,h5,_⟩:=Qak ht
 obtain ⟨F,rfl,h6⟩:=h4 h1
 rw [←h2,h6,List.getElem?_map] at hf
 cases hF:F.toList[f]? with
 | none=>rw [hF] at hf;cases hf
 | some fl=>
  rw [hF] at hf
  simp only [Option.map_some,Option.some.injEq,Prod.mk.injEq] at hf
  obtain ⟨e1,e2,_⟩:=hf
  rw [h3] at h5
  have h7:(P.info? fl.type).isSome=true:=by
   have:=List.all_eq_true.1 h5.symm fl (List.mem_of_getElem? hF)
   simpa using this
  obtain ⟨fi,hfi⟩:=Option.isSome_iff_exists.1 h7
  rw [hfi] at e2
  simp at e2
  have hF':F[f]? = some fl:=by simpa using hF
  simp [Instr.fieldAt,run_underlying hd,hF',Instr.sureAddr,fieldPlace,sizeOf,typeInfo,hfi,e2,hs,QaF,e1]
theorem Qrn (d:Tmp) (s:TypeId) (x:Operand) (f:Nat):Qbl P C σ (some d) (.fieldAddr s x f) (Qfr P σ d s x f):=by
 unfold Qfr
 split
 ·rename_i T ag sz by_ z e fs zk ht
  split
  ·rename_i off size ag2 hf
   split
   ·rename_i o g i hx
    refine Qar fun hc ty pos af E σ' a w hr hg=>?_
    obtain ⟨h1,h2⟩:=Qaq hr
    have h3:=Qax hg x
    rw [Qae h1,hx] at h3
    have h4:=h3.2 (by rw [Qaz (h2 (.g o) (by simp))];exact hc.2.symm)
    refine ⟨.pointer (some ⟨E.loc o,i+off,none⟩),?_,?_⟩
    ·simp [execOp,h4,Qe5 ht rfl rfl rfl hf hc.1]
    ·exact ⟨h3.1,fun _=>rfl⟩
   ·rename_i xs hx
    refine Qar fun hc ty pos af E σ' a w hr hg=>?_
    have h3:=Qax hg x
    rw [Qae hr,hx] at h3
    have h3:Rd E.m (.ep xs) (a.eval x):=h3
    generalize hv:a.eval x=v at h3
    cases h3 with
    | ep _ b i f hm hrd=>
     refine ⟨.pointer (some ⟨b,i+off,none⟩),?_,?_⟩
     ·simp [execOp,hv,Qe5 ht rfl rfl rfl hf hc]
     ·refine Rd.ep _ b (i+off) (fun j=>f (off+j)) (fun j hj=>?_) (fun j hj=>?_)
      ·rw [List.length_drop] at hj;have:=hm (off+j) (by omega);rwa [←Nat.add_assoc] at this
      ·rw [List.length_drop] at hj;have:=hrd (off+j) (by omega);simpa using this
   ·intro _ _ _ h;cases h
  ·intro _ _ _ h;cases h
 ·intro _ _ _ h;cases h
def Qbj (σ:St) (o:Id) (i:Nat):AV:=match σ (.c o i) with | .av x=>x | _=>.val .any
def QeS (σ:St) (o:Id):Nat→Nat→List V
 | _,0=>[]
 | i,n+1=>plain (Qbj σ o i)::QeS σ o (i+1) n
def QeT (o:Id):Nat→Nat→List Pl
 | _,0=>[]
 | i,n+1=>.c o i::QeT o (i+1) n
theorem Qjp (o:Id):∀ (n i j:Nat),j<n→Pl.c o (i+j)∈QeT o i n
 | n+1,i,0,_=>by simp [QeT]
 | n+1,i,j+1,h=>by
  have:=Qjp o n (i+1) j (by omega)
  rw [show i+(j+1)=i+1+j by omega]
  simp [QeT,this]
theorem QbW (σ:St) (o:Id):∀ (n i:Nat),(QeS σ o i n).length=n
 | 0,_=>rfl
 | n+1,i=>by simp [QeS,QbW σ o n (i+1)]
theorem Qgs (σ:St) (o:Id):∀ (n i j:Nat) (h:j<(QeS σ o i n).length),(QeS σ o i n)[j]=plain (Qbj σ o (i+j))
 | n+1,i,0,h=>rfl
 | n+1,i,j+1,h=>by
  show (QeS σ o (i+1) n)[j]'_=_
  rw [Qgs σ o n (i+1) j,show i+(j+1)=i+1+j by omega]
theorem Qdk (h:Gm C E σ a w) {o:Id} {n i:Nat} (ho:σ (.o o)=.num n) (hi:i<n):∃ v,w.cell? ⟨E.loc o,i,none⟩=some v∧RdA E σ (Qbj σ o i) v:=by
 unfold Qbj
 split
 ·rename_i x hx;exact h.ce o i x n hx ho hi
 ·obtain ⟨⟨cs,ty,h1,h2⟩,_⟩:=h.ob o n ho
  exact ⟨cs[i]'(h2 ▸ hi),by rw [cell_of_row _ _ _ _ _ _ h1];simp [h2 ▸ hi],Rd.any _⟩
theorem Qbp {t:TypeId} {T:TI} (ht:Qao P t=some T) (w:World):(isAgg t).run P w=.ok T.agg w:=by
 obtain ⟨ti,d,hi,hd,_,_,h3,_⟩:=Qak ht
 rw [h3]
 unfold isAgg
 simp only [Sem.run_bind,run_underlying hd,Result.andThen_ok]
 cases d <;> rfl
theorem QaH {t:TypeId} {T:TI} (ht:Qao P t=some T) (w:World):(sizeOf t).run P w=.ok T.size w:=by
 obtain ⟨ti,d,hi,hd,h3,_⟩:=Qak ht
 simp [sizeOf,typeInfo,hi,h3]
theorem Qhr {t:TypeId} {T:TI} (ht:Qao P t=some T) (hz:T.zok=true) (w:World):∃ z,(zeroValue t).run P w=.ok z w∧z.cells.toList=T.zero:=by
 obtain ⟨ti,d,hi,hd,_,_,_,_,_,_,_,_,_,h4,_,_,_,h5⟩:=Qak ht
 rw [hz] at h5
 obtain ⟨z,hz⟩:=Option.isSome_iff_exists.1 h5.symm
 refine ⟨z,by simp [zeroValue,typeInfo,hi,hz],by rw [h4,hz]⟩
def Qk9 (P:Program) (σ:St) (d:Tmp) (t:TypeId) (x:Operand):Stp:=
 match Qao P t,ev σ x with
 | some { agg:=false,.. },.ptr o g i=>match σ (.o o) with
  | .num n=>some (gg σ o=g∧i<n,rdl x++[.g o,.o o,.c o i],[(.s d,.av (Qbj σ o i))])
  | _=>none
 | some { agg:=true,size:=s,.. },.ptr o g i=>match σ (.o o) with
  | .num n=>some (gg σ o=g∧i+s≤n,rdl x++(.g o :: .o o::QeT o i s),[(.s d,.av (.val (.agg (QeS σ o i s))))])
  | _=>none
 | some { agg:=false,.. },.val (.ep (y::_))=>some (True,rdl x,[(.s d,.av (.val y))])
 | some { agg:=true,size:=s,.. },.val (.ep xs)=>some (s≤xs.length,rdl x,[(.s d,.av (.val (.agg (xs.take s))))])
 | _,_=>none
theorem Qc3 {σ σ':St} {o:Id} {i:Nat} (h:σ' (.c o i)=σ (.c o i)):Qbj σ' o i=Qbj σ o i:=by unfold Qbj;rw [h]
theorem QyA (d:Tmp) (t:TypeId) (x:Operand):Qbl P C σ (some d) (.load t x) (Qk9 P σ d t x):=by
 unfold Qk9
 split
 ·rename_i _ _ _ _ _ _ _ _ _ o g i ht hx
  split
  ·rename_i n hn
   refine Qar fun hc ty pos af E σ' a w hr hg=>?_
   obtain ⟨h1,h2⟩:=Qaq hr
   have h3:=Qax hg x
   rw [Qae h1,hx] at h3
   have h4:=h3.2 (by rw [Qaz (h2 (.g o) (by simp))];exact hc.1.symm)
   obtain ⟨v,hv,hrd⟩:=Qdk hg (o:=o) (n:=n) (i:=i) (by rw [h2 (.o o) (by simp)];exact hn) hc.2
   rw [Qc3 (h2 (.c o i) (by simp))] at hrd
   exact ⟨v,by simp [execOp,h4,Instr.loadAt,Instr.sureAddr,loadVar,Qbp ht,hv],hrd⟩
  ·intro _ _ _ h;cases h
 ·rename_i _ s _ _ _ _ _ _ o g i ht hx
  split
  ·rename_i n hn
   refine Qar fun hc ty pos af E σ' a w hr hg=>?_
   obtain ⟨h1,h2⟩:=Qaq hr
   have h3:=Qax hg x
   rw [Qae h1,hx] at h3
   have h4:=h3.2 (by rw [Qaz (h2 (.g o) (by simp))];exact hc.1.symm)
   have hcell:∀ j,j<s→∃ v,w.cell? ⟨E.loc o,i+j,none⟩=some v∧Rd E.m (plain (Qbj σ o (i+j))) v:=fun j hj=>by
    obtain ⟨v,hv,hrd⟩:=Qdk hg (o:=o) (n:=n) (i:=i+j) (by rw [h2 (.o o) (by simp)];exact hn) (by omega)
    rw [Qc3 (h2 (.c o (i+j)) (by simp [Qjp o s i j hj]))] at hrd
    exact ⟨v,hv,Qc2 hrd⟩
   obtain ⟨f,hf⟩:∃ f:Nat→Value,∀ j,j<s→w.cell? ⟨E.loc o,i+j,none⟩=some (f j)∧Rd E.m (plain (Qbj σ o (i+j))) (f j):=
    ⟨fun j=>if h:j<s then (hcell j h).choose else undef,fun j h=>by simp only [dif_pos h];exact (hcell j h).choose_spec⟩
   have hl:=run_loadCells (P:=P) w ⟨E.loc o,i,none⟩ s f (fun j hj=>by rw [QaF];exact (hf j hj).1)
   refine ⟨.agg ((List.range s).map f).toArray,by simp [execOp,h4,Instr.loadAt,Instr.sureAddr,loadVar,Qbp ht,QaH ht,hl],?_⟩
   refine Rd.agg _ _ (by simp [QbW]) (fun j hj=>?_)
   rw [Qgs]
   rw [QbW] at hj
   simpa using (hf j hj).2
  ·intro _ _ _ h;cases h
 ·rename_i _ _ _ _ _ _ _ _ _ y ys ht hx
  refine Qar fun hc ty pos af E σ' a w hr hg=>?_
  have h3:=Qax hg x
  rw [Qae hr,hx] at h3
  have h3:Rd E.m (.ep (y::ys)) (a.eval x):=h3
  generalize hv:a.eval x=v at h3
  cases h3 with
  | ep _ b i f hm hrd=>
   have h5:=hg.ms _ _ _ (hm 0 (by simp))
   exact ⟨f 0,by simp at h5;simp [execOp,hv,Instr.loadAt,Instr.sureAddr,loadVar,Qbp ht,h5],hrd 0 (by simp)⟩
 ·rename_i _ s _ _ _ _ _ _ xs ht hx
  refine Qar fun hc ty pos af E σ' a w hr hg=>?_
  have h3:=Qax hg x
  rw [Qae hr,hx] at h3
  have h3:Rd E.m (.ep xs) (a.eval x):=h3
  generalize hv:a.eval x=v at h3
  cases h3 with
  | ep _ b i f hm hrd=>
   have hl:=run_loadCells (P:=P) w ⟨b,i,none⟩ s f (fun j hj=>by rw [QaF];exact hg.ms _ _ _ (hm j (by omega)))
   refine ⟨.agg ((List.range s).map f).toArray,by simp [execOp,hv,Instr.loadAt,Instr.sureAddr,loadVar,Qbp ht,QaH ht,hl],?_⟩
   refine Rd.agg _ _ (by simp;omega) (fun j hj=>?_)
   have hj':j<xs.length:=by rw [List.length_take] at hj;omega
   have:=hrd j hj'
   simpa using this
 ·intro _ _ _ h;cases h
def Qfn:V→Bool
 | .sc v=>v.oneCell'
 | .lst _ _ | .ep _ | .ifc _ _=>true
 | _=>false
def Qhi:AV→List Pl
 | .ptr o _ _=>[.g o]
 | .ref k _=>[.h k,.r k]
 | _=>[]
def Qro:X→Prop
 | .tree _=>True
 | _=>False
def Qvh (σ:St):AV→Prop
 | .val x=>Qfn x=true
 | .own ..=>True
 | .ptr o g _=>gg σ o=g
 | .ref k g=>gh σ k=g∧Qro (σ (.r k))
 | .fn _ _=>True
 | _=>False
theorem Qcu {m:Mem} {x:V} {v:Value} (h:Rd m x v) (ho:Qfn x=true):v.oneCell'=true:=by
 cases h <;> simp [Qfn,Value.oneCell'] at ho ⊢
 exact ho
theorem Hg.one {m:Mem} {w:World} {x:T} {v:Value} {F:List Nat} (h:Hg m w [x] [v] F) (hx:∀ y,x≠.av y):v.oneCell'=true:=by
 cases h with
 | av=>exact absurd rfl (hx _)
 | box=>rfl
 | row ho=>rcases ho.2 with ⟨h,_⟩ | ⟨_,_,_,h,_⟩ <;> rw [h] <;> rfl
 | rw ho=>rcases ho.2 with ⟨h,_⟩ | ⟨_,_,_,h,_⟩ <;> rw [h] <;> rfl
 | mp=>rfl
 | pm hp h=>cases h;rfl
 | bag=>rfl
theorem Qj1 {x:AV} {v:Value} (hg:Gm C E σ a w) (h:RdA E σ x v) (ho:Qvh σ x):v.oneCell'=true:=by
 cases x with
 | val x=>exact Qcu h ho
 | own k g e sz es=>exact Qcu h.1 rfl
 | ptr o g off=>rw [h.2 (Eq.symm ho)];rfl
 | ref k g=>
  obtain ⟨h1,h2⟩:=ho
  rw [h.2 h1.symm]
  unfold Qro at h2
  split at h2
  ·rename_i y hy
   obtain ⟨h3,h4⟩:=hg.tr.hg k y hy
   exact h3.one h4
  ·exact h2.elim
 | fn=>obtain ⟨ys,rfl,_⟩:=h;rfl
 | _=>exact ho.elim
theorem Qes {σ':St} {x:AV} (h:∀ l∈Qhi x,σ' l=σ l) (ho:Qvh σ x):Qvh σ' x:=by
 cases x with
 | val=>exact ho
 | own=>trivial
 | ptr o g i=>show gg σ' o=_;rw [Qaz (h _ (by simp [Qhi]))];exact ho
 | ref k g=>exact ⟨by rw [QaL (h _ (by simp [Qhi]))];exact ho.1,by rw [h _ (by simp [Qhi])];exact ho.2⟩
 | fn=>trivial
 | _=>exact ho.elim
theorem Qfs {v:Value} (h:v.oneCell'=true):v.cells = #[v]:=by cases v <;> simp [Value.oneCell'] at h <;> rfl
theorem Qft {v:Value} (h:v.oneCell'=true) {x:Addr} {u:Value} (hc:w.cell? x=some u) (hf:w.frozen? x=false):(Go.store x v).run P w=.ok () (w.setCell x v):=by
 cases v <;> simp [Value.oneCell'] at h <;> simp [Go.store,Sem.run,hc,hf]
theorem QhP {o:Id} {n:Nat}:∀ (vs:List Value) (xs:List V) (i j:Nat) (E:Env) (σ:St) (w:World),Gm C E σ a w→σ (.o o)=.num n→i+j+vs.length≤n→vs.length=xs.length →
  (∀ k (h:k<vs.length) (h':k<xs.length),Rd E.m xs[k] vs[k])→(∀ v∈vs,v.oneCell'=true)→∃ w',(storeCells ⟨E.loc o,i,none⟩ vs j).run P w=.ok () w'∧Gm C E (Qaf σ (QaU o (i+j) (xs.map .val))) a w'
 | [],[],i,j,E,σ,w,hg,ho,_,_,_,_=>⟨w,by simp [storeCells],hg⟩
 | v::vs,y::xs,i,j,E,σ,w,hg,ho,hn,hl,hr,h1=>by
  have h0:=hr 0 (by simp) (by simp)
  simp at h0
  obtain ⟨hs,⟨u,hu⟩,hf⟩:=hg.store o n (i+j) ho (by simp at hn;omega) (.val y) v h0
  obtain ⟨w',hw,hg'⟩:=QhP vs xs i (j+1) E _ _ hs (by rw [Qag _ _ (by simp)];exact ho) (by simp at hn;omega) (by simpa using hl)
   (fun k h h'=>by have:=hr (k+1) (by simpa using h) (by simpa using h');simpa using this) (fun v hv=>h1 v (by simp [hv]))
  refine ⟨w',?_,hg'⟩
  simp only [storeCells,QaF,Sem.run_bind,Qft (h1 v (by simp)) hu hf,Result.andThen_ok]
  exact hw
def QhQ (P:Program) (σ:St) (t:TypeId) (x y:Operand):Stp:=
 match Qao P t,ev σ x with
 | some { agg:=false,size:=s,.. },.ptr o g i=>match σ (.o o) with
  | .num n=>some (s=1∧gg σ o=g∧i<n∧Qvh σ (ev σ y),rdl x++(rdl y++(.g o :: .o o::Qhi (ev σ y))),[(.c o i,.av (ev σ y))])
  | _=>none
 | some { agg:=true,size:=s,.. },.ptr o g i=>match σ (.o o),ev σ y with
  | .num n,.val (.agg xs)=>some (xs.length=s∧gg σ o=g∧i+s≤n∧xs.all Qfn=true,rdl x++(rdl y++[.g o,.o o]),QaU o i (xs.map .val))
  | _,_=>none
 | _,_=>none
theorem Qvi (t:TypeId) (x y:Operand):Qbl P C σ none (.store t x y) (QhQ P σ t x y):=by
 unfold QhQ
 split
 ·rename_i _ s _ _ _ _ _ _ o g i ht hx
  split
  ·rename_i n hn
   intro c' L' W' he hc ops ty pos af E σ' a w K Q hd hr hg hK
   simp only [Option.some.injEq,Prod.mk.injEq] at he
   obtain ⟨rfl,rfl,rfl⟩:=he
   obtain ⟨h1,h2⟩:=Qaq (QcS hr)
   obtain ⟨h2,h2'⟩:=Qaq h2
   have h3:=Qax hg x
   rw [Qae h1,hx] at h3
   have h4:=h3.2 (by rw [Qaz (h2' (.g o) (by simp))];exact hc.2.1.symm)
   have h5:=Qax hg y
   rw [Qae h2] at h5
   have h6:(a.eval y).oneCell'=true:=Qj1 hg h5 (Qes (fun l hl=>h2' l (List.mem_cons_of_mem _ (List.mem_cons_of_mem _ hl))) hc.2.2.2)
   obtain ⟨hs,⟨u,hu⟩,hf⟩:=hg.store o n i (by rw [h2' (.o o) (by simp)];exact hn) hc.2.2.1 _ _ h5
   rw [if_pos (by simp [Region.wanted])]
   have hrun:(execOp a.eval ⟨none,.store t x y,ty,pos,af,none⟩).run P w=.ok .skip (w.setCell ⟨E.loc o,i,none⟩ (a.eval y)):=by
    have hsz:=QaH (P:=P) ht w
    simp only [hc.1] at hsz
    simp [execOp,h4,Instr.storeAt,Instr.sureAddr,storeVar,hsz,Qfs h6,storeCells,QaF,Qft h6 hu hf]
   show Oper.upon _ _ _ _ _ _
   rw [hrun]
   exact hK _ _ E hs
  ·intro _ _ _ h;cases h
 ·rename_i _ s _ _ _ _ _ _ o g i ht hx
  split
  ·rename_i n xs hn hy
   intro c' L' W' he hc ops ty pos af E σ' a w K Q hd hr hg hK
   simp only [Option.some.injEq,Prod.mk.injEq] at he
   obtain ⟨rfl,rfl,rfl⟩:=he
   obtain ⟨h1,h2⟩:=Qaq (QcS hr)
   obtain ⟨h2,h2'⟩:=Qaq h2
   have h3:=Qax hg x
   rw [Qae h1,hx] at h3
   have h4:=h3.2 (by rw [Qaz (h2' (.g o) (by simp))];exact hc.2.1.symm)
   have h5:=Qax hg y
   rw [Qae h2,hy] at h5
   have h5:Rd E.m (.agg xs) (a.eval y):=h5
   generalize hv:a.eval y=v at h5
   cases h5 with
   | agg _ ys hl hrd=>
    obtain ⟨hc1,hc2,hc3,hc4⟩:=hc
    obtain ⟨w',hw,hg'⟩:=QhP (P:=P) (o:=o) (n:=n) ys.toList xs i 0 E σ' w hg (by rw [h2' (.o o) (by simp)];exact hn) (by simp;omega) (by simpa using hl)
     (fun k h h'=>by have:=hrd k h';simpa using this) (fun v hv=>by
      obtain ⟨k,hk,rfl⟩:=List.getElem_of_mem hv
      have hk':k<xs.length:=by simp at hk;omega
      have:=hrd k hk'
      have h1:=List.all_eq_true.1 hc4 xs[k] (by simp)
      simpa using Qcu this h1)
    rw [if_pos (by simp [Region.wanted])]
    have hrun:(execOp a.eval ⟨none,.store t x y,ty,pos,af,none⟩).run P w=.ok .skip w':=by
     have hsz:=QaH (P:=P) ht w
     have hcl:(Value.agg ys).cells=ys:=rfl
     simp [execOp,h4,hv,Instr.storeAt,Instr.sureAddr,storeVar,hsz,hcl,hl,hc1,hw]
    show Oper.upon _ _ _ _ _ _
    rw [hrun]
    exact hK _ _ E (by simpa [Act.put] using hg')
  ·intro _ _ _ h;cases h
 ·intro _ _ _ h;cases h
def QhR (P:Program) (σ:St) (d:Tmp) (t:TypeId):Stp:=
 match Qao P t with
 | some { zero:=z,zok:=true,.. }=>some (True,[.g (d,0)],QxH (d,0) (gg σ (d,0)) z.length (z.map fun v=>.val (.sc v))++[(.s d,.av (.ptr (d,0) (gg σ (d,0)+1) 0))])
 | _=>none
theorem Qvj (d:Tmp) (t:TypeId):Qbl P C σ (some d) (.alloc t) (QhR P σ d t):=by
 unfold QhR
 split
 ·rename_i _ _ _ _ z _ _ _ ht
  refine QaV fun hc ty pos af E σ' a w hr hg hd=>?_
  obtain ⟨v,hv,hz⟩:=Qhr ht rfl w
  have hz:v.cells.toList=z:=hz
  subst hz
  obtain ⟨E',h1,h2,h3⟩:=hg.object (d,0) (gg σ (d,0)) (Qaz (hr _ (by simp))) t v.cells (v.cells.toList.map fun v=>AV.val (.sc v)) (by simp) (fun i hi=>by simp;exact Rd.sc _) (C.np d hd) rfl
  simp only [List.length_map] at h1 h3
  exact ⟨.pointer (some ⟨w.heap.size,0,none⟩),_,E',by simp [execOp,Instr.alloc,hv,newVar,newRow,newObj];rfl,h1,h3⟩
 ·intro _ _ _ h;cases h
def Qrp (σ:St) (d:Tmp) (x:Operand):Stp:=
 match ev σ x with
 | .val (.agg xs)=>some (True,.g (d,0)::rdl x,QxH (d,0) (gg σ (d,0)) xs.length (xs.map .val)++[(.s d,.av (.ptr (d,0) (gg σ (d,0)+1) 0))])
 | y=>some (Qvh σ y,.g (d,0)::(rdl x++Qhi y),QxH (d,0) (gg σ (d,0)) 1 [y]++[(.s d,.av (.ptr (d,0) (gg σ (d,0)+1) 0))])
theorem QBj (d:Tmp) (t:TypeId) (x:Operand):Qbl P C σ (some d) (.box t x) (Qrp σ d x):=by
 unfold Qrp
 split
 ·rename_i xs hx
  refine QaV fun hc ty pos af E σ' a w hr hg hd=>?_
  have h5:=Qax hg x
  rw [Qae (fun l hl=>hr l (by simp [hl])),hx] at h5
  have h5:Rd E.m (.agg xs) (a.eval x):=h5
  generalize hv:a.eval x=v at h5
  cases h5 with
  | agg _ ys hl hrd=>
   obtain ⟨E',h1,h2,h3⟩:=hg.object (d,0) (gg σ (d,0)) (Qaz (hr _ (by simp))) t ys (xs.map AV.val) (by simpa using hl) (fun i hi=>by simp at hi;simp;exact hrd i hi) (C.np d hd) rfl
   simp only [List.length_map] at h1 h3
   exact ⟨.pointer (some ⟨w.heap.size,0,none⟩),_,E',by simp [execOp,hv,Instr.box,Value.cells,newVar,newRow,newObj];rfl,h1,h3⟩
 ·rename_i y hy
  refine QaV fun hc ty pos af E σ' a w hr hg hd=>?_
  have hr1:∀ l∈rdl x++Qhi (ev σ x),σ' l=σ l:=fun l hl=>hr l (List.mem_cons_of_mem _ hl)
  obtain ⟨h1,h2⟩:=Qaq hr1
  have h5:=Qax hg x
  rw [Qae h1] at h5
  have h6:(a.eval x).oneCell'=true:=Qj1 hg h5 (Qes h2 hc)
  obtain ⟨E',h1,h2,h3⟩:=hg.object (d,0) (gg σ (d,0)) (Qaz (hr _ (by simp))) t #[a.eval x] [ev σ x] rfl (fun i hi=>by
   simp at hi;subst hi;exact h5) (C.np d hd) rfl
  exact ⟨.pointer (some ⟨w.heap.size,0,none⟩),_,E',by simp [execOp,Instr.box,Qfs h6,newVar,newRow,newObj];rfl,h1,h3⟩
end
end Go.Proofs.YthfocmakkeonoaaGreatDoor
