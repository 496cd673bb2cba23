/- Functions known by what they do with values, with objects and with what is owned whole. What is taken back behind a call. -/
import Derived.Test.YthfocmakkeonoaaGreatDoorR7z
set_option linter.unusedVariables false
set_option linter.unusedSimpArgs false
set_option maxRecDepth 100000
set_option maxHeartbeats 16000000
namespace Go.Proofs.YthfocmakkeonoaaGreatDoor
open Go.RowKit
inductive CA where
 | val (x:V)
 | own (e:TypeId) (sz:Nat) (es:List (List V))
 | hd (x:T)
 | hdl (x:T) (i ob:Nat)
inductive FC where
 | val (x:V)
 | ptr (i off:Nat)
inductive Arg where
 | ca (c:CA)
 | ptr (i off:Nat)
 | fn (K:FuncId) (cs:List FC)
def CAok (m:Mem) (w:World) (bs:List Nat):CA→Value→List Nat→Prop
 | .val x,v,F=>Rd m x v∧F=[]
 | .own e sz es,v,F=>(Rd m (.lst sz es) v∧∃ xs,w.ownsRow 0 e sz v es.length xs∧∀ b,v.ownBlock=some b→∀ i,m b i=xs[i]?)∧F=v.ownBlock.toList
 | .hd x,v,F=>Hg m w [x] [v] F∧∀ y,x≠.av y
 | .hdl x i ob,v,F=>(Hg m w [x] [v] F∧∀ y,x≠.av y)∧∃ b,bs[ob]? = some b∧QcB w v i=some (.pointer (some ⟨b,0,none⟩))
def QDO (m:Mem) (bs:List Nat):FC→Value→Prop
 | .val x,v=>Rd m x v
 | .ptr i off,v=>∃ b,bs[i]? = some b∧v=.pointer (some ⟨b,off,none⟩)
def Qrw (m:Mem) (w:World) (bs:List Nat):Arg→Value→List Nat→Prop
 | .ca c,v,F=>CAok m w bs c v F
 | .ptr i off,v,F=>(∃ b,bs[i]? = some b∧v=.pointer (some ⟨b,off,none⟩))∧F=[]
 | .fn K cs,v,F=>(∃ ys:List Value,v=.func (.func K) #[] ys.toArray∧ys.length=cs.length∧∀ (i:Nat) (c:FC) (y:Value),cs[i]? = some c→ys[i]? = some y→QDO m bs c y)∧F=[]
inductive ArgsOk (m:Mem) (w:World) (bs:List Nat):List Arg→List Value→List Nat→Prop where
 | nil:ArgsOk m w bs [] [] []
 | cons {a v F ax vs F'} (h:Qrw m w bs a v F) (hs:ArgsOk m w bs ax vs F') (hd:∀ b∈F,b∉F'):ArgsOk m w bs (a::ax) (v::vs) (F++F')
inductive ObjsOk (m:Mem) (w:World) (bs:List Nat):List Nat→List (List CA)→List Nat→Prop where
 | nil:ObjsOk m w bs [] [] []
 | cons {b cs vs ty F bs' objs F'} (hb:w.heap[b]? = some (.cells vs.toArray ty (0,0))) (hm:∀ i,m b i=none) (h:ArgsOk m w bs (cs.map .ca) vs F) (hn:b∉F) (hs:ObjsOk m w bs bs' objs F') (hd:∀ i∈b::F,i∉F') :
  ObjsOk m w bs (b::bs') (cs::objs) ((b::F)++F')
structure Holds (m:Mem) (w:World) (vals:List Value) (args:List Arg) (objs:List (List CA)) (bs:List Nat) (F G:List Nat):Prop where
 ms:∀ b i v,m b i=some v→w.cell? ⟨b,i,none⟩=some v
 ar:ArgsOk m w bs args vals F
 ob:ObjsOk m w bs bs objs G
 di:∀ b∈F,b∉G
def Qan (P:Program) (K:FuncId) (args:List Arg) (objs:List (List CA)) (res:Arg) (objs':List (List CA)):Prop:=
 ∀ m w vals bs F G,Holds m w vals args objs bs F G→Calls P K vals.toArray w fun e w'=>∃ (v:Value) (m':Mem) (bs' F' G':List Nat),e=.returned v∧Holds m' w' [v] [res] objs' bs' F' G'∧m.le m' ∧
  Chg (fun b=>b∈F++G) w w'∧(∀ (i b:Nat),bs[i]? = some b→bs'[i]? = some b)∧(∀ (b i:Nat),b<w.heap.size→b∉F++G→m' b i=m b i)∧∀ b∈F'++G',b∈F++G∨w.heap.size≤b
theorem ArgsOk.len {m:Mem} {w:World} {bs:List Nat} {args:List Arg} {vs:List Value} {F:List Nat} (h:ArgsOk m w bs args vs F):vs.length=args.length:=by
 induction h <;> simp_all
theorem ObjsOk.len {m:Mem} {w:World} {bs bs':List Nat} {objs:List (List CA)} {F:List Nat} (h:ObjsOk m w bs bs' objs F):bs'.length=objs.length:=by
 induction h <;> simp_all
def Sub (x y:V):Prop:=∀ m v,Rd m x v→Rd m y v
theorem Sub.rfl (x:V):Sub x x:=fun _ _ h=>h
theorem Sub.any (x:V):Sub x .any:=fun _ v _=>Rd.any v
theorem Sub.nil (sz:Nat):Sub (.sc (.slice none 0 0)) (.lst sz []):=fun m v h=>by cases h;exact Rd.nil0 sz
theorem Sub.agg {xs ys:List V} (hl:xs.length=ys.length) (h:∀ i (h:i<xs.length) (h':i<ys.length),Sub xs[i] ys[i]):Sub (.agg xs) (.agg ys):=fun m v hr=>by
 cases hr with
 | agg _ zs hz hh=>exact Rd.agg _ _ (hz.trans hl) fun i hi=>h i (by omega) hi _ _ (hh i (by omega))
theorem Sub.tup {xs ys:List V} (hl:xs.length=ys.length) (h:∀ i (h:i<xs.length) (h':i<ys.length),Sub xs[i] ys[i]):Sub (.tup xs) (.tup ys):=fun m v hr=>by
 cases hr with
 | tup _ zs hz hh=>exact Rd.tup _ _ (hz.trans hl) fun i hi=>h i (by omega) hi _ _ (hh i (by omega))
def Subs:List V→List V→Prop
 | [],[]=>True
 | x::xs,y::ys=>Sub x y∧Subs xs ys
 | _,_=>False
theorem Subs.get:∀ {xs ys:List V},Subs xs ys→xs.length=ys.length∧∀ i (h:i<xs.length) (h':i<ys.length),Sub xs[i] ys[i]
 | [],[],_=>⟨rfl,fun i h=>by simp at h⟩
 | x::xs,y::ys,h=>⟨by simp [(Subs.get h.2).1],fun i h1 h2=>by
  cases i with
  | zero=>exact h.1
  | succ i=>exact (Subs.get h.2).2 i (by simpa using h1) (by simpa using h2)⟩
 | [],_::_,h=>h.elim
 | _::_,[],h=>h.elim
theorem Sub.agg' {xs ys:List V} (h:Subs xs ys):Sub (.agg xs) (.agg ys):=Sub.agg h.get.1 h.get.2
theorem Sub.tup' {xs ys:List V} (h:Subs xs ys):Sub (.tup xs) (.tup ys):=Sub.tup h.get.1 h.get.2
inductive Ho where
 | o (i:Id)
 | k (i:Id)
 | r (i:Id)
 deriving DecidableEq
def HoB (E:Env) (σ:St):Ho→Nat→Prop
 | .o i,b=>∃ n,σ (.o i)=.num n∧E.loc i=b
 | .k i,b=>∃ e sz T,σ (.k i)=.row e sz T∧(E.rv i).ownBlock=some b
 | .r i,b=>∃ x,σ (.r i)=.tree x∧b∈E.bf i
def Qbm (E:Env) (σ:St) (b:Nat):Prop:=∃ t,HoB E σ t b
def kid (o:Id) (j:Nat):Id:=(o.1,100 * o.2+j+1)
theorem QnV (o:Id) (j:Nat):(kid o j).2≠0:=by simp [kid]
section
variable {P:Program} {ops:Array Oper} {C:Ctx} {E:Env} {σ:St} {a:Act} {w:World}
theorem Gm.ho_inj (h:Gm C E σ a w) {t t':Ho} {b:Nat} (h1:HoB E σ t b) (h2:HoB E σ t' b):t=t':=by
 cases t with
 | o i=>
  obtain ⟨n,a1,a2⟩:=h1
  cases t' with
  | o i'=>obtain ⟨n',b1,b2⟩:=h2;rw [h.oo i i' n n' a1 b1 (a2.trans b2.symm)]
  | k i'=>obtain ⟨e,s,T,b1,b2⟩:=h2;exact (h.or i n i' e s T a1 b1 (by rw [b2,a2])).elim
  | r i'=>obtain ⟨x,b1,b2⟩:=h2;subst a2;exact (h.tr.ot i n i' x a1 b1 b2).elim
 | k i=>
  obtain ⟨e,s,T,a1,a2⟩:=h1
  cases t' with
  | o i'=>obtain ⟨n',b1,b2⟩:=h2;exact (h.or i' n' i e s T b1 a1 (by rw [b2,a2])).elim
  | k i'=>obtain ⟨e',s',T',b1,b2⟩:=h2;rw [h.rr i i' e s T e' s' T' b a1 b1 a2 b2]
  | r i'=>obtain ⟨x,b1,b2⟩:=h2;exact (h.tr.tk i e s T i' x b a1 b1 b2 a2).elim
 | r i=>
  obtain ⟨x,a1,a2⟩:=h1
  cases t' with
  | o i'=>obtain ⟨n',b1,b2⟩:=h2;subst b2;exact (h.tr.ot i' n' i x b1 a1 a2).elim
  | k i'=>obtain ⟨e',s',T',b1,b2⟩:=h2;exact (h.tr.tk i' e' s' T' i x b b1 a1 a2 b2).elim
  | r i'=>obtain ⟨x',b1,b2⟩:=h2;rw [h.tr.tt i i' x x' b a1 b1 a2 b2]
theorem Gm.ho_dd (h:Gm C E σ a w) {t:Ho} {b:Nat} (h1:HoB E σ t b):b<w.heap.size∧(C.D b∨C.w0.heap.size≤b):=by
 cases t with
 | o i=>
  obtain ⟨n,a1,a2⟩:=h1
  obtain ⟨⟨cs,ty,h2,_⟩,_,h3⟩:=h.ob i n a1
  subst a2
  exact ⟨(Array.getElem?_eq_some_iff.1 h2).1,h3⟩
 | k i=>
  obtain ⟨e,s,T,a1,a2⟩:=h1
  obtain ⟨h2,h3⟩:=h.ro i e s T a1
  exact ⟨(h2.lt b a2).2,(h3 b a2).2⟩
 | r i=>
  obtain ⟨x,a1,a2⟩:=h1
  exact ⟨((h.tr.hg i x a1).1.mem b a2).1,h.tr.dd i x b a1 a2⟩
theorem Gm.ho_noIt (h:Gm C E σ a w) {t:Ho} {b:Nat} (h1:HoB E σ t b):∀ mb n bs l,w.heap[b]?≠some (.mapIter mb n bs l):=by
 intro mb n bs l he
 cases t with
 | o i=>
  obtain ⟨n,a1,a2⟩:=h1
  obtain ⟨⟨cs,ty,h2,_⟩,_⟩:=h.ob i n a1
  subst a2
  rw [h2] at he;cases he
 | k i=>
  obtain ⟨e,s,T,a1,a2⟩:=h1
  obtain ⟨h2,h3⟩:=h.ro i e s T a1
  obtain ⟨cur,h4⟩:=Qd1 h2 a2
  rw [h4] at he;cases he
 | r i=>
  obtain ⟨x,a1,a2⟩:=h1
  exact (h.tr.hg i x a1).1.noIt b a2 _ _ _ _ he
def mFC (σ:St) (ids:List Id):AV→FC→Prop
 | .ptr o g off,.ptr i off'=>ids[i]? = some o∧gg σ o=g∧off'=off
 | .val x,.val y=>Sub x y
 | _,_=>False
def QA0 (σ:St) (ids:List Id):List AV→List FC→Prop
 | [],[]=>True
 | x::xs,c::cs=>mFC σ ids x c∧QA0 σ ids xs cs
 | _,_=>False
inductive MArgs (σ:St) (ids:List Id):List AV→List Arg→List Ho→Prop where
 | nil:MArgs σ ids [] [] []
 | val {x y xs ys ts} (h:Sub (plain x) y) (r:MArgs σ ids xs ys ts):MArgs σ ids (x::xs) (.ca (.val y)::ys) ts
 | own {k g e sz es xs ys ts} (hq:gq σ k=g) (hk:σ (.k k)=.row e sz es.length) (r:MArgs σ ids xs ys ts):MArgs σ ids (.own k g e sz es::xs) (.ca (.own e sz es)::ys) (.k k::ts)
 | nown {e sz xs ys ts} (r:MArgs σ ids xs ys ts):MArgs σ ids (.val (.sc (.slice none 0 0))::xs) (.ca (.own e sz [])::ys) ts
 | ptr {o g off i xs ys ts} (hi:ids[i]? = some o) (hg:gg σ o=g) (r:MArgs σ ids xs ys ts):MArgs σ ids (.ptr o g off::xs) (.ptr i off::ys) ts
 | fn {K zs cs xs ys ts} (h:QA0 σ ids zs cs) (r:MArgs σ ids xs ys ts):MArgs σ ids (.fn K zs::xs) (.fn K cs::ys) ts
 | fn0 {K xs ys ts} (r:MArgs σ ids xs ys ts):MArgs σ ids (.val (.sc (.func (.func K) #[] #[]))::xs) (.fn K []::ys) ts
 | hd {k g x xs ys ts} (hh:gh σ k=g) (hk:σ (.r k)=.tree x) (r:MArgs σ ids xs ys ts):MArgs σ ids (.ref k g::xs) (.ca (.hd x)::ys) (.r k::ts)
 | hdb {k g us xs ys ts} (hh:gg σ k=g) (hk:σ (.r k)=.tree (.box us)) (r:MArgs σ ids xs ys ts):MArgs σ ids (.ptr k g 0::xs) (.ca (.hd (.box us))::ys) (.r k::ts)
 | nhw {e sz xs ys ts} (r:MArgs σ ids xs ys ts):MArgs σ ids (.val (.sc (.slice none 0 0))::xs) (.ca (.hd (.rw e sz []))::ys) ts
 | nhd {e sz xs ys ts} (r:MArgs σ ids xs ys ts):MArgs σ ids (.val (.sc (.slice none 0 0))::xs) (.ca (.hd (.row e sz []))::ys) ts
 | hdl {k g x i o g' ob xs ys ts} (hh:gh σ k=g) (hk:σ (.r k)=.tree x) (hl:σ (.l k)=.lent i (.ptr o g' 0)) (hi:ids[ob]? = some o) (hg:gg σ o=g') (r:MArgs σ ids xs ys ts):MArgs σ ids (.ref k g::xs) (.ca (.hdl x i ob)::ys) (.r k::ts)
theorem Qrx {m:Mem} {ids:List Id} (hE:E.m=m):∀ {zs:List AV} {cs:List FC} {ys:List Value},QA0 σ ids zs cs→ys.length=zs.length→(∀ (i:Nat) (h1:i<zs.length) (h2:i<ys.length),RdP E σ zs[i] ys[i]) →
  zs.length=cs.length∧∀ (i:Nat) (c:FC) (y:Value),cs[i]? = some c→ys[i]? = some y→QDO m (ids.map E.loc) c y
 | [],[],ys,_,_,_=>⟨rfl,fun i c y h=>by simp at h⟩
 | z::zs,c::cs,[],_,hl,_=>by simp at hl
 | z::zs,c::cs,y::ys,h,hl,hr=>by
  obtain ⟨h1,h2⟩:=h
  obtain ⟨h3,h4⟩:=Qrx hE h2 (by simpa using hl) (fun i a b=>by have:=hr (i+1) (by simpa using a) (by simpa using b);simpa using this)
  refine ⟨by simp [h3],fun i c' y' q1 q2=>?_⟩
  cases i with
  | succ i=>exact h4 i c' y' (by simpa using q1) (by simpa using q2)
  | zero=>
   simp at q1 q2
   subst q1 q2
   have h0:=hr 0 (by simp) (by simp)
   simp only [List.getElem_cons_zero] at h0
   cases z with
   | val x=>
    cases c with
    | val x'=>subst hE;exact h1 _ _ h0
    | ptr=>exact h1.elim
   | ptr o g off=>
    cases c with
    | val x'=>exact h1.elim
    | ptr i off'=>
     obtain ⟨e1,e2,rfl⟩:=h1
     exact ⟨E.loc o,by simp [e1],h0.2 e2.symm⟩
   | _=>cases c <;> exact h1.elim
 | [],_::_,_,h,_,_=>h.elim
 | _::_,[],_,h,_,_=>h.elim
def Qb6 (σ:St) (o:Id):Nat→Nat→List AV
 | _,0=>[]
 | i,n+1=>Qbj σ o i::Qb6 σ o (i+1) n
inductive MObjs (σ:St) (all:List Id):List Id→List (List CA)→List Ho→Prop where
 | nil:MObjs σ all [] [] []
 | cons {o ids cs objs ts ts'} (ho:σ (.o o)=.num cs.length) (hc:MArgs σ all (Qb6 σ o 0 cs.length) (cs.map .ca) ts) (r:MObjs σ all ids objs ts'):MObjs σ all (o::ids) (cs::objs) (.o o::(ts++ts'))
theorem Gm.drop (h:Gm C E σ a w) (σ':St) (hs:∀ t,σ' (.s t)=σ (.s t)) (hc:∀ o i,σ' (.c o i)=σ (.c o i)) (hg:∀ o,σ' (.g o)=σ (.g o)) (ho:∀ o n,σ' (.o o)=.num n→σ (.o o)=.num n)
  (hk:∀ k e sz T,σ' (.k k)=.row e sz T→σ (.k k)=.row e sz T) (hq:∀ k,σ' (.q k)=σ (.q k)∨gq σ k<gq σ' k) (hr:∀ k x,σ' (.r k)=.tree x→σ (.r k)=.tree x) (hl:∀ k i y,σ' (.l k)=.lent i y→σ (.l k)=.lent i y) (hh:∀ k,σ' (.h k)=σ (.h k)) (hi:∀ o k g s,σ' (.o o)=.itr k g s→σ (.o o)=.itr k g s) :
  Gm C E σ' a w∧Mo E σ E σ'∧∀ t b,HoB E σ' t b→HoB E σ t b:=by
 have hmo:Mo E σ E σ':=by
  refine ⟨Mem.le_refl _,fun o=>⟨Nat.le_of_eq (Qaz (hg o)).symm,fun _=>rfl⟩,fun k=>?_,fun k=>⟨Nat.le_of_eq (QaL (hh k)).symm,fun _=>rfl⟩⟩
  rcases hq k with h2 | h2
  ·exact ⟨Nat.le_of_eq (Qda h2).symm,fun _ e sz T h3=>⟨T,hk _ _ _ _ h3,Nat.le_refl _,fun _=>rfl⟩⟩
  ·exact ⟨by omega,fun e=>absurd e (by omega)⟩
 refine ⟨⟨h.sz,h.df,h.ms,h.fr,fun t x h1=>(h.sl t x (by rw [←hs];exact h1)).mo hmo,fun o i x n h1 h2 h3=>?_,fun o n h1=>h.ob o n (ho _ _ h1),fun k e s T h1=>h.ro k e s T (hk _ _ _ _ h1),fun o o' n n' h1 h2=>h.oo o o' n n' (ho _ _ h1) (ho _ _ h2),
  fun k k' e s T e' s' T' b h1 h2=>h.rr k k' e s T e' s' T' b (hk _ _ _ _ h1) (hk _ _ _ _ h2),fun o n k e s T h1 h2=>h.or o n k e s T (ho _ _ h1) (hk _ _ _ _ h2),h.pi,h.ml,h.mx,
  h.tr.step hmo rfl rfl hr hl (fun _ _ _ _=>rfl) (fun k x b h1 h2 h3 h4=>⟨rfl,h4⟩) (fun o n k x h1 _ _ _=>⟨n,ho _ _ h1,rfl⟩) (fun k' e s T b k x h1 _ _ h4 _=>⟨e,s,T,hk _ _ _ _ h1,h4⟩) (fun o k g s h1=>⟨hi o k g s h1,rfl⟩) (fun _ _ _ _ _ _=>rfl)⟩,hmo,fun t b hb=>?_⟩
 ·obtain ⟨v,hv,hr⟩:=h.ce o i x n (by rw [←hc];exact h1) (ho _ _ h2) h3
  exact ⟨v,hv,hr.mo hmo⟩
 ·cases t with
  | o i=>obtain ⟨n,h1,h2⟩:=hb;exact ⟨n,ho _ _ h1,h2⟩
  | k i=>obtain ⟨e,sz,T,h1,h2⟩:=hb;exact ⟨e,sz,T,hk _ _ _ _ h1,h2⟩
  | r i=>obtain ⟨x,h1,h2⟩:=hb;exact ⟨x,hr _ _ h1,h2⟩
theorem Gm.turn (h:Gm C E σ a w) (D':Nat→Prop) (w':World) (m':Mem) (hc:Chg D' w w') (hm:E.m.le m') (hs:∀ b i v,m' b i=some v→w'.cell? ⟨b,i,none⟩=some v) (hD:∀ b,D' b→C.D b∨C.w0.heap.size≤b)
  (hl:∀ b,Qbm E σ b→¬D' b) (hji:∀ (b:Nat) (mb:Option Nat) (n:Nat) (bs:Array Nat) (l:Nat),w.heap[b]? = some (Obj.mapIter mb n bs l)→¬D' b) (hk:∀ b i,b<w.heap.size→¬D' b→m' b i=E.m b i):Gm C { E with m:=m' } σ a w':=by
 have hmo:Mo E σ { E with m:=m' } σ:=⟨hm,fun o=>⟨Nat.le_refl _,fun _=>rfl⟩,fun k=>⟨Nat.le_refl _,fun _ e sz T h2=>⟨T,h2,Nat.le_refl _,fun _=>rfl⟩⟩,fun k=>⟨Nat.le_refl _,fun _=>rfl⟩⟩
 have hob:∀ o n,σ (.o o)=.num n→E.loc o<w.heap.size∧¬D' (E.loc o):=by
  intro o n h1
  obtain ⟨⟨c1,t1,h2,_⟩,_⟩:=h.ob o n h1
  exact ⟨(Array.getElem?_eq_some_iff.1 h2).1,hl _ ⟨.o o,n,h1,rfl⟩⟩
 refine ⟨h.sz,h.df,hs,h.fr.step hc (fun i hi he=>by rcases hD i he with h1 | h1;exact h1;omega),fun t x h1=>(h.sl t x h1).mo hmo,fun o i x n h1 h2 h3=>?_,fun o n h1=>?_,fun k e s T h1=>?_,h.oo,h.rr,h.or,h.pi,Mem.le_trans h.ml hm,fun b i h1 h2=>by
  show m' b i=_
  rw [hk b i (Nat.lt_of_lt_of_le h1 h.fr.size) (fun hd=>by rcases hD b hd with h3 | h3;exact h2 h3;omega)];exact h.mx b i h1 h2,
  h.tr.step hmo rfl rfl (fun _ _ h=>h) (fun _ _ _ h=>h) (fun _ _ _ _=>rfl) (fun k x b h1 h2 h3 h4=>⟨hc.block b h3 (hl _ ⟨.r k,x,h1,h2⟩),fun i=>by rw [←h4 i];exact hk b i h3 (hl _ ⟨.r k,x,h1,h2⟩)⟩)
   (fun o n k x h1 _ _ _=>⟨n,h1,rfl⟩) (fun k' e s T b k x h1 _ _ h4 _=>⟨e,s,T,h1,h4⟩) (fun o k g s h1=>⟨h1,rfl⟩) (fun b mb n bs l h1=>hc.block b (Array.getElem?_eq_some_iff.1 h1).1 (hji b mb n bs l h1))⟩
 ·obtain ⟨v,hv,hr⟩:=h.ce o i x n h1 h2 h3
  obtain ⟨h4,h5⟩:=hob o n h2
  exact ⟨v,by rw [World.cell?_of_block (w:=w) (a:=⟨E.loc o,i,none⟩) (hc.block _ h4 h5)];exact hv,hr.mo hmo⟩
 ·obtain ⟨⟨c1,t1,h2,h3⟩,h4,h5⟩:=h.ob o n h1
  obtain ⟨h6,h7⟩:=hob o n h1
  exact ⟨⟨c1,t1,by rw [hc.block _ h6 h7];exact h2,h3⟩,fun i=>by show m' _ i=_;rw [hk _ _ h6 h7];exact h4 i,h5⟩
 ·obtain ⟨h2,h3⟩:=h.ro k e s T h1
  have h4:∀ b,(E.rv k).ownBlock=some b→b<w.heap.size∧¬D' b:=fun b hb=>⟨(h2.lt b hb).2,hl _ ⟨.k k,e,s,T,h1,hb⟩⟩
  exact ⟨QcG h2 fun b hb=>hc.block _ (h4 b hb).1 (h4 b hb).2,fun b hb=>⟨fun i=>by show m' b i=_;rw [hk _ _ (h4 b hb).1 (h4 b hb).2];exact (h3 b hb).1 i,(h3 b hb).2⟩⟩
theorem Gm.gainRow (h:Gm C E σ a w) (k:Id) (G':Nat) (hlt:gq σ k<G') (e:TypeId) (sz n:Nat) (v:Value) (xs:List Value) (hown:w.ownsRow 0 e sz v n xs)
  (hb:∀ b,v.ownBlock=some b→(∀ i,E.m b i=xs[i]?)∧(C.D b∨C.w0.heap.size≤b)∧¬Qbm E σ b) :
  ∃ E',Gm C E' (Qaf σ [(.q k,.num G'),(.k k,.row e sz n)]) a w∧Mo E σ E' (Qaf σ [(.q k,.num G'),(.k k,.row e sz n)])∧E'.m=E.m∧E'.loc=E.loc ∧
   (∀ b,Qbm E' (Qaf σ [(.q k,.num G'),(.k k,.row e sz n)]) b→Qbm E σ b∨v.ownBlock=some b) ∧
   ∀ es:List (List V),es.length=n→Rd E.m (.lst sz es) v→RdA E' (Qaf σ [(.q k,.num G'),(.k k,.row e sz n)]) (.own k G' e sz es) v:=by
 obtain ⟨σ',hσ'⟩:∃ s,s=Qaf σ [(.q k,.num G'),(.k k,.row e sz n)]:=⟨_,rfl⟩
 have qq:∀ k',σ' (.q k')=if k'=k then .num G' else σ (.q k'):=by
  intro k';rw [hσ'];show put (put σ (.q k) (.num G')) (.k k) (.row e sz n) (.q k')=_
  rw [Qag _ _ (by simp)];by_cases hk:k'=k
  ·subst hk;simp [put]
  ·simp [put,hk]
 have qk:∀ k',σ' (.k k')=if k'=k then .row e sz n else σ (.k k'):=by
  intro k';rw [hσ'];show put (put σ (.q k) (.num G')) (.k k) (.row e sz n) (.k k')=_
  by_cases hk:k'=k
  ·subst hk;simp [put]
  ·simp [put,hk]
 have qg:∀ o,σ' (.g o)=σ (.g o):=by intro o;rw [hσ'];simp [Qaf,put]
 have qo:∀ o,σ' (.o o)=σ (.o o):=by intro o;rw [hσ'];simp [Qaf,put]
 have qs:∀ o,σ' (.s o)=σ (.s o):=by intro o;rw [hσ'];simp [Qaf,put]
 have qc:∀ o i,σ' (.c o i)=σ (.c o i):=by intro o i;rw [hσ'];simp [Qaf,put]
 have qh:∀ o,σ' (.h o)=σ (.h o):=by intro o;rw [hσ'];simp [Qaf,put]
 have qr:∀ o,σ' (.r o)=σ (.r o):=by intro o;rw [hσ'];simp [Qaf,put]
 have ql:∀ o,σ' (.l o)=σ (.l o):=by intro o;rw [hσ'];simp [Qaf,put]
 rw [←hσ']
 clear hσ'
 obtain ⟨E',hE'⟩:∃ E':Env,E' = { E with rv:=fun k'=>if k'=k then v else E.rv k',rx:=fun k'=>if k'=k then xs else E.rx k' }:=⟨_,rfl⟩
 have em:E'.m=E.m:=by rw [hE']
 have eloc:E'.loc=E.loc:=by rw [hE']
 have erv:∀ k',E'.rv k'=if k'=k then v else E.rv k':=by intro k';rw [hE']
 have erx:∀ k',E'.rx k'=if k'=k then xs else E.rx k':=by intro k';rw [hE']
 have ebv:E'.bv=E.bv:=by rw [hE']
 have ebf:E'.bf=E.bf:=by rw [hE']
 clear hE'
 have hmo:Mo E σ E' σ':=by
  refine ⟨by rw [em];exact Mem.le_refl _,fun o=>⟨Nat.le_of_eq (Qaz (qg o)).symm,fun _=>by rw [eloc]⟩,fun k'=>?_,fun k'=>⟨Nat.le_of_eq (QaL (qh k')).symm,fun _=>by rw [ebv]⟩⟩
  by_cases hk:k'=k
  ·subst hk
   have hq':gq σ' k'=G':=Qk1 (by rw [qq,if_pos rfl])
   exact ⟨by omega,fun he=>absurd he (by omega)⟩
  ·have hq':gq σ' k'=gq σ k':=Qda (by rw [qq,if_neg hk])
   refine ⟨by omega,fun _ e1 sz1 T1 h2=>?_⟩
   rw [qk,if_neg hk] at h2
   exact ⟨T1,h2,Nat.le_refl _,fun _=>by rw [erv,if_neg hk]⟩
 refine ⟨E',⟨h.sz,h.df,by rw [em];exact h.ms,h.fr,fun t x h1=>(h.sl t x (by rw [←qs];exact h1)).mo hmo,fun o i x n h1 h2 h3=>?_,fun o n h1=>?_,fun k' e1 s1 T1 h1=>?_,fun o o' n n' h1 h2 h3=>?_,fun k1 k2 e1 s1 T1 e2 s2 T2 b h1 h2 h3 h4=>?_,fun o n k' e1 s1 T1 h1 h2=>?_,fun o b h1=>by rw [eloc];exact h.pi o b h1,by rw [em];exact h.ml,by rw [em];exact h.mx,
  h.tr.step hmo ebv ebf (fun k x hx=>by rw [←qr];exact hx) (fun k i y hy=>by rw [←ql];exact hy) (fun _ _ _ _=>by rw [eloc]) (fun k' x b h1 h2 h3 h4=>⟨rfl,by rw [em];exact h4⟩)
   (fun o n k' x h1 _ _ _=>⟨n,by rw [←qo];exact h1,by rw [eloc]⟩)
   (fun k1 e1 s1 T1 b k' x h1 h2 h3 h4 h5=>by
    by_cases hk:k1=k
    ·subst hk;rw [erv,if_pos rfl] at h4;exact absurd ⟨.r k',x,h2,h3⟩ (hb b h4).2.2
    ·rw [qk,if_neg hk] at h1;rw [erv,if_neg hk] at h4;exact ⟨e1,s1,T1,h1,h4⟩)
   (fun o k' g s h1=>⟨by rw [←qo];exact h1,by rw [eloc]⟩) (fun _ _ _ _ _ _=>rfl)⟩,hmo,em,eloc,fun b hb1=>?_,fun es hes hrd=>⟨by rw [em];exact hrd,?_⟩⟩
 ·rw [qc] at h1
  rw [qo] at h2
  obtain ⟨u,hu,hr⟩:=h.ce o i x n h1 h2 h3
  exact ⟨u,by rw [eloc];exact hu,hr.mo hmo⟩
 ·rw [qo] at h1
  rw [eloc,em]
  exact h.ob o n h1
 ·rw [qk] at h1
  by_cases hk:k'=k
  ·subst hk
   rw [if_pos rfl] at h1
   cases h1
   rw [erv,erx,if_pos rfl,if_pos rfl,em]
   exact ⟨hown,fun b h1=>⟨(hb b h1).1,(hb b h1).2.1⟩⟩
  ·rw [if_neg hk] at h1
   rw [erv,erx,if_neg hk,if_neg hk,em]
   exact h.ro k' e1 s1 T1 h1
 ·rw [qo] at h1 h2
  rw [eloc] at h3
  exact h.oo o o' n n' h1 h2 h3
 ·rw [qk] at h1 h2
  rw [erv] at h3 h4
  by_cases hk1:k1=k
  ·by_cases hk2:k2=k
   ·rw [hk1,hk2]
   ·rw [if_pos hk1] at h3
    rw [if_neg hk2] at h2 h4
    exact absurd ⟨.k k2,e2,s2,T2,h2,h4⟩ (hb b h3).2.2
  ·rw [if_neg hk1] at h1 h3
   by_cases hk2:k2=k
   ·rw [if_pos hk2] at h4
    exact absurd ⟨.k k1,e1,s1,T1,h1,h3⟩ (hb b h4).2.2
   ·rw [if_neg hk2] at h2 h4
    exact h.rr k1 k2 e1 s1 T1 e2 s2 T2 b h1 h2 h3 h4
 ·rw [qo] at h1
  rw [qk] at h2
  rw [erv,eloc]
  by_cases hk:k'=k
  ·rw [if_pos hk]
   intro he
   exact absurd ⟨.o o,n,h1,rfl⟩ (hb _ he).2.2
  ·rw [if_neg hk] at h2 ⊢
   exact h.or o n k' e1 s1 T1 h1 h2
 ·rcases hb1 with ⟨o | k' | k',hb1⟩
  ·obtain ⟨n',h1,h2⟩:=hb1
   rw [qo] at h1
   rw [eloc] at h2
   exact .inl ⟨.o o,n',h1,h2⟩
  ·obtain ⟨e1,s1,T1,h1,h2⟩:=hb1
   rw [qk] at h1
   rw [erv] at h2
   by_cases hk:k'=k
   ·rw [if_pos hk] at h2;exact .inr h2
   ·rw [if_neg hk] at h1 h2;exact .inl ⟨.k k',e1,s1,T1,h1,h2⟩
  ·obtain ⟨x,h1,h2⟩:=hb1
   rw [qr] at h1
   rw [ebf] at h2
   exact .inl ⟨.r k',x,h1,h2⟩
 ·have hq':gq σ' k=G':=Qk1 (by rw [qq,if_pos rfl])
  refine ⟨by omega,fun _ e1 sz1 T1 h2=>?_⟩
  rw [qk,if_pos rfl] at h2
  cases h2
  exact ⟨by omega,fun _=>⟨rfl,rfl,by rw [erv,if_pos rfl]⟩⟩
def Qu3 (o:Id) (G' n:Nat) (xs:List AV):List (Pl × X):=(.g o,.num G')::(.o o,.num n)::QaU o 0 xs
theorem Gm.gainObj (h:Gm C E σ a w) (o:Id) (G' b:Nat) (hgg:(G'=gg σ o∧E.loc o=b)∨(gg σ o<G'∧C.pins o=none∧o.2=0)) (ty:TypeId) (vs:List Value) (xs:List AV) (hl:vs.length=xs.length)
  (hblk:w.heap[b]? = some (.cells vs.toArray ty (0,0))) (hm0:∀ i,E.m b i=none) (hD:C.D b∨C.w0.heap.size≤b) (hnl:¬Qbm E σ b)
  (hx:∀ i (hi:i<xs.length),RdA E σ xs[i] (vs[i]'(hl ▸ hi))) :
  ∃ E',Gm C E' (Qaf σ (Qu3 o G' xs.length xs)) a w∧Mo E σ E' (Qaf σ (Qu3 o G' xs.length xs))∧E'.m=E.m∧(∀ o',o'≠o→E'.loc o'=E.loc o') ∧
   (∀ b',Qbm E' (Qaf σ (Qu3 o G' xs.length xs)) b'→Qbm E σ b'∨b'=b)∧∀ off,RdA E' (Qaf σ (Qu3 o G' xs.length xs)) (.ptr o G' off) (.pointer (some ⟨b,off,none⟩)):=by
 obtain ⟨σ1,hσ1⟩:∃ s,s=put (put σ (.g o) (.num G')) (.o o) (.num xs.length):=⟨_,rfl⟩
 have hσ:Qaf σ (Qu3 o G' xs.length xs)=Qaf σ1 (QaU o 0 xs):=by rw [hσ1];rfl
 have qg:∀ o',Qaf σ1 (QaU o 0 xs) (.g o')=if o'=o then .num G' else σ (.g o'):=by
  intro o'
  rw [Qaw _ _ _ _ _ (by simp),hσ1,Qag _ _ (by simp)]
  by_cases e:o'=o
  ·subst e;simp [put]
  ·simp [put,e]
 have qo:∀ o',Qaf σ1 (QaU o 0 xs) (.o o')=if o'=o then .num xs.length else σ (.o o'):=by
  intro o'
  rw [Qaw _ _ _ _ _ (by simp),hσ1]
  by_cases e:o'=o
  ·subst e;simp [put]
  ·simp [put,e]
 have qk:∀ k,Qaf σ1 (QaU o 0 xs) (.k k)=σ (.k k):=by intro k;rw [Qaw _ _ _ _ _ (by simp),hσ1];simp [put]
 have qq:∀ k,Qaf σ1 (QaU o 0 xs) (.q k)=σ (.q k):=by intro k;rw [Qaw _ _ _ _ _ (by simp),hσ1];simp [put]
 have qs:∀ t,Qaf σ1 (QaU o 0 xs) (.s t)=σ (.s t):=by intro k;rw [Qaw _ _ _ _ _ (by simp),hσ1];simp [put]
 have qh:∀ k,Qaf σ1 (QaU o 0 xs) (.h k)=σ (.h k):=by intro k;rw [Qaw _ _ _ _ _ (by simp),hσ1];simp [put]
 have qr:∀ k,Qaf σ1 (QaU o 0 xs) (.r k)=σ (.r k):=by intro k;rw [Qaw _ _ _ _ _ (by simp),hσ1];simp [put]
 have ql:∀ k,Qaf σ1 (QaU o 0 xs) (.l k)=σ (.l k):=by intro k;rw [Qaw _ _ _ _ _ (by simp),hσ1];simp [put]
 have qc:∀ o' i,o'≠o→Qaf σ1 (QaU o 0 xs) (.c o' i)=σ (.c o' i):=by
  intro o' i e;rw [Qaw _ _ _ _ _ (by simp [e]),hσ1];simp [put]
 have qco:∀ j (hj:j<xs.length),Qaf σ1 (QaU o 0 xs) (.c o j)=.av xs[j]:=by
  intro j hj;rw [QhK];simp [hj]
 rw [hσ]
 clear hσ
 generalize Qaf σ1 (QaU o 0 xs)=σ2 at *
 obtain ⟨E',hE'⟩:∃ E':Env,E' = { E with loc:=fun o'=>if o'=o then b else E.loc o' }:=⟨_,rfl⟩
 have hm:E'.m=E.m:=by rw [hE']
 have hloc:∀ o',o'≠o→E'.loc o'=E.loc o':=by intro o' e;rw [hE'];simp [e]
 have hloco:E'.loc o=b:=by rw [hE'];simp
 have hrv:E'.rv=E.rv:=by rw [hE']
 have hrx:E'.rx=E.rx:=by rw [hE']
 have hbv:E'.bv=E.bv:=by rw [hE']
 have hbf:E'.bf=E.bf:=by rw [hE']
 clear hE'
 have hmo:Mo E σ E' σ2:=by
  refine ⟨by rw [hm];exact Mem.le_refl _,fun o'=>?_,fun k=>⟨Nat.le_of_eq (Qda (qq k)).symm,fun _ e sz T h2=>⟨T,by rw [←qk];exact h2,Nat.le_refl _,fun _=>by rw [hrv]⟩⟩,fun k=>⟨Nat.le_of_eq (QaL (qh k)).symm,fun _=>by rw [hbv]⟩⟩
  by_cases e:o'=o
  ·subst e
   have hg':gg σ2 o'=G':=QdO (by rw [qg,if_pos rfl])
   rcases hgg with ⟨h2,h3⟩ | ⟨h2,_⟩
   ·exact ⟨by omega,fun _=>by rw [hloco,h3]⟩
   ·exact ⟨by omega,fun e=>absurd e (by omega)⟩
  ·have hg':gg σ2 o'=gg σ o':=Qaz (by rw [qg,if_neg e])
   exact ⟨by omega,fun _=>hloc _ e⟩
 refine ⟨E',⟨h.sz,h.df,by rw [hm];exact h.ms,h.fr,fun t x h1=>(h.sl t x (by rw [←qs];exact h1)).mo hmo,fun o' i x n h1 h2 h3=>?_,fun o' n h1=>?_,fun k e s T h1=>?_,fun o1 o2 n n' h1 h2 h3=>?_,fun k k' e s T e' s' T' b' h1 h2 h3 h4=>?_,fun o' n k e s T h1 h2=>?_,fun o' b' h1=>?_,by rw [hm];exact h.ml,by rw [hm];exact h.mx,
  h.tr.step hmo hbv hbf (fun k x hx=>by rw [←qr];exact hx) (fun k i y hy=>by rw [←ql];exact hy)
   (fun k xs _ hk=>by
    by_cases e:k=o
    ·subst e
     rcases hgg with ⟨_,h3⟩ | ⟨_,_,h3⟩
     ·rw [hloco,h3]
     ·exact absurd h3 hk
    ·exact hloc k e)
   (fun k x b _ _ hb h5=>⟨rfl,by rw [hm];exact h5⟩)
   (fun o' n k x h1 h2 h3 _=>by
    by_cases e:o'=o
    ·subst e;rw [hloco] at h3;exact absurd ⟨.r k,x,h2,h3⟩ hnl
    ·rw [qo,if_neg e] at h1;exact ⟨n,h1,hloc _ e⟩)
   (fun k' e s T b k x h1 _ _ h4 _=>⟨e,s,T,by rw [←qk];exact h1,by rw [←hrv];exact h4⟩)
   (fun o' k g s h1=>by
    by_cases e:o'=o
    ·rw [qo,if_pos e] at h1;cases h1
    ·rw [qo,if_neg e] at h1;exact ⟨h1,hloc _ e⟩) (fun _ _ _ _ _ _=>rfl)⟩,hmo,hm,hloc,fun b' hb=>?_,fun off=>?_⟩
 ·by_cases e:o'=o
  ·subst e
   rw [qo,if_pos rfl] at h2
   cases h2
   rw [qco i h3] at h1
   cases h1
   refine ⟨vs[i]'(hl ▸ h3),?_,(hx i h3).mo hmo⟩
   rw [hloco,cell_of_row _ _ _ _ _ _ hblk]
   simp [hl ▸ h3]
  ·rw [qo,if_neg e] at h2
   rw [qc _ _ e] at h1
   obtain ⟨v,hv,hr⟩:=h.ce o' i x n h1 h2 h3
   exact ⟨v,by rw [hloc _ e];exact hv,hr.mo hmo⟩
 ·by_cases e:o'=o
  ·subst e
   rw [qo,if_pos rfl] at h1
   cases h1
   rw [hloco,hm]
   exact ⟨⟨_,ty,hblk,by simpa using hl⟩,hm0,hD⟩
  ·rw [qo,if_neg e] at h1
   rw [hloc _ e,hm]
   exact h.ob o' n h1
 ·rw [qk] at h1
  rw [hrv,hrx,hm]
  exact h.ro k e s T h1
 ·rw [qo] at h1 h2
  by_cases e1:o1=o
  ·by_cases e2:o2=o
   ·rw [e1,e2]
   ·rw [if_neg e2] at h2
    subst e1
    rw [hloco,hloc _ e2] at h3
    exact absurd ⟨.o o2,n',h2,h3.symm⟩ hnl
  ·rw [if_neg e1] at h1
   by_cases e2:o2=o
   ·subst e2
    rw [hloco,hloc _ e1] at h3
    exact absurd ⟨.o o1,n,h1,h3⟩ hnl
   ·rw [if_neg e2] at h2
    rw [hloc _ e1,hloc _ e2] at h3
    exact h.oo o1 o2 n n' h1 h2 h3
 ·rw [qk] at h1 h2
  rw [hrv] at h3 h4
  exact h.rr k k' e s T e' s' T' b' h1 h2 h3 h4
 ·rw [qk] at h2
  rw [qo] at h1
  rw [hrv]
  by_cases e1:o'=o
  ·subst e1
   rw [hloco]
   intro he
   exact absurd ⟨.k k,e,s,T,h2,he⟩ hnl
  ·rw [if_neg e1] at h1
   rw [hloc _ e1]
   exact h.or o' n k e s T h1 h2
 ·by_cases e1:o'=o
  ·subst e1
   rcases hgg with ⟨_,h3⟩ | ⟨_,h3,_⟩
   ·rw [hloco,←h3];exact h.pi _ b' h1
   ·rw [h3] at h1;cases h1
  ·rw [hloc _ e1];exact h.pi o' b' h1
 ·rcases hb with ⟨o' | k' | k',hb⟩
  ·obtain ⟨n',h1,h2⟩:=hb
   rw [qo] at h1
   by_cases e1:o'=o
   ·subst e1;rw [hloco] at h2;exact .inr h2.symm
   ·rw [if_neg e1] at h1;rw [hloc _ e1] at h2;exact .inl ⟨.o o',n',h1,h2⟩
  ·obtain ⟨e1,s1,T1,h1,h2⟩:=hb
   rw [qk] at h1
   rw [hrv] at h2
   exact .inl ⟨.k k',e1,s1,T1,h1,h2⟩
  ·obtain ⟨x,h1,h2⟩:=hb
   rw [qr] at h1
   rw [hbf] at h2
   exact .inl ⟨.r k',x,h1,h2⟩
 ·have hg':gg σ2 o=G':=QdO (by rw [qg,if_pos rfl])
  exact ⟨by omega,fun _=>by rw [hloco]⟩
def QaA (σ:St) (k:Id) (x:T):List (Pl × X):=[(.h k,.num (gh σ k+1)),(.g k,.num (gg σ k+1)),(.o k,.non),(.l k,.non),(.r k,.tree x)]
def QeV (σ:St) (k:Id):T→AV
 | .box _=>.ptr k (gg σ k+1) 0
 | _=>.ref k (gh σ k+1)
theorem Gm.gainTree (h:Gm C E σ a w) (k:Id) (x:T) (v:Value) (F:List Nat) (hx:∀ y,x≠.av y) (hh:Hg E.m w [x] [v] F) (hb:∀ b∈F,(C.D b∨C.w0.heap.size≤b)∧¬Qbm E σ b) (hk:k.2≠0) :
  ∃ E',Gm C E' (Qaf σ (QaA σ k x)) a w∧Mo E σ E' (Qaf σ (QaA σ k x))∧E'.m=E.m∧(∀ o,o≠k→E'.loc o=E.loc o)∧(∀ b,Qbm E' (Qaf σ (QaA σ k x)) b→Qbm E σ b∨b∈F)∧RdP E' (Qaf σ (QaA σ k x)) (QeV σ k x) v:=by
 obtain ⟨σ',hσ'⟩:∃ s,s=Qaf σ (QaA σ k x):=⟨_,rfl⟩
 have qh:∀ k',σ' (.h k')=if k'=k then .num (gh σ k+1) else σ (.h k'):=by
  intro k';rw [hσ'];by_cases e:k'=k
  ·subst e;simp [QaA,Qaf,put]
  ·simp [QaA,Qaf,put,e]
 have qg:∀ k',σ' (.g k')=if k'=k then .num (gg σ k+1) else σ (.g k'):=by
  intro k';rw [hσ'];by_cases e:k'=k
  ·subst e;simp [QaA,Qaf,put]
  ·simp [QaA,Qaf,put,e]
 have qo:∀ k',σ' (.o k')=if k'=k then .non else σ (.o k'):=by
  intro k';rw [hσ'];by_cases e:k'=k
  ·subst e;simp [QaA,Qaf,put]
  ·simp [QaA,Qaf,put,e]
 have ql:∀ k',σ' (.l k')=if k'=k then .non else σ (.l k'):=by
  intro k';rw [hσ'];by_cases e:k'=k
  ·subst e;simp [QaA,Qaf,put]
  ·simp [QaA,Qaf,put,e]
 have qr:∀ k',σ' (.r k')=if k'=k then .tree x else σ (.r k'):=by
  intro k';rw [hσ'];by_cases e:k'=k
  ·subst e;simp [QaA,Qaf,put]
  ·simp [QaA,Qaf,put,e]
 have qk:∀ k',σ' (.k k')=σ (.k k'):=by intro k';rw [hσ'];simp [QaA,Qaf,put]
 have qq:∀ k',σ' (.q k')=σ (.q k'):=by intro k';rw [hσ'];simp [QaA,Qaf,put]
 have qs:∀ k',σ' (.s k')=σ (.s k'):=by intro k';rw [hσ'];simp [QaA,Qaf,put]
 have qc:∀ k' i,σ' (.c k' i)=σ (.c k' i):=by intro k' i;rw [hσ'];simp [QaA,Qaf,put]
 rw [←hσ']
 clear hσ'
 obtain ⟨b0,hb0⟩:∃ b0,∀ ys,x=.box ys→v=.pointer (some ⟨b0,0,none⟩)∧b0∈F:=by
  cases hh with
  | av=>exact absurd rfl (hx _)
  | box=>exact ⟨_,fun ys h=>⟨rfl,by simp⟩⟩
  | row=>exact ⟨0,fun ys h=>by cases h⟩
  | rw=>exact ⟨0,fun ys h=>by cases h⟩
  | mp=>exact ⟨0,fun ys h=>by cases h⟩
  | pm=>exact ⟨0,fun ys h=>by cases h⟩
  | bag=>exact ⟨0,fun ys h=>by cases h⟩
 obtain ⟨E',hE'⟩:∃ E':Env,E' = { E with loc:=fun o'=>if o'=k then b0 else E.loc o',bv:=fun o'=>if o'=k then v else E.bv o',bf:=fun o'=>if o'=k then F else E.bf o' }:=⟨_,rfl⟩
 have hm:E'.m=E.m:=by rw [hE']
 have hloc:∀ o',o'≠k→E'.loc o'=E.loc o':=by intro o' e;rw [hE'];simp [e]
 have hlock:E'.loc k=b0:=by rw [hE'];simp
 have hrv:E'.rv=E.rv:=by rw [hE']
 have hrx:E'.rx=E.rx:=by rw [hE']
 have hbv:∀ o',E'.bv o'=if o'=k then v else E.bv o':=by intro o';rw [hE']
 have hbf:∀ o',E'.bf o'=if o'=k then F else E.bf o':=by intro o';rw [hE']
 clear hE'
 have hmo:Mo E σ E' σ':=by
  refine ⟨by rw [hm];exact Mem.le_refl _,fun o'=>?_,fun k'=>⟨Nat.le_of_eq (Qda (qq k')).symm,fun _ e sz T h2=>⟨T,by rw [←qk];exact h2,Nat.le_refl _,fun _=>by rw [hrv]⟩⟩,fun k'=>?_⟩
  ·by_cases e:o'=k
   ·subst e
    have:gg σ' o'=gg σ o'+1:=QdO (by rw [qg,if_pos rfl])
    exact ⟨by omega,fun e=>absurd e (by omega)⟩
   ·have:gg σ' o'=gg σ o':=Qaz (by rw [qg,if_neg e])
    exact ⟨by omega,fun _=>hloc _ e⟩
  ·by_cases e:k'=k
   ·subst e
    have:gh σ' k'=gh σ k'+1:=Qk0 (by rw [qh,if_pos rfl])
    exact ⟨by omega,fun e=>absurd e (by omega)⟩
   ·have:gh σ' k'=gh σ k':=QaL (by rw [qh,if_neg e])
    exact ⟨by omega,fun _=>by rw [hbv,if_neg e]⟩
 have hnum:∀ o n,σ' (.o o)=.num n→o≠k∧σ (.o o)=.num n:=fun o n h1=>by
  rw [qo] at h1
  by_cases e:o=k
  ·rw [if_pos e] at h1;cases h1
  ·rw [if_neg e] at h1;exact ⟨e,h1⟩
 have hnl:∀ t b,HoB E σ t b→b∉F:=fun t b h1 h2=>(hb b h2).2 ⟨t,h1⟩
 refine ⟨E',⟨h.sz,h.df,by rw [hm];exact h.ms,h.fr,fun t y h1=>(h.sl t y (by rw [←qs];exact h1)).mo hmo,fun o i y n h1 h2 h3=>?_,fun o n h1=>?_,fun k' e s T h1=>?_,fun o1 o2 n n' h1 h2 h3=>?_,fun k1 k2 e s T e' s' T' b h1 h2 h3 h4=>?_,fun o n k' e s T h1 h2=>?_,fun o b h1=>?_,by rw [hm];exact h.ml,by rw [hm];exact h.mx,?_⟩,hmo,hm,hloc,fun b hL=>?_,?_⟩
 ·obtain ⟨e,h2⟩:=hnum o n h2
  rw [qc] at h1
  obtain ⟨u,hu,hr⟩:=h.ce o i y n h1 h2 h3
  exact ⟨u,by rw [hloc _ e];exact hu,hr.mo hmo⟩
 ·obtain ⟨e,h1⟩:=hnum o n h1
  rw [hloc _ e,hm]
  exact h.ob o n h1
 ·rw [qk] at h1
  rw [hrv,hrx,hm]
  exact h.ro k' e s T h1
 ·obtain ⟨e1,h1⟩:=hnum o1 n h1
  obtain ⟨e2,h2⟩:=hnum o2 n' h2
  rw [hloc _ e1,hloc _ e2] at h3
  exact h.oo o1 o2 n n' h1 h2 h3
 ·rw [qk] at h1 h2
  rw [hrv] at h3 h4
  exact h.rr k1 k2 e s T e' s' T' b h1 h2 h3 h4
 ·obtain ⟨e1,h1⟩:=hnum o n h1
  rw [qk] at h2
  rw [hrv,hloc _ e1]
  exact h.or o n k' e s T h1 h2
 ·by_cases e:o=k
  ·subst e;rw [C.nq o hk] at h1;cases h1
  ·rw [hloc _ e];exact h.pi o b h1
 ·refine ⟨fun k' y h1=>?_,fun k' y b h1 h2=>?_,fun k' ys h1=>?_,fun k1 k2 x1 x2 b h1 h2 h3 h4=>?_,fun o n k' y h1 h2 h3=>?_,fun k1 e s T k' y b h1 h2 h3 h4=>?_,fun k' y i z h1 h2=>?_,fun o k' g s h1=>?_,fun o o' k1 g s k2 g' s' h1 h2 h3=>?_⟩
  ·rw [hm,hbv,hbf]
   rw [qr] at h1
   by_cases e:k'=k
   ·rw [if_pos e] at h1;cases h1;rw [if_pos e,if_pos e];exact ⟨hh,hx⟩
   ·rw [if_neg e] at h1 ⊢;rw [if_neg e];exact h.tr.hg k' y h1
  ·rw [hbf] at h2
   rw [qr] at h1
   by_cases e:k'=k
   ·rw [if_pos e] at h2;exact (hb b h2).1
   ·rw [if_neg e] at h1 h2;exact h.tr.dd k' y b h1 h2
  ·rw [qr] at h1
   rw [hbv]
   by_cases e:k'=k
   ·rw [if_pos e] at h1 ⊢
    cases h1
    rw [e,hlock]
    exact ⟨(hb0 ys rfl).1,hk⟩
   ·rw [if_neg e] at h1 ⊢
    rw [hloc _ e]
    exact h.tr.bx k' ys h1
  ·rw [hbf] at h3 h4
   rw [qr] at h1 h2
   by_cases e1:k1=k
   ·by_cases e2:k2=k
    ·rw [e1,e2]
    ·rw [if_pos e1] at h3
     rw [if_neg e2] at h2 h4
     exact absurd h3 (hnl (.r k2) b ⟨x2,h2,h4⟩)
   ·rw [if_neg e1] at h1 h3
    by_cases e2:k2=k
    ·rw [if_pos e2] at h4
     exact absurd h4 (hnl (.r k1) b ⟨x1,h1,h3⟩)
    ·rw [if_neg e2] at h2 h4
     exact h.tr.tt k1 k2 x1 x2 b h1 h2 h3 h4
  ·obtain ⟨e1,h1⟩:=hnum o n h1
   rw [hloc _ e1,hbf] at h3
   rw [qr] at h2
   by_cases e:k'=k
   ·rw [if_pos e] at h3;exact hnl (.o o) _ ⟨n,h1,rfl⟩ h3
   ·rw [if_neg e] at h2 h3;exact h.tr.ot o n k' y h1 h2 h3
  ·rw [qk] at h1
   rw [qr] at h2
   rw [hbf] at h3
   rw [hrv] at h4
   by_cases e1:k'=k
   ·rw [if_pos e1] at h3;exact hnl (.k k1) b ⟨e,s,T,h1,h4⟩ h3
   ·rw [if_neg e1] at h2 h3;exact h.tr.tk k1 e s T k' y b h1 h2 h3 h4
  ·rw [qr] at h1
   rw [ql] at h2
   by_cases e:k'=k
   ·rw [if_pos e] at h2;cases h2
   ·rw [if_neg e] at h1 h2
    rw [hbv,if_neg e]
    obtain ⟨u,hu,hr⟩:=h.tr.le k' y i z h1 h2
    exact ⟨u,hu,hr.mo hmo⟩
  ·rw [qo] at h1
   by_cases e1:o=k
   ·rw [if_pos e1] at h1;cases h1
   ·rw [if_neg e1] at h1
    obtain ⟨mb,n,bs,l,h3,h4,h5,h6⟩:=h.tr.it o k' g s h1
    have hgl:=(hmo.g k').1
    refine ⟨mb,n,bs,l,by rw [hloc _ e1];exact h3,by rw [hloc _ e1];exact h4,by omega,fun he y hy=>?_⟩
    by_cases e:k'=k
    ·subst e
     have:gg σ' k'=gg σ k'+1:=QdO (by rw [qg,if_pos rfl])
     omega
    ·rw [qr,if_neg e] at hy
     have:=h6 (by omega) y hy
     unfold Qrh at this ⊢
     rw [hbv,if_neg e];exact this
  ·rw [qo] at h1 h2
   by_cases e1:o=k
   ·rw [if_pos e1] at h1;cases h1
   ·by_cases e2:o'=k
    ·rw [if_pos e2] at h2;cases h2
    ·rw [if_neg e1] at h1
     rw [if_neg e2] at h2
     rw [hloc _ e1,hloc _ e2] at h3
     exact h.tr.ii o o' k1 g s k2 g' s' h1 h2 h3
 ·obtain ⟨t,ht⟩:=hL
  cases t with
  | o i=>
   obtain ⟨n,h1,h2⟩:=ht
   obtain ⟨e,h1⟩:=hnum i n h1
   rw [hloc _ e] at h2
   exact .inl ⟨.o i,n,h1,h2⟩
  | k i=>
   obtain ⟨e,s,T,h1,h2⟩:=ht
   rw [qk] at h1
   rw [hrv] at h2
   exact .inl ⟨.k i,e,s,T,h1,h2⟩
  | r i=>
   obtain ⟨y,h1,h2⟩:=ht
   rw [qr] at h1
   rw [hbf] at h2
   by_cases e:i=k
   ·rw [if_pos e] at h2;exact .inr h2
   ·rw [if_neg e] at h1 h2;exact .inl ⟨.r i,y,h1,h2⟩
 ·have h1:gg σ' k=gg σ k+1:=QdO (by rw [qg,if_pos rfl])
  have h2:gh σ' k=gh σ k+1:=Qk0 (by rw [qh,if_pos rfl])
  cases x with
  | box ys=>exact ⟨by omega,fun _=>by rw [hlock];exact (hb0 ys rfl).1⟩
  | av y=>exact absurd rfl (hx y)
  | row=>exact ⟨by omega,fun _=>by rw [hbv,if_pos rfl]⟩
  | rw=>exact ⟨by omega,fun _=>by rw [hbv,if_pos rfl]⟩
  | mp=>exact ⟨by omega,fun _=>by rw [hbv,if_pos rfl]⟩
  | pm=>exact ⟨by omega,fun _=>by rw [hbv,if_pos rfl]⟩
  | bag=>exact ⟨by omega,fun _=>by rw [hbv,if_pos rfl]⟩
end
end Go.Proofs.YthfocmakkeonoaaGreatDoor
namespace Go.Proofs.YthfocmakkeonoaaGreatDoor
open Go.RowKit
theorem Mo.trans {E1 E2 E3:Env} {a b c:St} (h:Mo E1 a E2 b) (k:Mo E2 b E3 c):Mo E1 a E3 c:=by
 refine ⟨Mem.le_trans h.m k.m,fun o=>⟨Nat.le_trans (h.g o).1 (k.g o).1,fun he=>?_⟩,fun q=>⟨Nat.le_trans (h.q q).1 (k.q q).1,fun he e sz T h1=>?_⟩,fun q=>⟨Nat.le_trans (h.h q).1 (k.h q).1,fun he=>?_⟩⟩
 ·have h1:=(h.g o).1;have h2:=(k.g o).1
  rw [(k.g o).2 (by omega),(h.g o).2 (by omega)]
 ·have h2:=(h.q q).1;have h3:=(k.q q).1
  obtain ⟨T1,h4,h5,h6⟩:=(k.q q).2 (by omega) e sz T h1
  obtain ⟨T2,h7,h8,h9⟩:=(h.q q).2 (by omega) e sz T1 h4
  exact ⟨T2,h7,by omega,fun h10=>by rw [h6 (by omega),h9 (by omega)]⟩
 ·have h1:=(h.h q).1;have h2:=(k.h q).1
  rw [(k.h q).2 (by omega),(h.h q).2 (by omega)]
theorem Qj4:∀ (W:List (Pl × X)) (σ:St) (l:Pl),l∈QcP W→∃ x,(l,x)∈W∧Qaf σ W l=x
 | p::W,σ,l,h=>by
  by_cases hl:l∈QcP W
  ·obtain ⟨x,h1,h2⟩:=Qj4 W (put σ p.1 p.2) l hl
   exact ⟨x,List.mem_cons_of_mem _ h1,h2⟩
  ·have he:l=p.1:=by simp only [QcP,List.map_cons,List.mem_cons] at h;exact h.resolve_right hl
   refine ⟨p.2,by rw [he];simp,?_⟩
   show Qaf (put σ p.1 p.2) W l=_
   rw [Qcd _ _ _ hl,he,QaZ]
def Qvo (σ:St) (all:List Id) (k:Id) (i ob:Nat):List (Pl × X):=
 match all[ob]? with
 | some o=>[(.l k,.lent i (.ptr o (gg σ o) 0))]
 | none=>[]
def QdB (σ:St) (all:List Id) (k:Id):CA→List (Pl × X)
 | .val _=>[]
 | .own e sz es=>[(.q k,.num (gq σ k+1)),(.k k,.row e sz es.length)]
 | .hd x=>QaA σ k x
 | .hdl x i ob=>QaA σ k x++Qvo σ all k i ob
def Qfz (σ:St) (k:Id):CA→AV
 | .val x=>.val x
 | .own e sz es=>.own k (gq σ k+1) e sz es
 | .hd x=>QeV σ k x
 | .hdl x _ _=>QeV σ k x
def QDr:CA→Bool
 | .hd _=>true
 | .hdl _ _ _=>true
 | _=>false
def Qcl (σ:St) (all:List Id) (o:Id):Nat→List CA→List (Pl × X) × List AV
 | _,[]=>([],[])
 | j,c::cs=>let r:=Qcl (Qaf σ (QdB σ all (kid o j) c)) all o (j+1) cs
  (QdB σ all (kid o j) c++r.1,Qfz σ (kid o j) c::r.2)
def QbE (o:Id):Nat→List CA→List Id
 | _,[]=>[]
 | j,c::cs=>if QDr c then kid o j::QbE o (j+1) cs else QbE o (j+1) cs
def QaT (σ:St) (all:List Id) (o:Id) (G':Nat) (cs:List CA):List (Pl × X):=(Qcl σ all o 0 cs).1++Qu3 o G' cs.length (Qcl σ all o 0 cs).2
def QcH (all:List Id):St→List Id→List (List CA)→List (Pl × X)
 | σ,o::ids,cs::objs=>QaT σ all o (gg σ o) cs++QcH all (Qaf σ (QaT σ all o (gg σ o) cs)) ids objs
 | _,_,_=>[]
def Qcv:List Id→List (List CA)→List Id
 | o::ids,cs::objs=>QbE o 0 cs++Qcv ids objs
 | _,_=>[]
def Qbd (σ:St):Ho→List (Pl × X)
 | .o i=>[(.o i,.non)]
 | .k k=>[(.q k,.num (gq σ k+1)),(.k k,.non)]
 | .r k=>[(.r k,.non)]
def Qa0 (σ:St) (ts:List Ho):List (Pl × X):=ts.flatMap (Qbd σ)
section
variable {P:Program} {ops:Array Oper} {C:Ctx} {E:Env} {σ:St} {a:Act} {w:World}
theorem Gm.lend (h:Gm C E σ a w) (k:Id) (x:T) (hx:σ (.r k)=.tree x) (i:Nat) (y:AV) (hy:∃ v,QcB w (E.bv k) i=some v∧RdA E σ y v):Gm C E (put σ (.l k) (.lent i y)) a w∧Mo E σ E (put σ (.l k) (.lent i y))∧∀ t b,HoB E (put σ (.l k) (.lent i y)) t b→HoB E σ t b:=by
 have hG:∀ o,put σ (.l k) (.lent i y) (.g o)=σ (.g o):=fun o=>Qag _ _ (by simp)
 have hQ:∀ o,put σ (.l k) (.lent i y) (.q o)=σ (.q o):=fun o=>Qag _ _ (by simp)
 have hK:∀ o,put σ (.l k) (.lent i y) (.k o)=σ (.k o):=fun o=>Qag _ _ (by simp)
 have hO:∀ o,put σ (.l k) (.lent i y) (.o o)=σ (.o o):=fun o=>Qag _ _ (by simp)
 have hH:∀ o,put σ (.l k) (.lent i y) (.h o)=σ (.h o):=fun o=>Qag _ _ (by simp)
 have hR:∀ o,put σ (.l k) (.lent i y) (.r o)=σ (.r o):=fun o=>Qag _ _ (by simp)
 have hS:∀ o,put σ (.l k) (.lent i y) (.s o)=σ (.s o):=fun o=>Qag _ _ (by simp)
 have hC:∀ o j,put σ (.l k) (.lent i y) (.c o j)=σ (.c o j):=fun o j=>Qag _ _ (by simp)
 have hmo:Mo E σ E (put σ (.l k) (.lent i y)):=Mo.same hG hQ hK hH
 refine ⟨⟨h.sz,h.df,h.ms,h.fr,fun u z hz=>(h.sl u z (by rw [←hS];exact hz)).mo hmo,fun o j z n h1 h2 h3=>?_,fun o n h1=>h.ob o n (by rw [←hO];exact h1),fun k e s T h1=>h.ro k e s T (by rw [←hK];exact h1),
  fun o o' n n' h1 h2=>h.oo o o' n n' (by rw [←hO];exact h1) (by rw [←hO];exact h2),fun k k' e s T e' s' T' b h1 h2=>h.rr k k' e s T e' s' T' b (by rw [←hK];exact h1) (by rw [←hK];exact h2),
  fun o n k e s T h1 h2=>h.or o n k e s T (by rw [←hO];exact h1) (by rw [←hK];exact h2),h.pi,h.ml,h.mx,?_⟩,hmo,fun t b hb=>?_⟩
 ·rw [hC] at h1
  rw [hO] at h2
  obtain ⟨v,hv,hr⟩:=h.ce o j z n h1 h2 h3
  exact ⟨v,hv,hr.mo hmo⟩
 ·have ht:=h.tr
  refine ⟨fun k' y h1=>ht.hg k' y (by rw [←hR];exact h1),fun k' y b h1 h2=>ht.dd k' y b (by rw [←hR];exact h1) h2,fun k' ys h1=>ht.bx k' ys (by rw [←hR];exact h1),fun k1 k2 x1 x2 b h1 h2 h3 h4=>ht.tt k1 k2 x1 x2 b (by rw [←hR];exact h1) (by rw [←hR];exact h2) h3 h4,
   fun o n k' y h1 h2 h3=>ht.ot o n k' y (by rw [←hO];exact h1) (by rw [←hR];exact h2) h3,fun k1 e s T k' y b h1 h2 h3 h4=>ht.tk k1 e s T k' y b (by rw [←hK];exact h1) (by rw [←hR];exact h2) h3 h4,fun k' z j u h1 h2=>?_,
   fun o k' g s h1=>by
    obtain ⟨mb,n,bs,l,h3,h4,h5,h6⟩:=ht.it o k' g s (by rw [←hO];exact h1)
    exact ⟨mb,n,bs,l,h3,h4,Nat.le_trans h5 (hmo.g k').1,fun he y hy=>h6 (by have:=Qaz (hG k');omega) y (by rw [←hR];exact hy)⟩,
   fun o o' k1 g s k2 g' s' h1 h2 h3=>ht.ii o o' k1 g s k2 g' s' (by rw [←hO];exact h1) (by rw [←hO];exact h2) h3⟩
  by_cases e:k'=k
  ·subst e
   rw [QaZ] at h2
   cases h2
   obtain ⟨v,h3,h4⟩:=hy
   exact ⟨v,h3,h4.mo hmo⟩
  ·rw [Qag _ _ (by simp [e])] at h2
   obtain ⟨v,h3,h4⟩:=ht.le k' z j u (by rw [←hR];exact h1) h2
   exact ⟨v,h3,h4.mo hmo⟩
 ·cases t with
  | o i=>obtain ⟨n,h1,h2⟩:=hb;rw [hO] at h1;exact ⟨n,h1,h2⟩
  | k i=>obtain ⟨e,s,T,h1,h2⟩:=hb;rw [hK] at h1;exact ⟨e,s,T,h1,h2⟩
  | r i=>obtain ⟨z,h1,h2⟩:=hb;rw [hR] at h1;exact ⟨z,h1,h2⟩
theorem QyB (hg:Gm C E σ a w) (all:List Id) (bs:List Nat) (hall:∀ (ob:Nat) (o':Id) (b:Nat),all[ob]? = some o'→bs[ob]? = some b→E.loc o'=b) (k:Id) (hk:k.2≠0) (c:CA) (hkid:QDr c=true→k∉all) (v:Value) (F:List Nat) (hc:CAok E.m w bs c v F)
  (hb:∀ b∈F,(C.D b∨C.w0.heap.size≤b)∧¬Qbm E σ b) :
  ∃ E',Gm C E' (Qaf σ (QdB σ all k c)) a w∧Mo E σ E' (Qaf σ (QdB σ all k c))∧E'.m=E.m∧(∀ o',(QDr c=true→o'≠k)→E'.loc o'=E.loc o'∧gg (Qaf σ (QdB σ all k c)) o'=gg σ o') ∧
   (∀ b,Qbm E' (Qaf σ (QdB σ all k c)) b→Qbm E σ b∨b∈F)∧RdP E' (Qaf σ (QdB σ all k c)) (Qfz σ k c) v:=by
 have htree:∀ x,Hg E.m w [x] [v] F→(∀ y,x≠.av y)→∃ E',Gm C E' (Qaf σ (QaA σ k x)) a w∧Mo E σ E' (Qaf σ (QaA σ k x))∧E'.m=E.m∧(∀ o',o'≠k→E'.loc o'=E.loc o'∧gg (Qaf σ (QaA σ k x)) o'=gg σ o') ∧
   (∀ b,Qbm E' (Qaf σ (QaA σ k x)) b→Qbm E σ b∨b∈F)∧RdP E' (Qaf σ (QaA σ k x)) (QeV σ k x) v:=fun x h1 h2=>by
  obtain ⟨E',g1,g2,g3,g4,g5,g6⟩:=hg.gainTree k x v F h2 h1 hb hk
  exact ⟨E',g1,g2,g3,fun o' ho=>⟨g4 o' ho,Qaz (by simp [QaA,Qaf,put,ho])⟩,g5,g6⟩
 cases c with
 | val x=>
  obtain ⟨h1,rfl⟩:=hc
  exact ⟨E,hg,Mo.same (fun _=>rfl) (fun _=>rfl) (fun _=>rfl) (fun _=>rfl),rfl,fun _ _=>⟨rfl,rfl⟩,fun b h=>.inl h,h1⟩
 | own e sz es=>
  obtain ⟨⟨h1,xs,h2,h3⟩,rfl⟩:=hc
  obtain ⟨E',g1,g2,g3,g4,g5,g6⟩:=hg.gainRow k (gq σ k+1) (by omega) e sz es.length v xs h2 (fun b hb'=>⟨h3 b hb',hb b (by simpa using hb')⟩)
  exact ⟨E',g1,g2,g3,fun o' _=>⟨by rw [g4],Qaz (by simp [QdB,Qaf,put])⟩,fun b hL=>(g5 b hL).imp id fun h=>by simpa using h,g6 es rfl h1⟩
 | hd x=>
  obtain ⟨h1,h2⟩:=hc
  obtain ⟨E',g1,g2,g3,g4,g5,g6⟩:=htree x h1 h2
  exact ⟨E',g1,g2,g3,fun o' ho=>g4 o' (ho rfl),g5,g6⟩
 | hdl x i ob=>
  obtain ⟨⟨h1,h2⟩,b0,h3,h4⟩:=hc
  obtain ⟨E',g1,g2,g3,g4,g5,g6⟩:=htree x h1 h2
  have hkr:Qaf σ (QaA σ k x) (.r k)=.tree x:=by simp [QaA,Qaf,put]
  have hbv:E'.bv k=v∨∃ ys,x=.box ys:=by
   cases x with
   | box ys=>exact .inr ⟨ys,rfl⟩
   | av y=>exact absurd rfl (h2 y)
   | row e sz es=>exact .inl (g6.2 (by simp [gh,QaA,Qaf,put])).symm
   | rw e sz es=>exact .inl (g6.2 (by simp [gh,QaA,Qaf,put])).symm
   | mp kvs=>exact .inl (g6.2 (by simp [gh,QaA,Qaf,put])).symm
   | pm kvs=>exact .inl (g6.2 (by simp [gh,QaA,Qaf,put])).symm
   | bag ps=>exact .inl (g6.2 (by simp [gh,QaA,Qaf,put])).symm
  rcases hbv with hbv | ⟨ys,rfl⟩
  ·simp only [QdB,Qfz,Qvo]
   cases ho:all[ob]? with
   | none=>simp only [List.append_nil];exact ⟨E',g1,g2,g3,fun o' ho=>g4 o' (ho rfl),g5,g6⟩
   | some o'=>
    have hne:o'≠k:=fun e=>hkid rfl (e ▸ List.mem_of_getElem? ho)
    obtain ⟨q1,q2⟩:=g4 o' hne
    obtain ⟨l1,l2,l3⟩:=g1.lend k x hkr i (.ptr o' (gg σ o') 0) ⟨_,by rw [hbv];exact h4,by rw [←q2];exact ⟨Nat.le_refl _,fun _=>by rw [q1,hall ob o' b0 ho h3]⟩⟩
    have e0:Qaf σ (QaA σ k x++[(Pl.l k,X.lent i (AV.ptr o' (gg σ o') 0))])=put (Qaf σ (QaA σ k x)) (.l k) (.lent i (.ptr o' (gg σ o') 0)):=by rw [Qal];rfl
    rw [e0]
    refine ⟨E',l1,g2.trans l2,g3,fun o2 ho2=>⟨(g4 o2 (ho2 rfl)).1,?_⟩,fun b ⟨t,ht⟩=>g5 b ⟨t,l3 t b ht⟩,g6.mo l2⟩
    rw [←(g4 o2 (ho2 rfl)).2]
    exact Qaz (Qag _ _ (by simp))
  ·cases h1
   simp [QcB] at h4
def AllA (E:Env) (σ:St):List AV→List Value→Prop
 | [],[]=>True
 | x::xs,v::vs=>RdA E σ x v∧AllA E σ xs vs
 | _,_=>False
theorem AllA.mo {E E':Env} {σ σ':St} (hm:Mo E σ E' σ'):∀ {xs:List AV} {vs:List Value},AllA E σ xs vs→AllA E' σ' xs vs
 | [],[],_=>trivial
 | x::xs,v::vs,h=>⟨h.1.mo hm,AllA.mo hm h.2⟩
 | [],_::_,h=>h.elim
 | _::_,[],h=>h.elim
theorem AllA.get {E:Env} {σ:St}:∀ {xs:List AV} {vs:List Value},AllA E σ xs vs→vs.length=xs.length∧∀ (i:Nat) (h1:i<xs.length) (h2:i<vs.length),RdA E σ xs[i] vs[i]
 | [],[],_=>⟨rfl,fun i h=>by simp at h⟩
 | x::xs,v::vs,h=>⟨by simp [(AllA.get h.2).1],fun i h1 h2=>by
  cases i with
  | zero=>exact h.1
  | succ i=>exact (AllA.get h.2).2 i (by simpa using h1) (by simpa using h2)⟩
 | [],_::_,h=>h.elim
 | _::_,[],h=>h.elim
theorem QgX (all:List Id) (o:Id):∀ (cs:List CA) (σ:St) (j:Nat),(Qcl σ all o j cs).2.length=cs.length
 | [],_,_=>rfl
 | c::cs,σ,j=>by simp [Qcl,QgX all o cs]
theorem QnW (all:List Id) (bs:List Nat) (o:Id):∀ (cs:List CA) (vs:List Value) (F:List Nat) (j:Nat) (E:Env) (σ:St),Gm C E σ a w→ArgsOk E.m w bs (cs.map .ca) vs F→(∀ (ob:Nat) (o':Id) (b:Nat),all[ob]? = some o'→bs[ob]? = some b→E.loc o'=b) →
  (∀ k∈QbE o j cs,k∉all)→(∀ b∈F,(C.D b∨C.w0.heap.size≤b)∧¬Qbm E σ b) →
  ∃ E',Gm C E' (Qaf σ (Qcl σ all o j cs).1) a w∧Mo E σ E' (Qaf σ (Qcl σ all o j cs).1)∧E'.m=E.m∧(∀ o',o'∉QbE o j cs→E'.loc o'=E.loc o'∧gg (Qaf σ (Qcl σ all o j cs).1) o'=gg σ o') ∧
   (∀ b,Qbm E' (Qaf σ (Qcl σ all o j cs).1) b→Qbm E σ b∨b∈F)∧AllA E' (Qaf σ (Qcl σ all o j cs).1) (Qcl σ all o j cs).2 vs
 | [],vs,F,j,E,σ,hg,hA,_,_,_=>by
  cases hA
  exact ⟨E,hg,Mo.same (fun _=>rfl) (fun _=>rfl) (fun _=>rfl) (fun _=>rfl),rfl,fun _ _=>⟨rfl,rfl⟩,fun b h=>.inl h,trivial⟩
 | c::cs,vs,F,j,E,σ,hg,hA,hall,hkid,hb=>by
  rw [List.map_cons] at hA
  cases hA with
  | @cons _ v F1 _ vs' F2 h hs hd=>
   have hk1:QDr c=true→kid o j∈QbE o j (c::cs):=fun h=>by simp [QbE,h]
   have hk2:∀ k,k∈QbE o (j+1) cs→k∈QbE o j (c::cs):=fun k h=>by simp only [QbE];split <;> simp [h]
   obtain ⟨E1,g1,g2,g3,g4,g5,g6⟩:=QyB hg all bs hall (kid o j) (QnV o j) c (fun h=>hkid _ (hk1 h)) v F1 h (fun b h=>hb b (List.mem_append_left _ h))
   obtain ⟨E',f1,f2,f3,f4,f5,f6⟩:=QnW all bs o cs vs' F2 (j+1) E1 _ g1 (by rw [g3];exact hs) (fun ob o' b h1 h2=>by
     rw [(g4 o' (fun hh e=>hkid _ (hk1 hh) (e ▸ List.mem_of_getElem? h1))).1];exact hall ob o' b h1 h2) (fun k hk=>hkid k (hk2 k hk))
    (fun b h=>⟨(hb b (List.mem_append_right _ h)).1,fun hL=>by
     rcases g5 b hL with h1 | h1
     ·exact (hb b (List.mem_append_right _ h)).2 h1
     ·exact hd b h1 h⟩)
   have e0:Qaf σ (Qcl σ all o j (c::cs)).1=Qaf (Qaf σ (QdB σ all (kid o j) c)) (Qcl (Qaf σ (QdB σ all (kid o j) c)) all o (j+1) cs).1:=by simp only [Qcl,Qal]
   rw [e0]
   refine ⟨E',f1,g2.trans f2,f3.trans g3,fun o' ho=>?_,fun b hL=>?_,(g6.toA).mo f2,f6⟩
   ·have h1:=f4 o' (fun h=>ho (hk2 _ h))
    have h2:=g4 o' (fun hh e=>ho (e ▸ hk1 hh))
    exact ⟨h1.1.trans h2.1,h1.2.trans h2.2⟩
   ·rcases f5 b hL with h1 | h1
    ·exact (g5 b h1).imp id fun h=>List.mem_append_left _ h
    ·exact .inr (List.mem_append_right _ h1)
theorem Qet (hg:Gm C E σ a w) (all:List Id) (bs:List Nat) (hall:∀ (ob:Nat) (o':Id) (b:Nat),all[ob]? = some o'→bs[ob]? = some b→E.loc o'=b) (o:Id) (G' b:Nat) (hgg:(G'=gg σ o∧E.loc o=b)∨(gg σ o<G'∧C.pins o=none∧o.2=0)) (ty:TypeId) (cs:List CA) (vs:List Value) (F:List Nat)
  (hkid:∀ k∈QbE o 0 cs,k∉all∧k≠o) (hblk:w.heap[b]? = some (.cells vs.toArray ty (0,0))) (hm0:∀ i,E.m b i=none) (hA:ArgsOk E.m w bs (cs.map .ca) vs F) (hn:b∉F) (hb:∀ i∈b::F,(C.D i∨C.w0.heap.size≤i)∧¬Qbm E σ i) :
  ∃ E',Gm C E' (Qaf σ (QaT σ all o G' cs)) a w∧Mo E σ E' (Qaf σ (QaT σ all o G' cs))∧E'.m=E.m∧(∀ o',o'∉QbE o 0 cs→o'≠o→E'.loc o'=E.loc o'∧gg (Qaf σ (QaT σ all o G' cs)) o'=gg σ o')∧E'.loc o=b∧gg (Qaf σ (QaT σ all o G' cs)) o=G' ∧
   (∀ b',Qbm E' (Qaf σ (QaT σ all o G' cs)) b'→Qbm E σ b'∨b'∈b::F)∧∀ off,RdA E' (Qaf σ (QaT σ all o G' cs)) (.ptr o G' off) (.pointer (some ⟨b,off,none⟩)):=by
 obtain ⟨E1,g1,g2,g3,g4,g5,g6⟩:=QnW all bs o cs vs F 0 E σ hg hA hall (fun k hk=>(hkid k hk).1) (fun i hi=>hb i (List.mem_cons_of_mem _ hi))
 have hlen:=QgX all o cs σ 0
 have e0:Qaf σ (QaT σ all o G' cs)=Qaf (Qaf σ (Qcl σ all o 0 cs).1) (Qu3 o G' (Qcl σ all o 0 cs).2.length (Qcl σ all o 0 cs).2):=by
  unfold QaT;rw [Qal,hlen]
 obtain ⟨hl6,hr6⟩:=g6.get
 have hno:o∉QbE o 0 cs:=fun h=>(hkid o h).2 rfl
 obtain ⟨q1,q2⟩:=g4 o hno
 obtain ⟨E',h1,h2,h3,h4,h5,h6⟩:=g1.gainObj o G' b (by rw [q2,q1];exact hgg) ty vs (Qcl σ all o 0 cs).2 hl6 hblk (fun i=>by rw [g3];exact hm0 i) (hb b (by simp)).1
  (fun hL=>by
   rcases g5 b hL with h | h
   ·exact (hb b (by simp)).2 h
   ·exact hn h) (fun i hi=>hr6 i hi (by omega))
 have hgo:∀ (s:St) (o':Id),gg (Qaf s (Qu3 o G' (Qcl σ all o 0 cs).2.length (Qcl σ all o 0 cs).2)) o'=if o'=o then G' else gg s o':=fun s o'=>by
  have e1:Qaf s (Qu3 o G' (Qcl σ all o 0 cs).2.length (Qcl σ all o 0 cs).2) (.g o')=if o'=o then .num G' else s (.g o'):=by
   show Qaf (put (put s (.g o) (.num G')) (.o o) _) (QaU o 0 _) (.g o')=_
   rw [Qaw _ _ _ _ _ (by simp),Qag _ _ (by simp)]
   by_cases e:o'=o
   ·subst e;simp [put]
   ·simp [put,e]
  by_cases e:o'=o
  ·rw [if_pos e] at e1 ⊢;exact QdO e1
  ·rw [if_neg e] at e1 ⊢;exact Qaz e1
 rw [e0]
 refine ⟨E',h1,g2.trans h2,h3.trans g3,fun o' ho hne=>⟨by rw [h4 o' hne,(g4 o' ho).1],by rw [hgo,if_neg hne,(g4 o' ho).2]⟩,?_,by rw [hgo,if_pos rfl],fun b' hb'=>?_,h6⟩
 ·have:=(h6 0).2 (by rw [hgo,if_pos rfl])
  injection this with this;injection this with this;injection this with this
  exact this.symm
 ·rcases h5 b' hb' with h | h
  ·exact (g5 b' h).imp id fun h=>List.mem_cons_of_mem _ h
  ·exact .inr (by rw [h];exact List.mem_cons_self ..)
theorem Qj5 (all:List Id) (bs:List Nat):∀ (ids:List Id) (objs:List (List CA)) (bs' G:List Nat) (E:Env) (σ:St),Gm C E σ a w→ObjsOk E.m w bs bs' objs G→ids.length=objs.length→ids.Nodup→(∀ o∈ids,o∈all) →
  (∀ (ob:Nat) (o':Id) (b:Nat),all[ob]? = some o'→bs[ob]? = some b→E.loc o'=b)→(∀ (i:Nat) (o:Id) (b:Nat),ids[i]? = some o→bs'[i]? = some b→E.loc o=b)→(∀ k∈Qcv ids objs,k∉all) →
  (∀ b∈G,(C.D b∨C.w0.heap.size≤b)∧¬Qbm E σ b) →
  ∃ E',Gm C E' (Qaf σ (QcH all σ ids objs)) a w∧Mo E σ E' (Qaf σ (QcH all σ ids objs))∧E'.m=E.m∧(∀ o'∈all,E'.loc o'=E.loc o'∧gg (Qaf σ (QcH all σ ids objs)) o'=gg σ o') ∧
   (∀ b',Qbm E' (Qaf σ (QcH all σ ids objs)) b'→Qbm E σ b'∨b'∈G)
 | [],objs,bs',G,E,σ,hg,hO,hl,_,_,_,_,_,_=>by
  have:objs=[]:=List.eq_nil_of_length_eq_zero hl.symm
  subst this
  cases hO
  exact ⟨E,by simpa [QcH,Qaf] using hg,Mo.same (fun _=>rfl) (fun _=>rfl) (fun _=>rfl) (fun _=>rfl),rfl,fun _ _=>⟨rfl,rfl⟩,fun b h=>.inl h⟩
 | o::ids,objs,bs',G,E,σ,hg,hO,hl,hn,hin,hall,hloc,hkid,hb=>by
  cases hO with
  | nil=>simp at hl
  | @cons b cs vs ty F bs1 objs F' hblk hm0 hA hnb hs hd=>
   have hbo:E.loc o=b:=hloc 0 o b rfl rfl
   have hoa:o∈all:=hin o (by simp)
   have hk0:∀ k∈QbE o 0 cs,k∉all∧k≠o:=fun k hk=>by
    have:=hkid k (by simp [Qcv,hk])
    exact ⟨this,fun e=>this (e ▸ hoa)⟩
   obtain ⟨E1,g1,g2,g3,g4,g5,g6,g7,g8⟩:=Qet hg all bs hall o (gg σ o) b (.inl ⟨rfl,hbo⟩) ty cs vs F hk0 hblk hm0 hA hnb (fun i hi=>hb i (List.mem_append_left _ hi))
   have hsame:∀ o'∈all,E1.loc o'=E.loc o'∧gg (Qaf σ (QaT σ all o (gg σ o) cs)) o'=gg σ o':=fun o' ho'=>by
    by_cases e:o'=o
    ·subst e;exact ⟨by rw [g5,hbo],g6⟩
    ·exact g4 o' (fun h=>(hk0 o' h).1 ho') e
   obtain ⟨E',f1,f2,f3,f4,f5⟩:=Qj5 all bs ids objs bs1 F' E1 _ g1 (by rw [g3];exact hs) (by simpa using hl) (List.nodup_cons.1 hn).2 (fun o' h=>hin o' (List.mem_cons_of_mem _ h))
    (fun ob o' b' h1 h2=>by rw [(hsame o' (List.mem_of_getElem? h1)).1];exact hall ob o' b' h1 h2)
    (fun i o' b' h1 h2=>by rw [(hsame o' (hin o' (List.mem_cons_of_mem _ (List.mem_of_getElem? h1)))).1];exact hloc (i+1) o' b' (by simpa using h1) (by simpa using h2))
    (fun k hk=>hkid k (by simp [Qcv,hk]))
    (fun i hi=>⟨(hb i (List.mem_append_right _ hi)).1,fun hL=>by
     rcases g7 i hL with h | h
     ·exact (hb i (List.mem_append_right _ hi)).2 h
     ·exact hd i h hi⟩)
   have e0:Qaf σ (QcH all σ (o::ids) (cs::objs))=Qaf (Qaf σ (QaT σ all o (gg σ o) cs)) (QcH all (Qaf σ (QaT σ all o (gg σ o) cs)) ids objs):=by simp only [QcH,Qal]
   rw [e0]
   refine ⟨E',f1,g2.trans f2,f3.trans g3,fun o' ho'=>⟨(f4 o' ho').1.trans (hsame o' ho').1,(f4 o' ho').2.trans (hsame o' ho').2⟩,fun b' hL=>?_⟩
   rcases f5 b' hL with h | h
   ·rcases g7 b' h with h | h
    ·exact .inl h
    ·exact .inr (List.mem_append_left _ h)
   ·exact .inr (List.mem_append_right _ h)
theorem QBq (hg:Gm C E σ a w) (bs:List Nat) {k:Id} {g:Nat} {e:TypeId} {sz:Nat} {es:List (List V)} {v:Value} (h:RdA E σ (.own k g e sz es) v) (hq:gq σ k=g) (hk:σ (.k k)=.row e sz es.length):CAok E.m w bs (.own e sz es) v v.ownBlock.toList∧∀ b∈v.ownBlock.toList,HoB E σ (.k k) b:=by
 obtain ⟨h1,h2⟩:=h
 obtain ⟨_,_,h3⟩:=(h2.2 hq.symm e sz es.length hk).2 rfl
 obtain ⟨h4,h5⟩:=hg.ro k e sz es.length hk
 subst h3
 exact ⟨⟨⟨h1,E.rx k,h4,fun b hb=>(h5 b hb).1⟩,rfl⟩,fun b hb=>⟨e,sz,es.length,hk,by simpa using hb⟩⟩
theorem QyC (e:TypeId) (sz:Nat) (bs:List Nat) {m:Mem} {v:Value} (h:Rd m (.sc (.slice none 0 0)) v):CAok m w bs (.own e sz []) v []:=by
 have:=Rd.sc_eq h
 subst this
 exact ⟨⟨Rd.nil0 sz,[],World.ownsRow_nil _ _ _ _,fun b hb=>by cases hb⟩,rfl⟩
theorem QnX (hg:Gm C E σ a w) {ids:List Id} {xs:List AV} {args:List Arg} {ts:List Ho} (h:MArgs σ ids xs args ts):∀ (vs:List Value),AllA E σ xs vs→ts.Nodup→∃ F,ArgsOk E.m w (ids.map E.loc) args vs F∧∀ b∈F,∃ t∈ts,HoB E σ t b:=by
 have skip:∀ {a:Arg} {v:Value} {as':List Arg} {vs:List Value} {ts:List Ho},Qrw E.m w (ids.map E.loc) a v []→(∃ F,ArgsOk E.m w (ids.map E.loc) as' vs F∧∀ b∈F,∃ t∈ts,HoB E σ t b)→∃ F,ArgsOk E.m w (ids.map E.loc) (a::as') (v::vs) F∧∀ b∈F,∃ t∈ts,HoB E σ t b:=by
  intro a v as' vs ts h1 ⟨F,h2,h3⟩
  exact ⟨[]++F,.cons h1 h2 (fun b h=>by cases h),h3⟩
 have take:∀ {a:Arg} {v:Value} {as':List Arg} {vs:List Value} {t:Ho} {ts:List Ho} {F0:List Nat},Qrw E.m w (ids.map E.loc) a v F0→(∀ b∈F0,HoB E σ t b)→t∉ts→(∃ F,ArgsOk E.m w (ids.map E.loc) as' vs F∧∀ b∈F,∃ t∈ts,HoB E σ t b) →
   ∃ F,ArgsOk E.m w (ids.map E.loc) (a::as') (v::vs) F∧∀ b∈F,∃ t'∈t::ts,HoB E σ t' b:=by
  intro a v as' vs t ts F0 h1 h0 hn ⟨F,h2,h3⟩
  refine ⟨F0++F,.cons h1 h2 (fun b hb hb'=>?_),fun b hb=>?_⟩
  ·obtain ⟨t',ht',hh⟩:=h3 b hb'
   have:=hg.ho_inj (h0 b hb) hh
   subst this
   exact hn ht'
  ·rcases List.mem_append.1 hb with hb | hb
   ·exact ⟨t,by simp,h0 b hb⟩
   ·obtain ⟨t',ht',hh⟩:=h3 b hb
    exact ⟨t',List.mem_cons_of_mem _ ht',hh⟩
 induction h with
 | nil=>
  intro vs hv _
  cases vs with
  | nil=>exact ⟨[],.nil,fun b h=>by cases h⟩
  | cons=>exact hv.elim
 | val hs _ ih=>
  intro vs hv hn
  match vs,hv with
  | v::vs,hv=>exact skip ⟨hs _ _ (Qc2 hv.1),rfl⟩ (ih vs hv.2 hn)
 | own hq hk _ ih=>
  intro vs hv hn
  match vs,hv with
  | v::vs,hv=>
   obtain ⟨o1,o2⟩:=QBq hg (ids.map E.loc) hv.1 hq hk
   exact take o1 o2 (List.nodup_cons.1 hn).1 (ih vs hv.2 (List.nodup_cons.1 hn).2)
 | @nown e sz _ _ _ _ ih=>
  intro vs hv hn
  match vs,hv with
  | v::vs,hv=>exact skip (QyC e sz (ids.map E.loc) hv.1) (ih vs hv.2 hn)
 | @ptr o g off i xs ys ts hi hgo _ ih=>
  intro vs hv hn
  match vs,hv with
  | v::vs,hv=>exact skip ⟨⟨E.loc o,by simp [hi],hv.1.2 hgo.symm⟩,rfl⟩ (ih vs hv.2 hn)
 | fn h _ ih=>
  intro vs hv hn
  match vs,hv with
  | v::vs,hv=>
   obtain ⟨us,h1,h2,h3⟩:=hv.1
   obtain ⟨h4,h5⟩:=Qrx (E:=E) rfl h h2 h3
   exact skip ⟨⟨us,h1,by omega,h5⟩,rfl⟩ (ih vs hv.2 hn)
 | fn0 _ ih=>
  intro vs hv hn
  match vs,hv with
  | v::vs,hv=>exact skip ⟨⟨[],Rd.sc_eq hv.1,rfl,fun i c y h=>by simp at h⟩,rfl⟩ (ih vs hv.2 hn)
 | @hd k g x xs ys ts hh hk _ ih=>
  intro vs hv hn
  match vs,hv with
  | v::vs,hv=>
   obtain ⟨h1,h2⟩:=hg.tr.hg k x hk
   have:=hv.1.2 hh.symm
   subst this
   exact take (F0:=E.bf k) ⟨h1,h2⟩ (fun b hb=>⟨x,hk,hb⟩) (List.nodup_cons.1 hn).1 (ih vs hv.2 (List.nodup_cons.1 hn).2)
 | @hdb k g us xs ys ts hh hk _ ih=>
  intro vs hv hn
  match vs,hv with
  | v::vs,hv=>
   obtain ⟨h1,h2⟩:=hg.tr.hg k _ hk
   have:=hv.1.2 hh.symm
   rw [←(hg.tr.bx k us hk).1] at this
   subst this
   exact take (F0:=E.bf k) ⟨h1,h2⟩ (fun b hb=>⟨_,hk,hb⟩) (List.nodup_cons.1 hn).1 (ih vs hv.2 (List.nodup_cons.1 hn).2)
 | @nhw e sz xs ys ts _ ih=>
  intro vs hv hn
  match vs,hv with
  | v::vs,hv=>
   have:=Rd.sc_eq hv.1
   subst this
   exact skip ⟨.rw (us:=[]) (F':=[]) (World.ownsRow_nil _ _ _ _) (fun r h=>by cases h) ⟨rfl,fun i h=>by simp at h⟩ (fun b h=>by cases h) .nil,fun y h=>by cases h⟩ (ih vs hv.2 hn)
 | @nhd e sz xs ys ts _ ih=>
  intro vs hv hn
  match vs,hv with
  | v::vs,hv=>
   have:=Rd.sc_eq hv.1
   subst this
   exact skip ⟨.row (us:=[]) (F:=[]) (F':=[]) (World.ownsRow_nil _ _ _ _) (fun r h=>by cases h) (fun b h=>by cases h) .nil .nil (fun i h=>by cases h),fun y h=>by cases h⟩ (ih vs hv.2 hn)
 | @hdl k g x i o g' ob xs ys ts hh hk hl hi hgo _ ih=>
  intro vs hv hn
  match vs,hv with
  | v::vs,hv=>
   obtain ⟨h1,h2⟩:=hg.tr.hg k x hk
   have:=hv.1.2 hh.symm
   subst this
   obtain ⟨u,hu,hr⟩:=hg.tr.le k x i _ hk hl
   have:=hr.2 hgo.symm
   subst this
   exact take (F0:=E.bf k) ⟨⟨h1,h2⟩,E.loc o,by simp [hi],hu⟩ (fun b hb=>⟨x,hk,hb⟩) (List.nodup_cons.1 hn).1 (ih vs hv.2 (List.nodup_cons.1 hn).2)
end
end Go.Proofs.YthfocmakkeonoaaGreatDoor
