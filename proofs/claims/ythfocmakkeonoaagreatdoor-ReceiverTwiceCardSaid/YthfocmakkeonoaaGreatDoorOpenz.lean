/- Rules by which a walk reckons. -/
import Derived.Test.YthfocmakkeonoaaGreatDoorRDz
import Derived.Test.YthfocmakkeonoaaGreatDoorKitz
import Derived.Deep.Slices
import Derived.Deep.Fields
import Derived.ChangeSame
import Derived.Lib.SmallJoins
set_option linter.unusedVariables false
set_option linter.unusedSimpArgs false
set_option maxRecDepth 100000
set_option maxHeartbeats 16000000
namespace Go.Proofs.YthfocmakkeonoaaGreatDoor
open Go.RowKit
section
variable {P:Program} {ops:Array Oper} {C:Ctx} {md:Bool} {K:St→List FP→Prop} {σ:St} {acc:List FP} {rest:List Oper}
def QBG (P:Program) (ops:Array Oper) (C:Ctx) (md:Bool) (K:St→List FP→Prop) (o:Oper) (rest:List Oper) (σ:St) (acc:List FP) (g:List Pl):Stp→Prop
 | some (c,L,W)=>c∧Qb7 P ops C md K rest (Qaf σ W) ((g++L,QcP W)::acc)
 | none=>Run P ops C md K (o::rest) σ acc
theorem QrW {o:Oper} {g:List Pl} {c:Prop} {L:List Pl} {W:List (Pl × X)}:QBG P ops C md K o rest σ acc g (some (c,L,W))=(c∧Qb7 P ops C md K rest (Qaf σ W) ((g++L,QcP W)::acc)):=rfl
theorem QrX {o:Oper} {g:List Pl}:QBG P ops C md K o rest σ acc g none=Run P ops C md K (o::rest) σ acc:=rfl
theorem QvL:Qb7 P ops C md K [] σ acc=K σ acc.reverse:=rfl
theorem QrY {d:Option Tmp} {op:Op} {ty:TypeId} {pos:String} {af:Array Edge}:Qb7 P ops C md K (⟨d,op,ty,pos,af,none⟩::rest) σ acc=QBG P ops C md K ⟨d,op,ty,pos,af,none⟩ rest σ acc [] (Qa8 P σ d op):=by
 conv=>lhs;unfold Qb7
 cases Qa8 P σ d op with
 | none=>rfl
 | some r=>rfl
def Qn4 (P:Program) (ops:Array Oper) (C:Ctx) (md:Bool) (K:St→List FP→Prop) (d:Tmp) (b:Bool) (g:Nat) (o:Oper) (rest:List Oper) (σ:St) (acc:List FP) (st:Stp):AV→Prop
 | .val (.sc (.bool b'))=>(b'=b→QBG P ops C md K o rest σ acc [.s g] st)∧(b' = !b→Qb7 P ops C md K rest (put σ (.s d) (.av (.val (.sc undef)))) (([.s g],[.s d])::acc))
 | .val (.sc (.tuple _))=>Qb7 P ops C md K rest (put σ (.s d) (.av (.val (.sc undef)))) (([.s g],[.s d])::acc)
 | _=>False
theorem QrZ {d:Tmp} {op:Op} {ty:TypeId} {pos:String} {af:Array Edge} {j:Nat} {b:Bool}:Qb7 P ops C md K (⟨some d,op,ty,pos,af,some (j,b)⟩::rest) σ acc=(((ops[j]?).bind (·.dst)).isSome=true∧Qn4 P ops C md K d b (QbG ops j) ⟨some d,op,ty,pos,af,some (j,b)⟩ rest σ acc (Qa8 P σ (some d) op) (match σ (.s (QbG ops j)) with | .av x=>x | _=>.val .any)):=by
 conv=>lhs;unfold Qb7
 cases hx:σ (.s (QbG ops j)) with
 | av x=>
  cases x with
  | val y=>
   cases y with
   | sc v=>
    cases v with
    | bool b'=>
     simp only [Qn4]
     cases hs:Qa8 P σ (some d) op <;> rfl
    | tuple vs=>simp only [Qn4]
    | _=>simp [Qn4]
   | _=>simp [Qn4]
  | _=>simp [Qn4]
 | _=>simp [Qn4]
theorem Qr0 {d:Tmp} {b:Bool} {g:Nat} {o:Oper} {st:Stp}:Qn4 P ops C md K d b g o rest σ acc st (.val (.sc (.bool b)))=QBG P ops C md K o rest σ acc [.s g] st:=by
 simp only [Qn4,forall_const]
 cases b <;> simp
theorem QyR {d:Tmp} {g:Nat} {o:Oper} {st:Stp}:Qn4 P ops C md K d true g o rest σ acc st (.val (.sc (.bool false)))=Qb7 P ops C md K rest (put σ (.s d) (.av (.val (.sc undef)))) (([.s g],[.s d])::acc):=by simp [Qn4]
theorem QyS {d:Tmp} {g:Nat} {o:Oper} {st:Stp}:Qn4 P ops C md K d false g o rest σ acc st (.val (.sc (.bool true)))=Qb7 P ops C md K rest (put σ (.s d) (.av (.val (.sc undef)))) (([.s g],[.s d])::acc):=by simp [Qn4]
theorem QpN {d:Tmp} {b:Bool} {g:Nat} {o:Oper} {st:Stp}:Qn4 P ops C md K d b g o rest σ acc st (.val (.sc undef))=Qb7 P ops C md K rest (put σ (.s d) (.av (.val (.sc undef)))) (([.s g],[.s d])::acc):=rfl
section
variable {d:Tmp} {x y c:Operand} {t t':TypeId}
theorem QpO:Qa8 P σ (some d) (.move x)=QhO σ d x:=rfl
theorem Qlt:Qa8 P σ (some d) (.assign x)=QhO σ d x:=rfl
theorem QpP:Qa8 P σ (some d) (.pick c x y)=Qk6 σ d c x y:=rfl
theorem Qr1 {op:BinOp}:Qa8 P σ (some d) (.binOp op t x y t')=Qa7 (Qrk σ d op x y) (Qk7 P σ d op t x y):=rfl
theorem QvM {op:UnOp}:Qa8 P σ (some d) (.unOp op t x)=QBg σ d op x:=rfl
theorem QpQ:Qa8 P σ (some d) (.convert t t' x)=Qk8 P σ d t t' x:=rfl
theorem Qr2 {i:Nat}:Qa8 P σ (some d) (.extract x i)=Qrm σ d x i:=rfl
theorem Qlu {i:Nat}:Qa8 P σ (some d) (.fieldAddr t x i)=Qa7 (Qfr P σ d t x i) (Qd4 P σ d t x i):=rfl
theorem QpR:Qa8 P σ (some d) (.load t x)=Qa7 (Qk9 P σ d t x) (Qa7 (Qia P σ d t x) (Qh5 P σ d t x)):=rfl
theorem Qr3:Qa8 P σ (some d) (.nilCheck x)=Qrt σ d x:=rfl
theorem QmL:Qa8 P σ none (.store t x y)=Qa7 (QhQ P σ t x y) (QfJ P σ t x y):=rfl
theorem QmM:Qa8 P σ (some d) (.alloc t)=QhR P σ d t:=rfl
theorem Qr4:Qa8 P σ (some d) (.box t x)=Qrp σ d x:=rfl
theorem QmN {ps:List (Nat × Operand)}:Qa8 P σ (some d) (.build t ps.toArray)=QhS P σ d t ps:=rfl
theorem Qlv {n:Nat} {ps:List (Nat × Operand)}:Qa8 P σ (some d) (.buildSlice t n ps.toArray)=Qa7 (QfQ P σ d t n ps) (Qfx P σ d t n ps):=rfl
theorem QmO:Qa8 P σ (some d) (.index t x y)=QhU P σ d t x y:=rfl
theorem Qlw:Qa8 P σ (some d) (.indexAddr t x y)=Qa7 (Qfy P σ d t x y) (Qa7 (Qd3 P σ d t x y) (Qa7 (Qd6 P σ d t x y) (QfR P σ d t x y))):=rfl
theorem QmP {lo hi mx:Option Operand}:Qa8 P σ (some d) (.slice t x lo hi mx)=Qa7 (QfO P σ d t x lo hi mx) (Qa7 (QhV P σ d t x lo hi mx) (Qa7 (QfK P σ d t x lo hi mx) (QfP P σ d t x lo hi mx))):=rfl
theorem Qr5:Qa8 P σ (some d) (.call { callee:=.builtin .len,args:=#[x],argTypes:=#[t] })=Qa7 (Qrv P σ d t x) (Qa7 (Qll P σ d t x) (Qlo P σ d t x)):=rfl
theorem Qr6:Qa8 P σ (some d) (.call { callee:=.builtin .max,args:=#[x,y],argTypes:=#[t,t'] })=Qvn σ d true x y:=rfl
theorem Qr7:Qa8 P σ (some d) (.call { callee:=.builtin .min,args:=#[x,y],argTypes:=#[t,t'] })=Qvn σ d false x y:=rfl
theorem Qlx:Qa8 P σ (some d) (.call { callee:=.builtin .append,args:=#[x,y],argTypes:=#[t,t'] })=Qa7 (Qa7 (Qea P σ d t t' x y) (Qd9 P σ d t t' x y)) (Qa7 (Qfu P σ d t t' x y) (Qa7 (Qd5 P σ d t t' x y) (Qa7 (Qd7 P σ d t t' x y) (Qeb P σ d t t' x y)))):=rfl
theorem QpS:Qa8 P σ (some d) (.call { callee:=.builtin .copy,args:=#[x,y],argTypes:=#[t,t'] })=Qa7 (Qh9 P σ d t t' x y) (Qa7 (Qh6 P σ d t t' x y) (Qh8 P σ d t t' x y)):=rfl
theorem Qr8:Qa8 P σ (some d) (.call { callee:=.builtin .cap,args:=#[x],argTypes:=#[t] })=QrL P σ d t x:=rfl
theorem Qly:Qa8 P σ none (.call { callee:=.builtin .clear,args:=#[x],argTypes:=#[t] })=QfN P σ t x:=rfl
theorem QmQ:Qa8 P σ (some d) (.call { callee:=.builtin .clear,args:=#[x],argTypes:=#[t] })=QfL P σ d t x:=rfl
theorem Qkh:Qa8 P σ (some d) (.makeMap t none)=QfH σ d:=rfl
theorem Qlz {k:Operand}:Qa8 P σ none (.insert t x k y)=QdC P σ t x k y:=rfl
theorem Qie {k:Operand}:Qa8 P σ none (.mapUpdate t x k y)=QdC P σ t x k y:=rfl
theorem QlA {ok:Bool}:Qa8 P σ (some d) (.lookup t x y ok)=QfI P σ d t x y ok:=rfl
theorem QmR:Qa8 P σ (some d) (.range t x)=Qh3 P σ d t x:=rfl
theorem QmS:Qa8 P σ (some d) (.entry x)=Qh4 σ d x:=rfl
theorem QpT {b:Bool}:Qa8 P σ (some d) (.next x b)=none:=rfl
theorem QpU {F:FuncId} {xs:List Operand}:Qa8 P σ (some d) (.makeFunc (.func F) #[] xs.toArray)=Qn0 σ d F xs:=rfl
theorem QpV {f:Operand} {xs:Array Operand} {ts:Array TypeId}:Qa8 P σ (some d) (.call { callee:=.value f,args:=xs,argTypes:=ts })=none:=rfl
end
theorem Qad (σ:St) (l:Pl) (x:X) (l':Pl):put σ l x l'=if l'=l then x else σ l':=rfl
theorem QvN:Qaf σ []=σ:=rfl
theorem Qr9 {p:Pl} {x:X} {W:List (Pl × X)}:Qaf σ ((p,x)::W)=Qaf (put σ p x) W:=rfl
def Qsa:X→Nat
 | .num n=>n
 | _=>0
theorem QBH {l:Pl} {x:X} {o:Id}:gg (put σ l x) o=if l=.g o then Qsa x else gg σ o:=by
 by_cases h:l=.g o
 ·rw [if_pos h];subst h;unfold gg;rw [QaZ];cases x <;> rfl
 ·rw [if_neg h];exact Qaz (Qag _ _ fun e=>h e.symm)
theorem QBI {l:Pl} {x:X} {o:Id}:gq (put σ l x) o=if l=.q o then Qsa x else gq σ o:=by
 by_cases h:l=.q o
 ·rw [if_pos h];subst h;unfold gq;rw [QaZ];cases x <;> rfl
 ·rw [if_neg h];exact Qda (Qag _ _ fun e=>h e.symm)
theorem QBJ {l:Pl} {x:X} {o:Id}:gh (put σ l x) o=if l=.h o then Qsa x else gh σ o:=by
 by_cases h:l=.h o
 ·rw [if_pos h];subst h;unfold gh;rw [QaZ];cases x <;> rfl
 ·rw [if_neg h];exact QaL (Qag _ _ fun e=>h e.symm)
theorem QyT {o:Id}:gh base o=0:=rfl
theorem QyU {o:Id}:gg base o=0:=rfl
theorem QyV {o:Id}:gq base o=0:=rfl
theorem QyW {l:Pl}:base l=.non:=rfl
theorem QyX {k:St→Prop} {Q:Exit→St→Prop}:Qib k Q .normal σ=k σ:=rfl
theorem QyY {k:St→Prop} {Q:Exit→St→Prop}:Qib k Q .ret σ=Q .ret σ:=rfl
theorem QyZ {k:St→Prop} {Q:Exit→St→Prop} {i:Nat}:Qib k Q (.exit i) σ=Q (.exit i) σ:=rfl
theorem QvO {i:Nat} {Q:Exit→St→Prop}:Qg1 i Q .normal σ=Q .normal σ:=rfl
theorem QvP {i:Nat} {Q:Exit→St→Prop}:Qg1 i Q .ret σ=Q .ret σ:=rfl
theorem QvQ {i j:Nat} {Q:Exit→St→Prop}:Qg1 i Q (.exit j) σ=if j=i then Q .normal σ else Q (.exit j) σ:=rfl
end
mutual
def QdQ:V→V→Prop
 | .agg xs,.agg ys=>Qjb xs ys
 | .tup xs,.tup ys=>Qjb xs ys
 | .sc (.slice none 0 0),.lst _ es=>es=[]
 | .sc u,.sc v=>u=v
 | .lst s es,.lst s' es'=>s'=s∧es'=es
 | .ifc t x,.ifc t' y=>t'=t∧QdQ x y
 | _,.any=>True
 | x,y=>x=y
def Qjb:List V→List V→Prop
 | [],[]=>True
 | x::xs,y::ys=>QdQ x y∧Qjb xs ys
 | _,_=>False
end
mutual
theorem Qec:∀ (x y:V),QdQ x y→Sub x y
 | .agg xs,y,h=>by
  cases y with
  | agg ys=>exact Sub.agg' (Qki xs ys (by simpa [QdQ] using h))
  | any=>exact Sub.any _
  | _=>simp [QdQ] at h
 | .tup xs,y,h=>by
  cases y with
  | tup ys=>exact Sub.tup' (Qki xs ys (by simpa [QdQ] using h))
  | any=>exact Sub.any _
  | _=>simp [QdQ] at h
 | .ifc t x,y,h=>by
  cases y with
  | ifc t' y'=>
   have h:t'=t∧QdQ x y':=by simpa [QdQ] using h
   obtain ⟨rfl,h2⟩:=h
   have h3:=Qec x y' h2
   intro m v hr
   cases hr with
   | ifc _ _ u hu=>exact Rd.ifc _ _ _ (h3 _ _ hu)
  | any=>exact Sub.any _
  | _=>simp [QdQ] at h
 | .sc u,y,h=>by
  cases y with
  | sc v=>
    have h:u=v:=by simpa [QdQ] using h
    subst h;exact Sub.rfl _
  | any=>exact Sub.any _
  | lst sz es=>
   unfold QdQ at h
   split at h
   all_goals (first | (subst h;rename_i he _;cases he;exact Sub.nil sz) | (rename_i he _;simp_all) | simp_all)
   exact Sub.nil _
  | _=>simp [QdQ] at h
 | .lst s es,y,h=>by
  cases y with
  | lst s' es'=>
     have h:s'=s∧es'=es:=by simpa [QdQ] using h
     obtain ⟨rfl,rfl⟩:=h;exact Sub.rfl _
  | any=>exact Sub.any _
  | _=>simp [QdQ] at h
 | .ep xs,y,h=>by
  cases y with
  | any=>exact Sub.any _
  | _=>first | (simp [QdQ] at h;done) | (have h:=h;simp [QdQ] at h;subst h;exact Sub.rfl _)
 | .any,y,h=>by
  cases y with
  | any=>exact Sub.any _
  | _=>simp [QdQ] at h
theorem Qki:∀ (xs ys:List V),Qjb xs ys→Subs xs ys
 | [],[],_=>trivial
 | x::xs,y::ys,h=>by
  simp only [Qjb] at h
  exact ⟨Qec x y h.1,Qki xs ys h.2⟩
 | [],y::ys,h=>by simp [Qjb] at h
 | x::xs,[],h=>by simp [Qjb] at h
end
def QFq (σ:St) (ids:List Id):AV→FC→Prop
 | .ptr o g off,.ptr i off'=>ids[i]? = some o∧gg σ o=g∧off'=off
 | .val x,.val y=>QdQ x y
 | _,_=>False
def QvR (σ:St) (ids:List Id):List AV→List FC→Prop
 | [],[]=>True
 | x::xs,c::cs=>QFq σ ids x c∧QvR σ ids xs cs
 | _,_=>False
theorem Qn5 {σ:St} {ids:List Id}:∀ {xs:List AV} {cs:List FC},QvR σ ids xs cs→QA0 σ ids xs cs
 | [],[],_=>trivial
 | x::xs,c::cs,h=>by
  refine ⟨?_,Qn5 h.2⟩
  have h1:=h.1
  cases x <;> cases c <;> first | exact Qec _ _ h1 | exact h1 | exact h1.elim
 | [],_::_,h=>h.elim
 | _::_,[],h=>h.elim
def QDu (σ:St) (e':TypeId) (sz':Nat) (es':List (List V)):AV→Prop
 | .own k g e sz es=>gq σ k=g∧σ (.k k)=.row e sz es.length∧e'=e∧sz'=sz∧es'=es
 | .val (.sc (.slice none 0 0))=>es'=[]
 | _=>False
def Qsb:T→Prop
 | .row _ _ es=>es=[]
 | .rw _ _ es=>es=[]
 | _=>False
def mHd (σ:St) (t:T):AV→Prop
 | .ref k g=>gh σ k=g∧σ (.r k)=.tree t
 | .ptr k g 0=>gg σ k=g∧(∃ us,t=.box us)∧σ (.r k)=.tree t
 | .val (.sc (.slice none 0 0))=>Qsb t
 | _=>False
def Qy0 (σ:St) (ids:List Id) (i ob:Nat):X→Prop
 | .lent i' (.ptr o g 0)=>i'=i∧ids[ob]? = some o∧gg σ o=g
 | _=>False
def QDQ (σ:St) (ids:List Id) (t:T) (i ob:Nat):AV→Prop
 | .ref k g=>gh σ k=g∧σ (.r k)=.tree t∧Qy0 σ ids i ob (σ (.l k))
 | _=>False
def QDR (σ:St) (ids:List Id) (i off':Nat):AV→Prop
 | .ptr o g off=>ids[i]? = some o∧gg σ o=g∧off'=off
 | _=>False
def mFn (σ:St) (ids:List Id) (K':FuncId) (cs:List FC):AV→Prop
 | .fn K zs=>K'=K∧QvR σ ids zs cs
 | .val x=>x=.sc (.func (.func K') #[] #[])∧cs=[]
 | _=>False
def QFr (σ:St) (ids:List Id) (x:AV):Arg→Prop
 | .ca (.val y)=>QdQ (plain x) y
 | .ca (.own e sz es)=>QDu σ e sz es x
 | .ca (.hd t)=>mHd σ t x
 | .ca (.hdl t i ob)=>QDQ σ ids t i ob x
 | .ptr i off=>QDR σ ids i off x
 | .fn K cs=>mFn σ ids K cs x
def Qif (σ:St) (ids:List Id):List AV→List Arg→Prop
 | [],[]=>True
 | x::xs,a::as'=>QFr σ ids x a∧Qif σ ids xs as'
 | _,_=>False
def Qsc:AV→Arg→List Ho
 | .own k _ _ _ _,.ca (.own _ _ _)=>[.k k]
 | .ref k _,.ca (.hd _)=>[.r k]
 | .ref k _,.ca (.hdl _ _ _)=>[.r k]
 | .ptr k _ _,.ca (.hd _)=>[.r k]
 | _,_=>[]
def QaI:List AV→List Arg→List Ho
 | x::xs,a::as'=>Qsc x a++QaI xs as'
 | _,_=>[]
theorem Qcg {σ:St} {ids:List Id}:∀ {xs:List AV} {args:List Arg},Qif σ ids xs args→MArgs σ ids xs args (QaI xs args)
 | [],[],_=>.nil
 | x::xs,a::as',h=>by
  obtain ⟨h1,h2⟩:=h
  have ih:=Qcg h2
  cases a with
  | ptr i off=>
   have h1:QDR σ ids i off x:=h1
   cases x with
   | ptr o g off'=>
    obtain ⟨e1,e2,rfl⟩:=h1
    exact .ptr e1 e2 ih
   | _=>exact h1.elim
  | fn K cs=>
   have h1:mFn σ ids K cs x:=h1
   cases x with
   | fn K' zs=>
    obtain ⟨rfl,h3⟩:=h1
    exact .fn (Qn5 h3) ih
   | val z=>
    obtain ⟨rfl,rfl⟩:=h1
    exact .fn0 ih
   | _=>exact h1.elim
  | ca c=>
   cases c with
   | val y=>
    have h1:QdQ (plain x) y:=h1
    have:Qsc x (.ca (.val y))=[]:=by cases x <;> rfl
    simp only [QaI,this,List.nil_append]
    exact .val (Qec _ _ h1) ih
   | own e sz es=>
    have h1:QDu σ e sz es x:=h1
    cases x with
    | own k g e' sz' es'=>
     obtain ⟨e1,e2,rfl,rfl,rfl⟩:=h1
     exact .own e1 e2 ih
    | val z=>
     unfold QDu at h1
     split at h1
     ·rename_i h3;cases h3
     ·rename_i h3;cases h3;subst h1;exact .nown ih
     ·exact h1.elim
    | _=>exact h1.elim
   | hd t=>
    have h1:mHd σ t x:=h1
    cases x with
    | ref k g=>exact .hd h1.1 h1.2 ih
    | ptr k g off=>
     unfold mHd at h1
     split at h1
     ·rename_i h3;cases h3
     ·rename_i h3;cases h3
      obtain ⟨h4,⟨us,rfl⟩,h5⟩:=h1
      exact .hdb h4 h5 ih
     ·rename_i h3;cases h3
     ·exact h1.elim
    | val z=>
     unfold mHd at h1
     split at h1
     ·rename_i h3;cases h3
     ·rename_i h3;cases h3
     ·rename_i h3;cases h3
      cases t with
      | row e sz es=>have h1:es=[]:=h1;subst h1;exact .nhd ih
      | rw e sz es=>have h1:es=[]:=h1;subst h1;exact .nhw ih
      | _=>exact h1.elim
     ·exact h1.elim
    | _=>exact h1.elim
   | hdl t i ob=>
    have h1:QDQ σ ids t i ob x:=h1
    cases x with
    | ref k g=>
     obtain ⟨h3,h4,h5⟩:=h1
     unfold Qy0 at h5
     split at h5
     ·rename_i h6
      obtain ⟨rfl,h7,h8⟩:=h5
      exact .hdl h3 h4 h6 h7 h8 ih
     ·exact h5.elim
    | _=>exact h1.elim
 | [],_::_,h=>h.elim
 | _::_,[],h=>h.elim
def Qdq (σ:St) (all:List Id):List Id→List (List CA)→Prop
 | [],[]=>True
 | o::ids,cs::objs=>σ (.o o)=.num cs.length∧Qif σ all (Qb6 σ o 0 cs.length) (cs.map .ca)∧Qdq σ all ids objs
 | _,_=>False
def Qam (σ:St):List Id→List (List CA)→List Ho
 | o::ids,cs::objs=>.o o::(QaI (Qb6 σ o 0 cs.length) (cs.map .ca)++Qam σ ids objs)
 | _,_=>[]
theorem Qch {σ:St} {all:List Id}:∀ {ids:List Id} {objs:List (List CA)},Qdq σ all ids objs→MObjs σ all ids objs (Qam σ ids objs)
 | [],[],_=>.nil
 | o::ids,cs::objs,h=>.cons h.1 (Qcg h.2.1) (Qch h.2.2)
 | [],_::_,h=>h.elim
 | _::_,[],h=>h.elim
def Qg3 (d:Tmp) (ids:List Id) (objs':List (List CA)):Bool:=
 decide (ids.Nodup) && ((Qa6 d (objs'.drop ids.length)).all fun k=>!ids.contains k) && ((Qle d (objs'.drop ids.length)).all fun k=>!ids.contains k) && ((Qcv ids objs').all fun k=>!(ids++Qa6 d (objs'.drop ids.length)).contains k)
theorem QcT {d:Tmp} {ids:List Id} {objs':List (List CA)} (h:Qg3 d ids objs'=true):Qd2 d ids objs':=by
 unfold Qg3 at h
 simp only [Bool.and_eq_true,List.all_eq_true,decide_eq_true_eq,Bool.not_eq_true',List.contains_eq_mem,decide_eq_false_iff_not] at h
 exact ⟨h.1.1.1,h.1.1.2,h.1.2,h.2⟩
def QxJ (a b:Nat):Bool:=b == a || b == a+1
theorem Qfc {a b:Nat} (h:QxJ a b=true):b=a∨b=a+1:=by
 unfold QxJ at h
 simpa using h
section
variable {P:Program} {ops:Array Oper} {C:Ctx} {md:Bool} {σ:St} {K:St→List FP→Prop} {acc:List FP} {rest:List Oper}
theorem Qac {d:Tmp} {F:FuncId} (hK:∀ args w,(callFunc F args).run P w=.ok (.enter F args) w) {xs:List Operand} {tys:Array TypeId} {args:List Arg} {objs objs':List (List CA)} {res:Arg} {ty:TypeId} {pos:String} {af:Array Edge}
  (hspec:Qan P F args objs res objs') (ids:List Id)
  (k:Qif σ ids (xs.map (ev σ)) args∧Qdq σ ids ids objs∧(QaI (xs.map (ev σ)) args++Qam σ ids objs).Nodup ∧
   Qb7 P ops C md K rest (Qaf σ (QbY σ d ids (QaI (xs.map (ev σ)) args++Qam σ ids objs) objs' res)) ((QeN d xs ids (QaI (xs.map (ev σ)) args++Qam σ ids objs) objs objs',QcP (QbY σ d ids (QaI (xs.map (ev σ)) args++Qam σ ids objs) objs' res))::acc))
  (hn:Qg3 d ids objs'=true:=by kernel_rfl) (hl:QxJ objs.length objs'.length=true:=by kernel_rfl) :
  Run P ops C md K (⟨some d,.call { callee:=.value (.func F),args:=xs.toArray,argTypes:=tys },ty,pos,af,none⟩::rest) σ acc:=
 Qn3 hK hspec ids (Qcg k.1) (Qch k.2.1) ⟨k.2.2.1,QcT hn,Qfc hl⟩ k.2.2.2
theorem Qbt {j:Nat} {b:Bool} {d:Tmp} {F:FuncId} (hK:∀ args w,(callFunc F args).run P w=.ok (.enter F args) w) {xs:List Operand} {tys:Array TypeId} {args:List Arg} {objs objs':List (List CA)} {res:Arg} {ty:TypeId} {pos:String} {af:Array Edge}
  (hspec:Qan P F args objs res objs') (ids:List Id)
  (k:((ops[j]?).bind (·.dst)).isSome=true∧σ (.s (QbG ops j))=.av (.val (.sc (.bool b)))∧Qif σ ids (xs.map (ev σ)) args∧Qdq σ ids ids objs∧(QaI (xs.map (ev σ)) args++Qam σ ids objs).Nodup ∧
   Qb7 P ops C md K rest (Qaf σ (QbY σ d ids (QaI (xs.map (ev σ)) args++Qam σ ids objs) objs' res)) ((.s (QbG ops j)::QeN d xs ids (QaI (xs.map (ev σ)) args++Qam σ ids objs) objs objs',QcP (QbY σ d ids (QaI (xs.map (ev σ)) args++Qam σ ids objs) objs' res))::acc))
  (hn:Qg3 d ids objs'=true:=by kernel_rfl) (hl:QxJ objs.length objs'.length=true:=by kernel_rfl) :
  Run P ops C md K (⟨some d,.call { callee:=.value (.func F),args:=xs.toArray,argTypes:=tys },ty,pos,af,some (j,b)⟩::rest) σ acc:=
 Qlq hK hspec k.1 k.2.1 ids (Qcg k.2.2.1) (Qch k.2.2.2.1) ⟨k.2.2.2.2.1,QcT hn,Qfc hl⟩ k.2.2.2.2.2
def QA2 (F:FuncId) (zs:List AV):AV→Prop
 | .fn F' zs'=>F'=F∧zs'=zs
 | .val x=>x=.sc (.func (.func F) #[] #[])∧zs=[]
 | _=>False
theorem Qsd {F:FuncId} {zs:List AV} {x:AV} (h:QA2 F zs x):x=.fn F zs∨(x=.val (.sc (.func (.func F) #[] #[]))∧zs=[]):=by
 unfold QA2 at h
 split at h
 ·obtain ⟨rfl,rfl⟩:=h;exact .inl rfl
 ·obtain ⟨rfl,rfl⟩:=h;exact .inr ⟨rfl,rfl⟩
 ·exact h.elim
theorem Qgy {d:Tmp} {F:FuncId} (hK:∀ args w,(callFunc F args).run P w=.ok (.enter F args) w) {xs:List Operand} {tys:Array TypeId} {args:List Arg} {objs objs':List (List CA)} {res:Arg} {ty:TypeId} {pos:String} {af:Array Edge}
  (hspec:Qan P F args objs res objs') (ids:List Id)
  {f:Operand} (zs:List AV) (k:QA2 F zs (ev σ f)∧Qif σ ids (xs.map (ev σ)++zs) args∧Qdq σ ids ids objs∧(QaI (xs.map (ev σ)++zs) args++Qam σ ids objs).Nodup ∧
   Qb7 P ops C md K rest (Qaf σ (QbY σ d ids (QaI (xs.map (ev σ)++zs) args++Qam σ ids objs) objs' res)) ((rdl f++QeN d xs ids (QaI (xs.map (ev σ)++zs) args++Qam σ ids objs) objs objs',QcP (QbY σ d ids (QaI (xs.map (ev σ)++zs) args++Qam σ ids objs) objs' res))::acc))
  (hn:Qg3 d ids objs'=true:=by kernel_rfl) (hl:QxJ objs.length objs'.length=true:=by kernel_rfl) :
  Run P ops C md K (⟨some d,.call { callee:=.value f,args:=xs.toArray,argTypes:=tys },ty,pos,af,none⟩::rest) σ acc:=
 QrS hK (Qsd k.1) hspec ids (Qcg k.2.1) (Qch k.2.2.1) ⟨k.2.2.2.1,QcT hn,Qfc hl⟩ k.2.2.2.2
def QA3 (P:Program) (σ:St):ResultVar→Option (Prop × AV)
 | .tmp t=>some (True,ev σ (.tmp t))
 | .cell t ty=>match ev σ (.tmp t),Qao P ty with
  | .ptr o g 0,some { agg:=true,size:=s,.. }=>match σ (.o o) with
   | .num n=>some (gg σ o=g∧s≤n,.val (.agg (QeS σ o 0 s)))
   | _=>none
  | .ptr o g 0,some { agg:=false,.. }=>match σ (.o o) with
   | .num n=>some (gg σ o=g∧0<n,Qbj σ o 0)
   | _=>none
  | _,_=>none
theorem Qse {r:ResultVar} {c:Prop} {x:AV} (h:QA3 P σ r=some (c,x)) (hc:c):Qic P σ r x:=by
 cases r with
 | tmp t=>simp only [QA3,Option.some.injEq,Prod.mk.injEq] at h;rw [←h.2];exact .tmp t
 | cell t ty=>
  simp only [QA3] at h
  split at h
  ·rename_i o g _ s _ _ _ _ _ _ h1 h2
   split at h
   ·rename_i n h3
    simp only [Option.some.injEq,Prod.mk.injEq] at h
    obtain ⟨rfl,rfl⟩:=h
    exact .agg t ty o g n _ h1 hc.1 h3 h2 rfl hc.2
   ·cases h
  ·rename_i o g _ s _ _ _ _ _ _ h1 h2
   split at h
   ·rename_i n h3
    simp only [Option.some.injEq,Prod.mk.injEq] at h
    obtain ⟨rfl,rfl⟩:=h
    exact .one t ty o g n _ h1 hc.1 h3 h2 rfl hc.2
   ·cases h
  ·cases h
def QpW (P:Program) (σ:St):List ResultVar→Option (Prop × List AV)
 | []=>some (True,[])
 | r::rs=>match QA3 P σ r,QpW P σ rs with
  | some (c,x),some (c',xs)=>some (c∧c',x::xs)
  | _,_=>none
theorem Qkj:∀ {rs:List ResultVar} {c:Prop} {xs:List AV},QpW P σ rs=some (c,xs)→c→Qgx P σ rs xs
 | [],c,xs,h,_=>by simp only [QpW,Option.some.injEq,Prod.mk.injEq] at h;rw [←h.2];exact .nil
 | r::rs,c,xs,h,hc=>by
  simp only [QpW] at h
  split at h
  ·rename_i c1 x c2 xs' h1 h2
   simp only [Option.some.injEq,Prod.mk.injEq] at h
   obtain ⟨rfl,rfl⟩:=h
   exact .cons (Qse h1 hc.1) (Qkj h2 hc.2)
  ·cases h
def QmT (P:Program) (σ:St):List ResultVar→Option (Prop × AV)
 | [r]=>QA3 P σ r
 | rs=>match QpW P σ rs with
  | some (c,xs)=>some (c,.val (.tup (xs.map plain)))
  | none=>none
theorem QvS {rs:List ResultVar} {c:Prop} {x:AV} (h:QmT P σ rs=some (c,x)) (hc:c):QBF P σ rs x:=by
 match rs with
 | [r]=>exact .one (Qse h hc)
 | []=>
  simp only [QmT] at h
  split at h
  ·rename_i c' xs h1
   simp only [Option.some.injEq,Prod.mk.injEq] at h
   obtain ⟨rfl,rfl⟩:=h
   exact .many (Qkj h1 hc) (by simp)
  ·cases h
 | r::r'::rs=>
  simp only [QmT] at h
  split at h
  ·rename_i c' xs h1
   simp only [Option.some.injEq,Prod.mk.injEq] at h
   obtain ⟨rfl,rfl⟩:=h
   exact .many (Qkj h1 hc) (by simp)
  ·cases h
def QDS (σ:St) (n:Nat) (res:Arg) (objs':List (List CA)) (fresh:List Id):Option (Prop × AV)→Prop
 | some (c,x)=>c∧Qif σ (Qgn 0 n++fresh) [x] [res]∧Qdq σ (Qgn 0 n++fresh) (Qgn 0 n++fresh) objs'∧(QaI [x] [res]++Qam σ (Qgn 0 n++fresh) objs').Nodup
 | none=>False
theorem Qap {rs:List ResultVar} {n:Nat} {res:Arg} {objs':List (List CA)} (fresh:List Id) (h:QDS σ n res objs' fresh (QmT P σ rs)):Qid P σ rs n res objs':=by
 cases hr:QmT P σ rs with
 | none=>rw [hr] at h;exact h.elim
 | some r=>
  obtain ⟨c,x⟩:=r
  rw [hr] at h
  obtain ⟨h1,h2,h3,h4⟩:=h
  exact ⟨x,fresh,_,_,QvS hr h1,Qcg h2,Qch h3,h4⟩
end
attribute [go_sem] QdQ Qjb QFr QDu mHd QDQ Qy0 QDR mFn QFq QvR QA2 Qsb Qif Qsc QaI Qdq Qam QA3 QpW QmT QDS Qgn Qb6 QbY Qi8 QeN Qa0 Qbd QcH QaT Qcl QdB Qfz Qvo QaA QeV kid QgY Qa6 QgZ Qj8 QfC QBr QcC QbC Qj7 QmD Qld Qlc Qry Value.oneCell' QBE QyQ QrU Qg2 QyP QvJ QBD Qro
attribute [go_sem] List.flatMap_cons List.flatMap_nil List.nodup_cons List.nodup_nil List.mem_cons List.not_mem_nil List.size_toArray or_false false_or or_self true_or or_true Value.int.injEq Value.bool.injEq
section
variable {P:Program} {C:Ctx} {σ:St}
theorem Qaa {K:FuncId} {fn:Func} {c:Code} {nt:Nat} {rs:List ResultVar} (hf:P.funcs[K]? = some fn) (hb:fn.body=some c) (hnt:fn.ntmps=nt) (hr:fn.results=rs.toArray) {args:List Arg} {objs:List (List CA)} {res:Arg} {objs':List (List CA)} (hn:nt≤1000∧args.length≤nt)
  (h:∀ C:Ctx,C.nt=nt→AW P C c (QBE args objs) (QDt P rs objs.length res objs')):Qan P K args objs res objs':=by
 subst hnt
 refine QpM hf hb hn fun C hC=>?_
 rw [hr]
 exact h C hC
theorem Qsf {id:Nat} {l:List Oper} {Q:Exit→St→Prop} {n:Nat} (hC:C.nt=n) (hds:QdP n l=true) (h:Qb7 P l.toArray C true (fun σ' _=>Q .normal σ') l σ []):AW P C (.region id l.toArray false) σ Q:=QrT (by rw [hC];exact hds) h
theorem Qsg {id:Nat} {l:List Oper} {Q:Exit→St→Prop} {n:Nat} (hC:C.nt=n) (hm:P.follows .mixedOrders=true) (hds:QdP n l=true) (h:Qb7 P l.toArray C false (fun σ' fp=>chk l fp=true∧Q .normal σ') l σ []):AW P C (.region id l.toArray true) σ Q:=QpK hm (by rw [hC];exact hds) h
theorem Qy1 {l:List Oper} {fp:List FP} {p:Prop} (h:chk l fp=true) (k:p):chk l fp=true∧p:=⟨h,k⟩
theorem QBK {rs:List ResultVar} {n:Nat} {res:Arg} {objs:List (List CA)}:QDt P rs n res objs .ret σ=Qid P σ rs n res objs:=rfl
theorem QBL {rs:List ResultVar} {n:Nat} {res:Arg} {objs:List (List CA)}:QDt P rs n res objs .normal σ=Qid P σ rs n res objs:=rfl
end
theorem wrap_i64 {n:Int} (h1:-9223372036854775808≤n) (h2:n≤9223372036854775807):IntKind.i64.wrap n=n:=IntWalk.i64_in n ⟨h1,h2⟩
theorem wrap_u8 {n:Int} (h1:0≤n) (h2:n≤255):IntKind.u8.wrap n=n:=IntWalk.u8_in n ⟨h1,h2⟩
theorem wrap_u16 {n:Int} (h1:0≤n) (h2:n≤65535):IntKind.u16.wrap n=n:=IntWalk.u16_in n ⟨h1,h2⟩
theorem wrap_u32 {n:Int} (h1:0≤n) (h2:n≤4294967295):IntKind.u32.wrap n=n:=IntWalk.u32_in n ⟨h1,h2⟩
theorem Qn6 {n:Int} (h1:0≤n) (h2:n≤18446744073709551615):IntKind.u64.wrap n=n:=IntWalk.u64_in n ⟨h1,h2⟩
theorem Qsh (l:List UInt8):(ByteArray.mk l.toArray).toList=l:=by
 rw [ByteArray.toList_eq]
theorem Qjc (l:List UInt8):(ByteArray.mk l.toArray).data.toList=l:=by simp
theorem Qsi (l:List UInt8) (n:Int):Qlb ⟨l.toArray⟩ n=((l.getD n.toNat 0).toNat:Int):=by simp [Qlb]
theorem QvT:QcP []=[]:=rfl
theorem Qsj {l:Pl} {x:X} {W:List (Pl × X)}:QcP ((l,x)::W)=l::QcP W:=rfl
theorem Qy2 {σ:St}:rds σ []=[]:=rfl
theorem QvU {n:Nat}:Qsa (.num n)=n:=rfl
theorem QBM {σ:St} {t:Nat}:ev σ (.tmp t)=(match σ (.s t) with | .av x=>x | _=>.val .any):=rfl
theorem QvV {σ:St} {v:Value}:ev σ (.const v)=.val (.sc v):=rfl
theorem Qy3 {σ:St} {g:Nat}:ev σ (.global g)=.val (.sc (.pointer (some ⟨g,0,none⟩))):=rfl
theorem Qy4 {σ:St} {f:Nat}:ev σ (.func f)=.val (.sc (.func (.func f) #[] #[])):=rfl
theorem Qy5 {t:Nat}:rdl (.tmp t)=[.s t]:=rfl
theorem Qsk {v:Value}:rdl (.const v)=[]:=rfl
theorem QvW {g:Nat}:rdl (.global g)=[]:=rfl
theorem QvX {f:Nat}:rdl (.func f)=[]:=rfl
theorem QBN {α:Type} (l:List α) (i:Nat):l.toArray[i]? = l[i]?:=by simp
theorem QvY {l:List Oper} {j:Nat}:QbG l.toArray j=((l[j]?).bind (·.dst)).getD 0:=by simp [QbG]
theorem Qy6 {c:Prop} [Decidable c] {α:Type} (x:α):(if c then x else x)=x:=by split <;> rfl
attribute [go_sem] QvL QrY QrZ Qr0 QyR QyS QpN QrW QrX QpO Qlt QpP Qr1 QpI QpJ QvM QpQ Qr2 Qlu QpR Qr3 QmL QmM Qr4 QmN Qlv QmO Qlw QmP Qr5 Qr6 Qr7 Qlx QpS QmQ Qly QpV Qkh Qlz Qie QlA QmR QmS QpT QpU
attribute [go_sem] Qr8 Qeb QfR QfQ QpD QrL QfO Qd9 Qea Qh9 QfP Qn2 QaA
attribute [go_sem] QfN Qlo Qd6 QfK Qd7 Qh8 QfL Qgu vwL Qkd Qvz Qcf QyI Qh7
attribute [go_sem] QhO Qk6 Qrk Qk7 QAZ QBg Qk8 Qrm Qfr Qk9 Qrt QhQ QhR Qrp QhS Qfx QhU Qfy QhV Qrv Qvn Qfu QfH QdC QfI Qll Qh3 Qh4 Qn0 Qd3 Qd4 QDs Qia Qh5 QfJ Qd5 Qvx Qh6 QBw Qvs Qq4 QaR Qcw QA1 QeX QrB QrC Qpv vOf Qrz Qgt Qlh QcQ
attribute [go_sem] QBM QvV Qy3 Qy4 Qy5 Qsk QvW QvX Qhq Qad QvN Qr9 QBH QBI QBJ QyT QyU QyV QyW QvU QxH Qu3 QaU Qbj QeS QeT plain Qjr Qe8 QaW Qba QbN bl Qdz Qdl Qpr Qbs Qi7 QaN Qfv evs Qu2 QhT Qvh Qhi QvT Qsj Qy2 QBK QBL QyX QyY QyZ QvO QvP QvQ Qja
attribute [go_sem] ite_true ite_false eq_self
attribute [go_sem] wrap_i64 wrap_u8 wrap_u16 wrap_u32 Qn6 Qsh Qjc Qsi QBN QvY Qy6
attribute [go_sem] List.map_cons List.map_nil List.cons_append List.nil_append List.append_nil List.length_cons List.length_nil List.getElem?_cons_zero List.getElem?_cons_succ List.getElem?_nil List.take_succ_cons List.take_zero List.take_nil List.drop_succ_cons List.drop_zero List.drop_nil List.replicate_succ List.replicate_zero List.all_cons List.all_nil List.getD_cons_zero List.getD_cons_succ List.reverse_cons List.reverse_nil
attribute [go_sem] Option.map_some Option.map_none Option.bind_some Option.bind_none Option.getD_some Option.getD_none Option.isSome_some Option.isSome_none Option.some.injEq Pl.s.injEq Pl.c.injEq Pl.o.injEq Pl.g.injEq Pl.k.injEq Pl.q.injEq Pl.r.injEq Pl.h.injEq Pl.l.injEq Ho.o.injEq Ho.k.injEq Ho.r.injEq X.tree.injEq Prod.mk.injEq and_true true_and and_self not_true_eq_false not_false_eq_true decide_true decide_false Bool.not_true Bool.not_false ne_eq Bool.and_true Bool.true_and Bool.false_and Bool.and_false false_and and_false forall_const implies_true
section
variable {P:Program} {C:Ctx} {σ:St} {x y:Code} {Q:Exit→St→Prop} {A B:Prop}
def QfS (A B:Prop):AV→Prop
 | .val (.sc (.bool b))=>(b=true→A)∧(b=false→B)
 | _=>False
theorem QDT {c:Operand} (h:QfS (AW P C x σ Q) (AW P C y σ Q) (ev σ c)):AW P C (.cond c x y) σ Q:=by
 unfold QfS at h
 split at h
 ·rename_i b hb
  exact QyM hb h.1 h.2
 ·exact h.elim
theorem Qy7:QfS A B (.val (.sc (.bool true)))=A:=by simp [QfS]
theorem Qy8:QfS A B (.val (.sc (.bool false)))=B:=by simp [QfS]
theorem QlB {b:Bool}:QfS A B (.val (.sc (.bool (!b))))=QfS B A (.val (.sc (.bool b))):=by cases b <;> simp [QfS]
theorem QaB {b:Bool} (h1:b=true→A) (h2:b=false→B):QfS A B (.val (.sc (.bool b))):=⟨h1,h2⟩
theorem Qav {p:Prop} [Decidable p] (h1:p→A) (h2:¬p→B):QfS A B (.val (.sc (.bool (decide p)))):=⟨fun h=>h1 (of_decide_eq_true h),fun h=>h2 (of_decide_eq_false h)⟩
theorem QaC {α:Type} [BEq α] [LawfulBEq α] {a b:α} (h1:a=b→A) (h2:a≠b→B):QfS A B (.val (.sc (.bool (a == b)))):=⟨fun h=>h1 (eq_of_beq h),fun h=>h2 (fun e=>by rw [e,beq_self_eq_true] at h;cases h)⟩
attribute [go_sem] Qy7 Qy8 QlB
end
def Qsl (σ:St):AV→AV→Prop
 | .ptr o g off,.ptr o' g' off'=>o'=o∧g'=0∧off'=off∧g=gg σ o
 | .val x,.val y=>QdQ x y
 | _,_=>False
def Qhs (σ:St):List AV→List AV→Prop
 | [],[]=>True
 | x::xs,y::ys=>Qsl σ x y∧Qhs σ xs ys
 | _,_=>False
theorem Qig {σ:St}:∀ {xs ys:List AV},Qhs σ xs ys→Qkg σ xs ys
 | [],[],_=>trivial
 | x::xs,y::ys,h=>by
  refine ⟨?_,Qig h.2⟩
  have h1:=h.1
  cases x <;> cases y <;> first | exact Qec _ _ h1 | exact h1 | exact h1.elim
 | [],_::_,h=>h.elim
 | _::_,[],h=>h.elim
def Qn7 (σ:St) (x:AV):AV→Prop
 | .val y=>QdQ (plain x) y
 | .own k' g' e' sz' es'=>match x with
  | .own k g e sz es=>k'=k∧g'=0∧e'=e∧sz'=sz∧es'=es∧g=gq σ k
  | _=>False
 | .ptr o' g' off'=>match x with
  | .ptr o g off=>o'=o∧g'=0∧off'=off∧g=gg σ o
  | _=>False
 | .ref k' g'=>match x with
  | .ref k g=>k'=k∧g'=0∧g=gh σ k
  | _=>False
 | .elp k' g' sz' i' off'=>match x with
  | .elp k g sz i off=>k'=k∧g'=0∧sz'=sz∧i'=i∧off'=off∧g=gh σ k
  | _=>False
 | .vw k' g' sz' off' len'=>match x with
  | .vw k g sz off len=>k'=k∧g'=0∧sz'=sz∧off'=off∧len'=len∧g=gh σ k
  | _=>False
 | .fn K' xs'=>match x with
  | .fn K xs=>K'=K∧Qhs σ xs xs'
  | _=>False
 | .ag _=>False
 | .cp _ _ _=>False
 | .pv _ _ _=>False
 | .nv _ _ _=>False
theorem Qih {σ:St} {x y:AV} (h:Qn7 σ x y):Qls σ x y:=by
 cases y with
 | val y=>
  have h1:=Qec _ _ (show QdQ (plain x) y from h)
  cases x <;> exact h1
 | own=>cases x <;> first | exact h | exact (show False from h).elim
 | ptr=>cases x <;> first | exact h | exact (show False from h).elim
 | ref=>cases x <;> first | exact h | exact (show False from h).elim
 | elp=>cases x <;> first | exact h | exact (show False from h).elim
 | vw=>cases x <;> first | exact h | exact (show False from h).elim
 | fn K xs=>
   cases x with
   | fn K' xs'=>exact ⟨h.1,Qig h.2⟩
   | _=>exact (show False from h).elim
 | ag=>exact (show False from h).elim
 | cp=>exact (show False from h).elim
 | pv=>exact (show False from h).elim
 | nv=>exact (show False from h).elim
def QlC (σ:St) (y:AV):X→Prop
 | .av x=>Qn7 σ x y
 | _=>False
def Qsm (σ:St) (i:Nat) (y:AV):X→Prop
 | .lent i' x=>i'=i∧Qn7 σ x y
 | _=>False
def Qsn (σ:St) (k:Id) (g:Nat) (s:List Nat):X→Prop
 | .itr k' g' s'=>k'=k∧s'=s∧g'=gg σ k∧g=0
 | _=>False
def Qc6 (σ:St):Pl→X→Prop
 | .s t,.av y=>QlC σ y (σ (.s t))
 | .c o i,.av y=>QlC σ y (σ (.c o i))
 | .o o,.num n=>σ (.o o)=.num n
 | .o o,.itr k g s=>Qsn σ k g s (σ (.o o))
 | .k k,.row e sz n=>σ (.k k)=.row e sz n
 | .r k,.tree x=>σ (.r k)=.tree x
 | .l k,.lent i y=>Qsm σ i y (σ (.l k))
 | _,_=>False
theorem Qso {σ:St} {l:Pl} {x:X} (h:Qc6 σ l x):QvH σ l x:=by
 cases x with
 | av y=>
  cases l with
  | s t=>
     simp only [Qc6] at h;unfold QlC at h;split at h
     ·rename_i z hz;exact ⟨z,hz,Qih h⟩
     ·exact h.elim
  | c o i=>
      simp only [Qc6] at h;unfold QlC at h;split at h
      ·rename_i z hz;exact ⟨z,hz,Qih h⟩
      ·exact h.elim
  | _=>simp [Qc6] at h
 | num n=>cases l with
  | o o=>exact ⟨o,rfl,h⟩
  | _=>simp [Qc6] at h
 | row e sz n=>cases l with
  | k k=>exact ⟨k,rfl,h⟩
  | _=>simp [Qc6] at h
 | tree y=>cases l with
  | r k=>exact ⟨k,rfl,h⟩
  | _=>simp [Qc6] at h
 | lent i y=>cases l with
  | l k=>
   simp only [Qc6] at h;unfold Qsm at h;split at h
   ·rename_i i' z hz;obtain ⟨rfl,h⟩:=h;exact ⟨k,z,rfl,hz,Qih h⟩
   ·exact h.elim
  | _=>simp [Qc6] at h
 | itr k g s=>cases l with
  | o o=>
   simp only [Qc6] at h;unfold Qsn at h;split at h
   ·rename_i k' g' s' hz;obtain ⟨rfl,rfl,h3,h4⟩:=h;exact ⟨o,g',rfl,hz,h3,h4⟩
   ·exact h.elim
  | _=>simp [Qc6] at h
 | non=>cases l <;> simp [Qc6] at h
def Qkk (σ:St):List (Pl × X)→Prop
 | []=>True
 | p::L=>Qc6 σ p.1 p.2∧Qkk σ L
theorem Qez {σ:St}:∀ {L:List (Pl × X)},Qkk σ L→Weak σ L
 | [],_=>trivial
 | p::L,h=>⟨Qso h.1,Qez h.2⟩
section
variable {P:Program} {C:Ctx} {σ:St} {Q:Exit→St→Prop}
def QBO {α:Type} (I:α→List (Pl × X)) (μ:α→Nat) (x:α) (σ:St):Prop:=∃ y,Qkk σ (I y)∧μ y<μ x
theorem Qau {α:Type} {I:α→List (Pl × X)} {μ:α→Nat} {x:α} (y:α) (h:Qkk σ (I y)∧μ y<μ x):QBO I μ x σ:=⟨y,h⟩
theorem QaD {α:Type} {c:Code} (I:α→List (Pl × X)) (μ:α→Nat) (x:α) (hx:Qkk σ (I x)) (round:∀ x,AW P C c (Qja (I x)) (Qib (QBO I μ x) Q)):AW P C (.loop c) σ Q:=
 QyO I μ x (Qez hx) fun x E a w hg=>by
  refine Code.wp_mono (fun e a' w' hq=>?_) (round x E a w hg)
  obtain ⟨E',σ',h1,h2⟩:=hq
  refine ⟨E',σ',?_,h2⟩
  cases e with
  | normal=>obtain ⟨y,h3,h4⟩:=h1;exact ⟨y,Qez h3,h4⟩
  | _=>exact h1
end
theorem Qsp (a b:List UInt8):(str a=str b)=(a=b):=propext ⟨fun h=>by injection h with h;injection h with h;simpa using h,fun h=>by rw [h]⟩
theorem QDU (a b:List UInt8):(Value.string ⟨a.toArray⟩=str b)=(a=b):=Qsp a b
theorem QBP (b:List UInt8):(Value.string ⟨#[]⟩=str b)=([]=b):=Qsp [] b
attribute [go_sem] Qsl Qhs Qn7 QlC Qsm Qsn Qc6 Qkk Qsp QDU QBP Nat.sub_zero Int.toNat_natCast
theorem Qii (b:UInt8):(b.toNat:Int)≤255:=by have:=b.toNat_lt;omega
theorem QvZ (b:UInt8):IntKind.u8.wrap (b.toNat:Int)=b.toNat:=wrap_u8 (by omega) (Qii b)
theorem Qsq (b:UInt8):IntKind.u16.wrap (b.toNat:Int)=b.toNat:=wrap_u16 (by omega) (by have:=Qii b;omega)
theorem Qsr (b:UInt8):IntKind.u32.wrap (b.toNat:Int)=b.toNat:=wrap_u32 (by omega) (by have:=Qii b;omega)
theorem Qss (b:UInt8):IntKind.u64.wrap (b.toNat:Int)=b.toNat:=Qn6 (by omega) (by have:=Qii b;omega)
theorem Qst (b:UInt8):IntKind.i64.wrap (b.toNat:Int)=b.toNat:=wrap_i64 (by omega) (by have:=Qii b;omega)
theorem Qsu {k:IntKind} {a b:Int}:Qhh .and k a b=bits .and k a b:=rfl
theorem Qv0 {k:IntKind} {a b:Int}:Qhh .or k a b=bits .or k a b:=rfl
theorem Qsv {k:IntKind} {a b:Int}:Qhh .xor k a b=bits .xor k a b:=rfl
attribute [go_sem] Qsu Qv0 Qsv IntKind.bits QvZ Qsq Qsr Qss Qst
theorem QDV:((0:Nat):Int)=0:=rfl
theorem QDW:((1:Nat):Int)=1:=rfl
theorem Qv1 (n:Int) {m:Int} (h:0≤m):n.fdiv m=n / m:=Int.fdiv_eq_ediv_of_nonneg n h
theorem Qed (x:Int):[V.sc (.int .u8 (IntKind.u8.wrap x))]=QaG (UInt8.ofNat (x % 256).toNat):=by
 have h1:=Int.emod_nonneg x (show (256:Int)≠0 by decide)
 have h2:=Int.emod_lt_of_pos x (show (0:Int)<256 by decide)
 have h3:(UInt8.ofNat (x % 256).toNat).toNat=(x % 256).toNat:=by rw [UInt8.toNat_ofNat'];exact Nat.mod_eq_of_lt (by omega)
 unfold QaG
 rw [h3,IntKind.wrap_u8]
 have h4:x % 2 ^ 8=x % 256:=rfl
 rw [show ((x % 256).toNat:Int)=x % 256 by omega]
 try rfl
attribute [go_sem] QDV QDW Int.cast_ofNat_Int forall_eq forall_eq_or_imp List.length_map List.length_append Qv1
theorem Qv2 {α:Type} (f:α→List V) (l:List α) (j:Nat) (h:j<l.length):(l.map f).getD j []=f l[j]:=by simp [h]
attribute [go_sem] Qv2
section
variable {P:Program} {ops:Array Oper} {C:Ctx} {md:Bool} {σ:St} {K:St→List FP→Prop} {acc:List FP} {rest:List Oper}
theorem Qkl {d:Tmp} {s t:TypeId} {x:Operand} {ty:TypeId} {pos:String} {af:Array Edge} (l:List UInt8) (h:QaW (ev σ x)=some (l.map QaG)) (hl:Qba (ev σ x)=true)
  (hc:(Qao P s).map (·.sh)=some .slice∧((Qao P s).bind fun T=>Qao P T.elem).map (·.sh)=some (.int .u8)∧(Qao P t).map (·.sh)=some .str)
  (k:Qb7 P ops C md K rest (put σ (.s d) (.av (.val (.sc (str l))))) ((rdl x,[.s d])::acc)):Run P ops C md K (⟨some d,.convert s t x,ty,pos,af,none⟩::rest) σ acc:=
 Qde (Qru h hl) rfl hc k
end
theorem Qy9 {p:Prop} [Decidable p] (h:p):decide p=true:=decide_eq_true h
theorem QBQ {p:Prop} [Decidable p] (h:¬p):decide p=false:=decide_eq_false h
theorem Qza {a b:Int} (h:a=b):(a == b)=true:=by simp [h]
theorem QBR {a b:Int} (h:¬a=b):(a == b)=false:=by simp [h]
attribute [go_sem] Qy9 QBQ Qza QBR
theorem Qzb (v:Value):Qfn (.sc v)=v.oneCell':=rfl
theorem Qv3 (s:Nat) (es:List (List V)):Qfn (.lst s es)=true:=rfl
theorem Qzc (xs:List V):Qfn (.ep xs)=true:=rfl
theorem Qv4 (t:TypeId) (x:V):Qfn (.ifc t x)=true:=rfl
theorem Qsw (l:List UInt8):(∀ r∈l.map QaG,r.length=1)=True:=eq_true (by intro r hr;obtain ⟨b,_,rfl⟩:=List.mem_map.1 hr;rfl)
theorem Qsx (l:List UInt8):(∀ r∈l.map QaG,∀ y∈r,Qfn y=true)=True:=eq_true (by intro r hr y hy;obtain ⟨b,_,rfl⟩:=List.mem_map.1 hr;simp [QaG] at hy;subst hy;rfl)
attribute [go_sem] Qzb Qv3 Qzc Qv4 Qsw Qsx
theorem Qv5 {a:Int} (b:Int) (h:0≤a):a.tmod b=a % b:=Int.tmod_eq_emod_of_nonneg h
theorem Qv6 {a:Int} (b:Int) (h:0≤a):a.tdiv b=a / b:=Int.tdiv_eq_ediv_of_nonneg h
attribute [go_sem] Qv5 Qv6
theorem Qzd {a b:Int} (h:¬a=b):(a != b)=true:=by simp [h]
theorem QBS {a b:Int} (h:a=b):(a != b)=false:=by simp [h]
theorem Qsy {A B:Prop} {α:Type} [BEq α] {a b:α}:QfS A B (.val (.sc (.bool (a != b))))=QfS B A (.val (.sc (.bool (a == b)))):=QlB
attribute [go_sem] Qzd QBS Qsy
section
variable {P:Program} {C:Ctx} {E:Env} {σ:St} {a:Act} {w:World} {Q:Exit→St→Prop}
theorem Gm.know (h:Gm C E σ a w) (l:Pl) (x y:AV) (hl:∀ o,l≠.g o∧l≠.q o∧l≠.k o∧l≠.o o∧l≠.h o∧l≠.r o∧l≠.l o) (hx:σ l=.av x) (hxy:∀ v,RdA E σ x v→RdA E σ y v):Gm C E (put σ l (.av y)) a w:=by
 have hG:∀ o,put σ l (.av y) (.g o)=σ (.g o):=fun o=>Qag _ _ (fun e=>(hl o).1 e.symm)
 have hQ:∀ o,put σ l (.av y) (.q o)=σ (.q o):=fun o=>Qag _ _ (fun e=>(hl o).2.1 e.symm)
 have hK:∀ o,put σ l (.av y) (.k o)=σ (.k o):=fun o=>Qag _ _ (fun e=>(hl o).2.2.1 e.symm)
 have hO:∀ o,put σ l (.av y) (.o o)=σ (.o o):=fun o=>Qag _ _ (fun e=>(hl o).2.2.2.1 e.symm)
 have hH:∀ o,put σ l (.av y) (.h o)=σ (.h o):=fun o=>Qag _ _ (fun e=>(hl o).2.2.2.2.1 e.symm)
 have hR:∀ o,put σ l (.av y) (.r o)=σ (.r o):=fun o=>Qag _ _ (fun e=>(hl o).2.2.2.2.2.1 e.symm)
 have hL:∀ o,put σ l (.av y) (.l o)=σ (.l o):=fun o=>Qag _ _ (fun e=>(hl o).2.2.2.2.2.2 e.symm)
 have hmo:Mo E σ E (put σ l (.av y)):=Mo.same hG hQ hK hH
 refine ⟨h.sz,h.df,h.ms,h.fr,fun u z hz=>?_,fun o i z n h1 h2 h3=>?_,fun o n h1=>h.ob o n (by rw [←hO];exact h1),fun k e s T h1=>h.ro k e s T (by rw [←hK];exact h1),
  fun o o' n n' h1 h2=>h.oo o o' n n' (by rw [←hO];exact h1) (by rw [←hO];exact h2),fun k k' e s T e' s' T' b h1 h2=>h.rr k k' e s T e' s' T' b (by rw [←hK];exact h1) (by rw [←hK];exact h2),
  fun o n k e s T h1 h2=>h.or o n k e s T (by rw [←hO];exact h1) (by rw [←hK];exact h2),h.pi,h.ml,h.mx,
  h.tr.beside hmo hR hL hO hK (fun _ _ _ _ _ _=>rfl) (fun _ _ _ _ _ _=>rfl)⟩
 ·by_cases hu:Pl.s u=l
  ·rw [hu,QaZ] at hz
   cases hz
   exact (hxy _ (h.sl u x (by rw [hu];exact hx))).mo hmo
  ·rw [Qag _ _ hu] at hz
   exact (h.sl u z hz).mo hmo
 ·rw [hO] at h2
  by_cases hu:Pl.c o i=l
  ·rw [hu,QaZ] at h1
   cases h1
   obtain ⟨v,hv,hr⟩:=h.ce o i x n (by rw [hu];exact hx) h2 h3
   exact ⟨v,hv,(hxy v hr).mo hmo⟩
  ·rw [Qag _ _ hu] at h1
   obtain ⟨v,hv,hr⟩:=h.ce o i z n h1 h2 h3
   exact ⟨v,hv,hr.mo hmo⟩
theorem QxK {c:Code} (l:Pl) (k:Id) (e:TypeId) (sz:Nat) (hl:(∃ t,l=.s t)∨∃ o i,l=.c o i) (hx:σ l=.av (.val (.sc (.slice none 0 0))))
  (h:AW P C c (Qaf σ [(.q k,.num (gq σ k+1)),(.k k,.row e sz 0),(l,.av (.own k (gq σ k+1) e sz []))]) Q):AW P C c σ Q:=by
 intro E a w hg
 have hll:∀ o,l≠.g o∧l≠.q o∧l≠.k o∧l≠.o o∧l≠.h o∧l≠.r o∧l≠.l o:=fun o=>by
  rcases hl with ⟨t,rfl⟩ | ⟨o',i,rfl⟩ <;> refine ⟨?_,?_,?_,?_,?_,?_,?_⟩ <;> (intro e;cases e)
 obtain ⟨E',h1,h2,h3,h4,h5,h6⟩:=hg.row k (gq σ k) (gq σ k+1) rfl e sz 0 (.slice none 0 0) w [] (.inr rfl) (fun b hb=>by cases hb) ⟨by simp,.inl ⟨rfl,rfl⟩⟩ (Chg.refl _ w)
 refine h E' a w (Gm.know h1 l (.val (.sc (.slice none 0 0))) _ hll ?_ (fun v hv=>?_))
 ·show put (put σ (.q k) _) (.k k) _ l=_
  rw [Qag _ _ (hll k).2.2.1,Qag _ _ (hll k).2.1]
  exact hx
 ·have:=Rd.sc_eq hv
  subst this
  exact h6 [] rfl (Sub.nil sz _ _ hv)
theorem Qij {c:Code} (t:Nat) (k:Id) (e:TypeId) (sz:Nat) (h:σ (.s t)=.av (.val (.sc (.slice none 0 0)))∧AW P C c (Qaf σ [(.q k,.num (gq σ k+1)),(.k k,.row e sz 0),(.s t,.av (.own k (gq σ k+1) e sz []))]) Q):AW P C c σ Q:=
 QxK (.s t) k e sz (.inl ⟨t,rfl⟩) h.1 h.2
theorem Qb2 {c:Code} (o:Id) (i:Nat) (k:Id) (e:TypeId) (sz:Nat) (h:σ (.c o i)=.av (.val (.sc (.slice none 0 0)))∧AW P C c (Qaf σ [(.q k,.num (gq σ k+1)),(.k k,.row e sz 0),(.c o i,.av (.own k (gq σ k+1) e sz []))]) Q):AW P C c σ Q:=
 QxK (.c o i) k e sz (.inr ⟨o,i,rfl⟩) h.1 h.2
end
theorem QBT (j:Nat):((j+1:Nat):Int)=(j:Int)+1:=rfl
attribute [go_sem] QBT
def gOk (ops:Array Oper) (σ:St):Option (Nat × Bool)→Prop
 | none=>True
 | some (j,b)=>((ops[j]?).bind (·.dst)).isSome=true∧σ (.s (QbG ops j))=.av (.val (.sc (.bool b)))
def gL (ops:Array Oper):Option (Nat × Bool)→List Pl
 | none=>[]
 | some (j,_)=>[.s (QbG ops j)]
section
variable {P:Program} {ops:Array Oper} {C:Ctx} {σ:St} {md:Bool} {K:St→List FP→Prop} {acc:List FP} {rest:List Oper}
theorem Qab {d:Tmp} {F:FuncId} (hK:∀ args w,(callFunc F args).run P w=.ok (.enter F args) w) {xs:List Operand} {tys:Array TypeId} {args:List Arg} {objs objs':List (List CA)} {res:Arg} {ty:TypeId} {pos:String} {af:Array Edge} {g:Option (Nat × Bool)}
  (hspec:Qan P F args objs res objs') (ids:List Id)
  (h:gOk ops σ g∧Qif σ ids (xs.map (ev σ)) args∧Qdq σ ids ids objs∧(QaI (xs.map (ev σ)) args++Qam σ ids objs).Nodup)
  (k:Qb7 P ops C md K rest (Qaf σ (QbY σ d ids (QaI (xs.map (ev σ)) args++Qam σ ids objs) objs' res)) ((gL ops g++QeN d xs ids (QaI (xs.map (ev σ)) args++Qam σ ids objs) objs objs',QcP (QbY σ d ids (QaI (xs.map (ev σ)) args++Qam σ ids objs) objs' res))::acc))
  (hn:Qg3 d ids objs'=true:=by kernel_rfl) (hl:QxJ objs.length objs'.length=true:=by kernel_rfl) :
  Run P ops C md K (⟨some d,.call { callee:=.value (.func F),args:=xs.toArray,argTypes:=tys },ty,pos,af,g⟩::rest) σ acc:=by
 obtain ⟨h0,h1,h2,h3⟩:=h
 cases g with
 | none=>exact Qn3 hK hspec ids (Qcg h1) (Qch h2) ⟨h3,QcT hn,Qfc hl⟩ k
 | some g=>
  obtain ⟨j,b⟩:=g
  exact Qlq hK hspec h0.1 h0.2 ids (Qcg h1) (Qch h2) ⟨h3,QcT hn,Qfc hl⟩ k
end
attribute [go_sem] gOk gL and_true true_and
attribute [go_sem] reduceCtorEq Nat.reduceAdd Nat.reduceSub Nat.reduceMul Int.reduceToNat Int.reducePow Int.reduceAdd Int.reduceSub Int.reduceMul Int.reduceNeg Nat.min_eq_left Nat.min_eq_right Int.max_eq_left Int.max_eq_right Int.min_eq_left Int.min_eq_right Nat.reduceLeDiff
abbrev vi (n:Int):V:=.sc (.int .i64 n)
abbrev vu (n:Int):V:=.sc (.int .u32 n)
abbrev vh (n:Int):V:=.sc (.int .u16 n)
abbrev vb (b:Bool):V:=.sc (.bool b)
abbrev vs (l:List UInt8):V:=.sc (str l)
abbrev vfn (K:FuncId):V:=.sc (.func (.func K) #[] #[])
end Go.Proofs.YthfocmakkeonoaaGreatDoor
namespace Go.Proofs.YthfocmakkeonoaaGreatDoor
open Go.RowKit Go.ChangeShapes Go.WideShapes Go.Deep
section
variable {H:Type} {enc:TypeId × Value→H} {P:Program} {w:World} {base:Nat} {spare:Nat→Bool} {held:Bool}
end
def ArgRows (w:World) (A:Option Addr) (size n:Nat) (rows:List (List Value)):Prop:=
 rows.length=n∧n≤maxLen∧∀ (i:Nat) (h:i<rows.length),∃ b o,A=some ⟨b,o,none⟩∧b<w.heap.size∧∀ j u,rows[i][j]? = some u→w.cell? ⟨b,o+(i * size+j),none⟩=some u
theorem ArgRows.keep {w w':World} {A:Option Addr} {size n:Nat} {rows:List (List Value)} (h:ArgRows w A size n rows) (hc:Chg Nothing w w'):ArgRows w' A size n rows:=
 ⟨h.1,h.2.1,fun i hi=>by
  obtain ⟨b,o,hA,hb,hcell⟩:=h.2.2 i hi
  exact ⟨b,o,hA,Nat.lt_of_lt_of_le hb hc.size,fun j u hu=>(hc.cell (p:=⟨b,_,none⟩) hb id).trans (hcell j u hu)⟩⟩
theorem add_lit (b o k:Nat):(⟨b,o,none⟩:Addr).add k=⟨b,o+k,none⟩:=by
 unfold Addr.add;split <;> simp_all
section
variable {H:Type} {enc:TypeId × Value→H} {P:Program} {w:World} {base:Nat} {spare:Nat→Bool} {held:Bool}
end
theorem re0 {P:Program} {σ:St} {rs:List ResultVar} {n:Nat} {res:Arg} {objs':List (List CA)} (fresh:List Id) (h:QDS σ n res objs' fresh (QmT P σ rs):=by simp (decide:=true) (disch:=omega) only [go_sem,↓reduceIte,↓Qad];done):Qid P σ rs n res objs':=Qap fresh h
end Go.Proofs.YthfocmakkeonoaaGreatDoor
