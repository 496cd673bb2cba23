/- Elements: the plain law of layer 5. Package exts: its rules, their map. Package exts: Pack. Package exts: Parse. -/
import Derived.Test.YthfocmakkeonoaaGreatDoorRtp1z
import Derived.Test.YthfocmakkeonoaaGreatDoorRLz
set_option linter.unusedVariables false
set_option linter.unusedSimpArgs false
set_option maxRecDepth 100000
set_option maxHeartbeats 16000000
namespace Go.Proofs.YthfocmakkeonoaaGreatDoor
open Go.RowKit
structure E5 where
 id:Int
 data:List UInt8
 deriving DecidableEq
def Qwy (f:Nat):Int:=if f=1 then 48862 else 4096
def Qbz (f:Nat):Int:=if f=1 then 14 else 255
def Qdt (f:Nat):Int:=if f=1 then 1 else 0
def QgH (f:Nat):Int:=if f=1 then 16 else 255
def Qhm (f:Nat) (x:E5):Bool:=decide (1≤x.id∧x.id≤Qbz f∧Qdt f≤(x.data.length:Int)∧(x.data.length:Int)≤QgH f)
def Qej (f:Nat) (x:E5):List UInt8:=if f=1 then QaK (16 * x.id+x.data.length-1) 1 else QaK x.id 1++QaK x.data.length 1
def QeQ (f:Nat) (x:E5):List UInt8:=Qej f x++x.data
def Qek (f:Nat) (l:List E5):List UInt8:=l.flatMap (QeQ f)
def Qq5 (n:Nat):Nat:=(4-n % 4) % 4
def Qcp (f:Nat) (l:List E5):List UInt8:=Qek f l++QiD (Qq5 (Qek f l).length)
def QcY (p:Int):Nat:=if p=48862 then 1 else if p=4096 then 2 else 0
def Qbw (n:Int):Nat:=if n=1 then 1 else if n=2 then 2 else 0
def QdZ (n:Int) (l:List E5):Int × List UInt8 × Int:=
 if Qbw n=0 then (0,[],5) else if l.all (Qhm (Qbw n))=true∧(Qcp (Qbw n) l).length≤262140 then (Qwy (Qbw n),Qcp (Qbw n) l,0) else (0,[],6)
def id5 (f:Nat) (b:UInt8):Nat:=if f=1 then b.toNat / 16 else b.toNat
def QcX (f:Nat) (b:UInt8) (s:List UInt8):Nat:=if f=1 then b.toNat % 16+1 else (s.headD 0).toNat
def Qbi (f:Nat) (s:List UInt8):List UInt8:=if f=1 then s else s.drop 1
def QiE (f:Nat) (b:UInt8) (s:List UInt8):Prop:=(f≠1∧s=[])∨(Qbi f s).length<QcX f b s
instance decShort (f:Nat) (b:UInt8) (s:List UInt8):Decidable (QiE f b s):=by unfold QiE;infer_instance
def Qkz (out:List E5) (r:List E5 × Int):List E5 × Int:=if r.2=0 then (out++r.1,0) else ([],r.2)
theorem Qel (f:Nat) (s:List UInt8):(Qbi f s).length≤s.length:=by
 unfold Qbi;split
 ·exact Nat.le_refl _
 ·rw [List.length_drop];omega
def go5 (f:Nat) (l:List UInt8):List E5 × Int:=
 match l with
 | []=>([],0)
 | b::s=>if b=0 then (if s.length<3∧s=QiD s.length then ([],0) else ([],1))
  else if id5 f b=0∨Qbz f<(id5 f b:Int) then ([],1)
  else if QiE f b s then ([],2)
  else Qkz [⟨id5 f b,(Qbi f s).take (QcX f b s)⟩] (go5 f ((Qbi f s).drop (QcX f b s)))
termination_by l.length
decreasing_by
 have:=Qel f s
 simp only [List.length_drop,List.length_cons]
 omega
theorem Qfj (f:Nat):go5 f []=([],0):=by rw [go5]
theorem Qc8 (f:Nat) (b:UInt8) (s:List UInt8):go5 f (b::s)=if b=0 then (if s.length<3∧s=QiD s.length then ([],0) else ([],1))
 else if id5 f b=0∨Qbz f<(id5 f b:Int) then ([],1)
 else if QiE f b s then ([],2)
 else Qkz [⟨id5 f b,(Qbi f s).take (QcX f b s)⟩] (go5 f ((Qbi f s).drop (QcX f b s))):=by rw [go5]
def Qbk (p:Int) (s:List UInt8):Int × List E5 × Int:=
 if QcY p=0 then (0,[],5) else if s.length % 4≠0 then (0,[],1) else if (go5 (QcY p) s).2=0 then (QcY p,(go5 (QcY p) s).1,0) else (0,[],(go5 (QcY p) s).2)
theorem Qwz (r:List E5 × Int) (h:r.2≠0→r.1=[]):Qkz [] r=r:=by
 unfold Qkz
 split
 ·rename_i h0;rw [←h0];rfl
 ·rename_i h0;rw [←h h0]
theorem QwA (a b:List E5) (r:List E5 × Int):Qkz a (Qkz b r)=Qkz (a++b) r:=by
 unfold Qkz
 by_cases h:r.2=0
 ·rw [if_pos h,if_pos rfl,if_pos h,List.append_assoc]
 ·rw [if_neg h,if_neg h,if_neg h]
theorem QzK (f:Nat) (l:List UInt8):(go5 f l).2≠0→(go5 f l).1=[]:=by
 cases l with
 | nil=>rw [Qfj];intro;rfl
 | cons b s=>
  rw [Qc8]
  split
  ·split <;> (intro;rfl)
  split
  ·intro;rfl
  split
  ·intro;rfl
  unfold Qkz
  split
  ·intro h;exact absurd rfl h
  ·intro;rfl
theorem Qth (f:Nat):∀ (n:Nat) (l:List UInt8),l.length≤n→(go5 f l).2=0∨(go5 f l).2=1∨(go5 f l).2=2
 | 0,l,h=>by
  obtain rfl:l=[]:=List.length_eq_zero_iff.1 (by omega)
  rw [Qfj];exact .inl rfl
 | n+1,l,h=>by
  cases l with
  | nil=>rw [Qfj];exact .inl rfl
  | cons b s=>
   rw [Qc8]
   split
   ·split
    ·exact .inl rfl
    ·exact .inr (.inl rfl)
   split
   ·exact .inr (.inl rfl)
   split
   ·exact .inr (.inr rfl)
   have h1:=Qel f s
   have h2:=Qth f n ((Qbi f s).drop (QcX f b s)) (by simp only [List.length_drop,List.length_cons] at h ⊢;omega)
   unfold Qkz
   split
   ·exact .inl rfl
   ·exact h2
theorem Qnd (b:UInt8):UInt8.ofNat b.toNat=b:=UInt8.ofNat_toNat
theorem QwB (f:Nat) (hf:f=1∨f=2) (b:UInt8) (s:List UInt8) (h0:¬(id5 f b=0∨Qbz f<(id5 f b:Int))) (hs:¬QiE f b s) :
  Qhm f ⟨id5 f b,(Qbi f s).take (QcX f b s)⟩=true∧QeQ f ⟨id5 f b,(Qbi f s).take (QcX f b s)⟩++(Qbi f s).drop (QcX f b s)=b::s:=by
 have hb:b.toNat<256:=b.toNat_lt
 have hl:QcX f b s≤(Qbi f s).length:=by
  apply Nat.le_of_not_lt
  intro h
  exact hs (.inr h)
 have ht:((Qbi f s).take (QcX f b s)).length=QcX f b s:=by rw [List.length_take];omega
 have happ:=List.take_append_drop (QcX f b s) (Qbi f s)
 rcases hf with rfl | rfl
 ·have e1:id5 1 b=b.toNat / 16:=rfl
  have e2:QcX 1 b s=b.toNat % 16+1:=rfl
  have e3:Qbz 1=14:=rfl
  have e4:QgH 1=16:=rfl
  have e5:Qdt 1=1:=rfl
  have e6:Qbi 1 s=s:=rfl
  refine ⟨decide_eq_true ⟨?_,?_,?_,?_⟩,?_⟩
  ·show (1:Int)≤((id5 1 b:Nat):Int)
   omega
  ·show ((id5 1 b:Nat):Int)≤_
   omega
  ·show _≤(((((Qbi 1 s).take (QcX 1 b s)).length:Nat)):Int)
   rw [ht];omega
  ·show (((((Qbi 1 s).take (QcX 1 b s)).length:Nat)):Int)≤_
   rw [ht];omega
  ·unfold QeQ Qej
   dsimp only
   rw [if_pos rfl,ht,show (16 * ((id5 1 b:Nat):Int)+((QcX 1 b s:Nat):Int)-1)=((b.toNat:Nat):Int) by omega,Qcj _ hb,Qnd,List.append_assoc,happ,e6]
   rfl
 ·have e1:id5 2 b=b.toNat:=rfl
  have e3:Qbz 2=255:=rfl
  have e4:QgH 2=255:=rfl
  have e5:Qdt 2=0:=rfl
  cases s with
  | nil=>exact absurd (.inl ⟨by decide,rfl⟩) hs
  | cons c s=>
   have e2:QcX 2 b (c::s)=c.toNat:=rfl
   have e6:Qbi 2 (c::s)=s:=rfl
   have hc:c.toNat<256:=c.toNat_lt
   refine ⟨decide_eq_true ⟨?_,?_,?_,?_⟩,?_⟩
   ·show (1:Int)≤((id5 2 b:Nat):Int)
    omega
   ·show ((id5 2 b:Nat):Int)≤_
    omega
   ·show _≤(((((Qbi 2 (c::s)).take (QcX 2 b (c::s))).length:Nat)):Int)
    rw [ht];omega
   ·show (((((Qbi 2 (c::s)).take (QcX 2 b (c::s))).length:Nat)):Int)≤_
    rw [ht];omega
   ·unfold QeQ Qej
    dsimp only
    rw [if_neg (by decide),ht,e1,e2,Qcj _ hb,Qcj _ hc,Qnd,Qnd,←e2,List.append_assoc,happ,e6]
    rfl
theorem QlT (f:Nat) (hf:f=1∨f=2):∀ (n:Nat) (s:List UInt8),s.length≤n→(go5 f s).2=0→(go5 f s).1.all (Qhm f)=true∧∃ k,k≤3∧s=Qek f (go5 f s).1++QiD k
 | 0,s,h,_=>by
  obtain rfl:s=[]:=List.length_eq_zero_iff.1 (by omega)
  rw [Qfj];exact ⟨rfl,0,by omega,rfl⟩
 | n+1,s,h,he=>by
  cases s with
  | nil=>rw [Qfj];exact ⟨rfl,0,by omega,rfl⟩
  | cons b s=>
   rw [Qc8] at he ⊢
   by_cases hb:b=0
   ·rw [if_pos hb] at he ⊢
    by_cases hz:s.length<3∧s=QiD s.length
    ·rw [if_pos hz]
     refine ⟨rfl,s.length+1,by omega,?_⟩
     rw [hb]
     show _=QiD (s.length+1)
     conv=>lhs;rw [hz.2]
     rfl
    ·rw [if_neg hz] at he;cases he
   rw [if_neg hb] at he ⊢
   by_cases h0:id5 f b=0∨Qbz f<(id5 f b:Int)
   ·rw [if_pos h0] at he;cases he
   rw [if_neg h0] at he ⊢
   by_cases hs:QiE f b s
   ·rw [if_pos hs] at he;cases he
   rw [if_neg hs] at he ⊢
   obtain ⟨m1,m2⟩:=QwB f hf b s h0 hs
   have hr:=Qel f s
   have hlen:((Qbi f s).drop (QcX f b s)).length≤n:=by simp only [List.length_drop,List.length_cons] at h ⊢;omega
   by_cases hg:(go5 f ((Qbi f s).drop (QcX f b s))).2=0
   ·obtain ⟨g1,k,g2,g3⟩:=QlT f hf n _ hlen hg
    unfold Qkz
    rw [if_pos hg]
    refine ⟨?_,k,g2,?_⟩
    ·rw [List.singleton_append,List.all_cons,m1,g1];rfl
    ·rw [List.singleton_append]
     unfold Qek at g3 ⊢
     rw [List.flatMap_cons,List.append_assoc,←g3,m2]
   ·unfold Qkz at he
    rw [if_neg hg] at he
    exact absurd he hg
theorem QzL (f:Nat) (k:Nat) (h:k≤3):go5 f (QiD k)=([],0):=by
 cases k with
 | zero=>exact Qfj f
 | succ k=>
  have e:QiD (k+1)=0::QiD k:=rfl
  rw [e,Qc8,if_pos rfl,if_pos ⟨by rw [Qf1];omega,by rw [Qf1]⟩]
theorem Qf2 (f:Nat) (x:E5):Qhm f x=true↔(1≤x.id∧x.id≤Qbz f∧Qdt f≤(x.data.length:Int)∧(x.data.length:Int)≤QgH f):=by unfold Qhm;rw [decide_eq_true_eq]
theorem QwC (f:Nat) (hf:f=1∨f=2) (x:E5) (hx:Qhm f x=true) (r:List UInt8):go5 f (QeQ f x++r)=Qkz [x] (go5 f r):=by
 obtain ⟨i,d⟩:=x
 obtain ⟨h1,h2,h3,h4⟩:=(Qf2 f _).1 hx
 dsimp only at h1 h2 h3 h4
 have key:∀ (b:UInt8) (s:List UInt8),QeQ f ⟨i,d⟩++r=b::s→b≠0→(id5 f b:Int)=i→QcX f b s=d.length→Qbi f s=d++r→¬(f≠1∧s=[])→go5 f (QeQ f ⟨i,d⟩++r)=Qkz [⟨i,d⟩] (go5 f r):=by
  intro b s e0 e1 e2 e3 e4 e5
  rw [e0,Qc8,if_neg e1,if_neg (by omega),if_neg (by
   rintro (h | h)
   ·exact e5 h
   ·rw [e4,e3,List.length_append] at h;omega),e2,e3,e4,List.take_left,List.drop_left]
 rcases hf with rfl | rfl
 ·have m1:Qbz 1=14:=rfl
  have m2:QgH 1=16:=rfl
  have m3:Qdt 1=1:=rfl
  obtain ⟨n,hn⟩:∃ n:Nat,16 * i+d.length-1=(n:Int):=⟨(16 * i+d.length-1).toNat,by omega⟩
  have hb:(UInt8.ofNat n).toNat=n:=by rw [UInt8.toNat_ofNat'];exact Nat.mod_eq_of_lt (by omega)
  refine key (UInt8.ofNat n) (d++r) ?_ ?_ ?_ ?_ rfl (fun h=>h.1 rfl)
  ·unfold QeQ Qej
   rw [if_pos rfl]
   dsimp only
   rw [hn,Qcj n (by omega)]
   rfl
  ·intro h
   rw [h] at hb
   have:(0:UInt8).toNat=0:=rfl
   omega
  ·show (((UInt8.ofNat n).toNat / 16:Nat):Int)=i
   rw [hb];omega
  ·show (UInt8.ofNat n).toNat % 16+1=d.length
   rw [hb];omega
 ·have m1:Qbz 2=255:=rfl
  have m2:QgH 2=255:=rfl
  have m3:Qdt 2=0:=rfl
  obtain ⟨n,hn⟩:∃ n:Nat,i=(n:Int):=⟨i.toNat,by omega⟩
  have hb:(UInt8.ofNat n).toNat=n:=by rw [UInt8.toNat_ofNat'];exact Nat.mod_eq_of_lt (by omega)
  have hc:(UInt8.ofNat d.length).toNat=d.length:=by rw [UInt8.toNat_ofNat'];exact Nat.mod_eq_of_lt (by omega)
  refine key (UInt8.ofNat n) (UInt8.ofNat d.length::(d++r)) ?_ ?_ ?_ ?_ rfl (fun h=>by cases h.2)
  ·unfold QeQ Qej
   rw [if_neg (by decide)]
   dsimp only
   rw [hn,Qcj n (by omega),Qcj d.length (by omega)]
   rfl
  ·intro h
   rw [h] at hb
   have:(0:UInt8).toNat=0:=rfl
   omega
  ·show (((UInt8.ofNat n).toNat:Nat):Int)=i
   rw [hb];omega
  ·exact hc
theorem Qti (f:Nat) (hf:f=1∨f=2):∀ (l:List E5),l.all (Qhm f)=true→∀ k,k≤3→go5 f (Qek f l++QiD k)=(l,0)
 | [],_,k,hk=>QzL f k hk
 | x::l,h,k,hk=>by
  rw [List.all_cons,Bool.and_eq_true] at h
  have e:Qek f (x::l)++QiD k=QeQ f x++(Qek f l++QiD k):=by
   unfold Qek
   rw [List.flatMap_cons,List.append_assoc]
  rw [e,QwC f hf x h.1,Qti f hf l h.2 k hk]
  rfl
theorem Qne (n:Nat):Qq5 n≤3:=by unfold Qq5;omega
theorem Qqd (f:Nat) (hf:f=1∨f=2) (l:List E5) (h:l.all (Qhm f)=true):go5 f (Qcp f l)=(l,0):=Qti f hf l h _ (Qne _)
theorem Qqe (f:Nat) (l:List E5):(Qcp f l).length % 4=0:=by
 unfold Qcp
 rw [List.length_append,Qf1]
 unfold Qq5
 omega
theorem QjK (f:Nat) (hf:f=1∨f=2):QcY (Qwy f)=f:=by rcases hf with rfl | rfl <;> rfl
theorem QoA (p:Int) (h:QcY p≠0):(QcY p=1∨QcY p=2)∧Qwy (QcY p)=p∧Qbw (QcY p)=QcY p:=by
 unfold QcY at h ⊢
 by_cases h1:p=48862
 ·rw [if_pos h1];exact ⟨.inl rfl,h1.symm,rfl⟩
 ·rw [if_neg h1] at h ⊢
  by_cases h2:p=4096
  ·rw [if_pos h2];exact ⟨.inr rfl,h2.symm,rfl⟩
  ·rw [if_neg h2] at h;exact absurd rfl h
theorem QlU (n:Int) (h:Qbw n≠0):(Qbw n=1∨Qbw n=2)∧((Qbw n:Nat):Int)=n:=by
 unfold Qbw at h ⊢
 by_cases h1:n=1
 ·rw [if_pos h1];exact ⟨.inl rfl,h1.symm⟩
 ·rw [if_neg h1] at h ⊢
  by_cases h2:n=2
  ·rw [if_pos h2];exact ⟨.inr rfl,h2.symm⟩
  ·rw [if_neg h2] at h;exact absurd rfl h
theorem Qnf (n:Int) (l:List E5) (h:(QdZ n l).2.2=0):Qbk (QdZ n l).1 (QdZ n l).2.1=(n,l,0):=by
 unfold QdZ at h ⊢
 by_cases h1:Qbw n=0
 ·rw [if_pos h1] at h;cases h
 rw [if_neg h1] at h ⊢
 by_cases h2:l.all (Qhm (Qbw n))=true∧(Qcp (Qbw n) l).length≤262140
 ·rw [if_pos h2]
  obtain ⟨q1,q2⟩:=QlU n h1
  unfold Qbk
  dsimp only
  rw [QjK _ q1,if_neg h1,if_neg (by rw [Qqe];decide),Qqd _ q1 l h2.1,if_pos rfl,q2]
 ·rw [if_neg h2] at h;cases h
end Go.Proofs.YthfocmakkeonoaaGreatDoor
namespace Go.Proofs.YthfocmakkeonoaaGreatDoor
open Go.RowKit
def QA7 (f:Nat):FuncId:=if f=1 then 163 else 165
def rdK (f:Nat):FuncId:=if f=1 then 164 else 166
abbrev QiF (f:Nat):List V:=[vi (Qwy f),vi (Qbz f),vi (Qdt f),vi (QgH f),vfn (QA7 f),vfn (rdK f)]
def QdT:List (Value × T):=[(.int .i64 1,.av (.agg (QiF 1))),(.int .i64 2,.av (.agg (QiF 2)))]
abbrev e5L (x:E5):List V:=[vi x.id,vs x.data]
def Qqf (x:E5):List V:=e5L x
attribute [go_sem] Qqf
theorem QeG:Qan Tryz.prog 110 [] [] (.ca (.hd (.mp QdT))) []:=by
 refine Qaa Tryz.func110 rfl Tryz.ntmps110 Tryz.results110 ⟨by decide,by simp⟩ fun C hC=>?_
 repeat first | refine sp_ ?_ | exact ex0
 (refine Qap [] ?_;simp (decide:=true) (disch:=omega) only [go_sem,↓reduceIte,↓Qad])
 rfl
theorem QlV {f:Nat} (h:f=1∨f=2):Qdc QdT (.int .i64 f)=some (.av (.agg (QiF f))):=by
 unfold QdT
 rcases h with rfl | rfl
 ·rw [QcQ,if_pos (by rfl)]
 ·rw [QcQ,if_neg (by simp),QcQ,if_pos (by rfl)]
theorem Qqg {n:Int} (h:Qbw n=0):Qdc QdT (.int .i64 n)=none:=by
 have h1:n≠1:=fun e=>by subst e;cases h
 have h2:n≠2:=fun e=>by subst e;cases h
 unfold QdT
 rw [QcQ,if_neg (by simp [Ne.symm h1]),QcQ,if_neg (by simp [Ne.symm h2]),Qlh]
theorem QjL:QeX (.int .i64) (QdT.map (·.1)):=⟨rfl,rfl,trivial⟩
theorem Qqh (x:E5) (hx:Qhm 1 x=true) (l:List UInt8) (hl:l.length≤1099511627776):Qan Tryz.prog 163 [.ptr 0 0,.ca (.val (.agg (e5L x)))] [QeZ l] (.ca (.val (.tup []))) [QeZ (l++Qej 1 x)]:=by
 obtain ⟨i,d⟩:=x
 obtain ⟨h1,h2,h3,h4⟩:=(Qf2 _ _).1 hx
 have m1:Qbz 1=14:=rfl
 have m2:QgH 1=16:=rfl
 have m3:Qdt 1=1:=rfl
 dsimp only at h1 h2 h3 h4 ⊢
 have c:=QdS l [16 * i+(d.length:Int)-1] (by simp only [List.length_cons,List.length_nil];omega)
 have e:Qah 1 [16 * i+(d.length:Int)-1]=Qej 1 ⟨i,d⟩:=by simp [Qah,Qej]
 have b:bits .or .i64 (i * 16) ((d.length:Int)-1)=16 * i+(d.length:Int)-1:=by
  rw [Qhp 4 _ _ (by omega) (by omega) (by omega) (by omega) (by omega) (by omega)];omega
 rw [e] at c
 refine Qaa Tryz.func163 rfl Tryz.ntmps163 Tryz.results163 ⟨by decide,by simp⟩ fun C hC=>?_
 repeat first | refine sp_ ?_ | exact ex0
 simp only [b]
 refine Qac Tryz.call18 c [(1000,0)] ?_
 repeat first | refine sp_ ?_ | exact ex0
 exact re0 []
theorem Qqi (x:E5) (hx:Qhm 2 x=true) (l:List UInt8) (hl:l.length≤1099511627776):Qan Tryz.prog 165 [.ptr 0 0,.ca (.val (.agg (e5L x)))] [QeZ l] (.ca (.val (.tup []))) [QeZ (l++Qej 2 x)]:=by
 obtain ⟨i,d⟩:=x
 have c:=QdS l [i,(d.length:Int)] (by simp only [List.length_cons,List.length_nil];omega)
 have e:Qah 1 [i,(d.length:Int)]=Qej 2 ⟨i,d⟩:=by simp [Qah,Qej]
 rw [e] at c
 refine Qaa Tryz.func165 rfl Tryz.ntmps165 Tryz.results165 ⟨by decide,by simp⟩ fun C hC=>?_
 repeat first | refine sp_ ?_ | exact ex0
 refine Qac Tryz.call18 c [(1000,0)] ?_
 repeat first | refine sp_ ?_ | exact ex0
 exact re0 []
theorem Qqj (l:List UInt8) (e:Int) (b:Nat) (hb:b<256):Qan Tryz.prog 164 [.ptr 0 0,.ca (.val (vi b))] [inO l e] (.ca (.val (.tup [vi (b / 16:Nat),vi (b % 16+1:Nat)]))) [inO l e]:=by
 refine Qaa Tryz.func164 rfl Tryz.ntmps164 Tryz.results164 ⟨by decide,by simp⟩ fun C hC=>?_
 repeat first | refine sp_ ?_ | exact ex0
 (refine Qap [] ?_;simp (decide:=true) (disch:=omega) only [go_sem,↓reduceIte,↓Qad])
 exact ⟨by omega,by omega⟩
theorem Qqk (l:List UInt8) (e:Int) (b:Nat) (hl:l.length≤maxLen):Qan Tryz.prog 166 [.ptr 0 0,.ca (.val (vi b))] [inO l e] (.ca (.val (.tup [vi b,vi (QaP (QbB l 1))]))) [inO (Qct l e 1) (QdY l e 1)]:=by
 refine Qaa Tryz.func166 rfl Tryz.ntmps166 Tryz.results166 ⟨by decide,by simp⟩ fun C hC=>?_
 repeat first | refine sp_ ?_ | exact ex0
 refine Qac Tryz.call122 (Qp6 l e hl) [(1000,0)] ?_
 repeat first | refine sp_ ?_ | exact ex0
 exact re0 []
theorem QwD {f:Nat} (hf:f=1∨f=2):∀ (args:Array Value) (w:World),(callFunc (QA7 f) args).run Tryz.prog w=.ok (.enter (QA7 f) args) w:=by
 rcases hf with rfl | rfl
 ·exact Tryz.call163
 ·exact Tryz.call165
theorem QkA {f:Nat} (hf:f=1∨f=2):∀ (args:Array Value) (w:World),(callFunc (rdK f) args).run Tryz.prog w=.ok (.enter (rdK f) args) w:=by
 rcases hf with rfl | rfl
 ·exact Tryz.call164
 ·exact Tryz.call166
theorem Qtj (f:Nat) (hf:f=1∨f=2) (x:E5) (hx:Qhm f x=true) (l:List UInt8) (hl:l.length≤1099511627776):Qan Tryz.prog (QA7 f) [.ptr 0 0,.ca (.val (.agg (e5L x)))] [QeZ l] (.ca (.val (.tup []))) [QeZ (l++Qej f x)]:=by
 rcases hf with rfl | rfl
 ·exact Qqh x hx l hl
 ·exact Qqi x hx l hl
def Qng (f:Nat) (t:List UInt8):Int:=if f≠1∧t=[] then 2 else 0
theorem Qtk (f:Nat) (hf:f=1∨f=2) (b:UInt8) (t:List UInt8) (hl:t.length≤maxLen):Qan Tryz.prog (rdK f) [.ptr 0 0,.ca (.val (vi b.toNat))] [inO t 0] (.ca (.val (.tup [vi (id5 f b),vi (QcX f b t)]))) [inO (Qbi f t) (Qng f t)]:=by
 rcases hf with rfl | rfl
 ·exact Qqj t 0 b.toNat b.toNat_lt
 ·have h:=Qqk t 0 b.toNat hl
  have e1:QaP (QbB t 1)=QcX 2 b t:=by
   cases t with
   | nil=>rfl
   | cons c t=>
    have:QbB (c::t) 1=[c]:=by unfold QbB;rw [if_pos (by simp only [List.length_cons];omega)];rfl
    rw [this]
    simp [QaP,QcX]
  have e2:Qct t 0 1=Qbi 2 t:=by
   cases t with
   | nil=>rfl
   | cons c t=>unfold Qct;rw [if_pos (by simp only [List.length_cons];omega)];rfl
  have e3:QdY t 0 1=Qng 2 t:=by
   cases t with
   | nil=>rfl
   | cons c t=>unfold QdY Qng;rw [if_pos (by simp only [List.length_cons];omega),if_neg (fun h=>by cases h.2)]
  rw [e1,e2,e3] at h
  exact h
theorem QjM (s:List UInt8) (hl:s.length≤maxLen):Qan Tryz.prog 212 [.ca (.val (vs s))] [] (.ca (.val (vb (decide (s=QiD s.length))))) []:=by
 have h:=Qoz s
 have c:=QCw s hl
 generalize Lib.trimB s 0=t at *
 have hb:(t == [])=decide (s=QiD s.length):=by
  have h':t=[]↔s=QiD s.length:=h
  by_cases g:t=[]
  ·rw [decide_eq_true (h'.1 g),g];rfl
  ·rw [decide_eq_false (fun k=>g (h'.2 k))];simpa using g
 refine Qaa Tryz.func212 rfl Tryz.ntmps212 Tryz.results212 ⟨by decide,by simp⟩ fun C hC=>?_
 repeat first | refine sp_ ?_ | exact ex0
 refine Qac Tryz.call175 c [] ?_
 repeat first | refine sp_ ?_ | exact ex0
 simp only [hb]
 repeat first | refine sp_ ?_ | exact ex0
 exact re0 []
theorem QwE (f:Nat) (x:E5) (hf:f=1∨f=2) (hl:x.data.length≤maxLen):Qan Tryz.prog 111 [.ca (.val (.agg (QiF f))),.ca (.val (.agg (e5L x)))] [] (.ca (.val (vb (Qhm f x)))) []:=by
 obtain ⟨i,d⟩:=x
 unfold maxLen at hl
 obtain ⟨M,hM⟩:∃ M,M=Qhm f ⟨i,d⟩:=⟨_,rfl⟩
 rw [←hM]
 unfold Qhm at hM
 have hb:0≤Qbz f∧Qbz f≤255∧0≤Qdt f∧Qdt f≤1∧0≤QgH f∧QgH f≤255:=by
  rcases hf with rfl | rfl <;> decide
 dsimp only at hM hl ⊢
 dsimp only [QiF]
 generalize Qbz f=A at *
 generalize Qdt f=B at *
 generalize QgH f=D at *
 generalize Qwy f=G at *
 by_cases g1:1≤i
 ·by_cases g2:i≤A
  ·by_cases g3:B≤(d.length:Int)
   ·by_cases g4:(d.length:Int)≤D
    ·rw [decide_eq_true ⟨g1,g2,g3,g4⟩] at hM
     subst hM
     refine Qaa Tryz.func111 rfl Tryz.ntmps111 Tryz.results111 ⟨by decide,by simp⟩ fun C hC=>?_
     repeat first | refine sp_ ?_ | exact ex0
     exact re0 []
    ·rw [decide_eq_false (fun h=>g4 h.2.2.2)] at hM
     subst hM
     refine Qaa Tryz.func111 rfl Tryz.ntmps111 Tryz.results111 ⟨by decide,by simp⟩ fun C hC=>?_
     repeat first | refine sp_ ?_ | exact ex0
     exact re0 []
   ·rw [decide_eq_false (fun h=>g3 h.2.2.1)] at hM
    subst hM
    refine Qaa Tryz.func111 rfl Tryz.ntmps111 Tryz.results111 ⟨by decide,by simp⟩ fun C hC=>?_
    repeat first | refine sp_ ?_ | exact ex0
    exact re0 []
  ·rw [decide_eq_false (fun h=>g2 h.2.1)] at hM
   subst hM
   refine Qaa Tryz.func111 rfl Tryz.ntmps111 Tryz.results111 ⟨by decide,by simp⟩ fun C hC=>?_
   repeat first | refine sp_ ?_ | exact ex0
   exact re0 []
 ·rw [decide_eq_false (fun h=>g1 h.1)] at hM
  subst hM
  refine Qaa Tryz.func111 rfl Tryz.ntmps111 Tryz.results111 ⟨by decide,by simp⟩ fun C hC=>?_
  repeat first | refine sp_ ?_ | exact ex0
  exact re0 []
theorem Qnh (p:Int):Qan Tryz.prog 211 [.ca (.val (vi p))] [] (.ca (.val (vi (QcY p)))) []:=by
 refine Qaa Tryz.func211 rfl Tryz.ntmps211 Tryz.results211 ⟨by decide,by simp⟩ fun C hC=>?_
 repeat first | refine sp_ ?_ | exact ex0
 refine Qac Tryz.call110 QeG [] ?_
 repeat first | refine sp_ ?_ | exact ex0
 refine QaD (α:={s:List Nat // s.Nodup∧∀ i∈s,i<2∧Qwy (i+1)≠p}) (fun s=>[(.s 0,.av (.val (vi p))),(.s 6,.av (.ptr (6,0) 0 0)),(.o (6,0),.itr (5,1) 0 s.1),(.r (5,1),.tree (.mp QdT))]) (fun s=>2-s.1.length) ⟨[],by simp⟩ ?_ (fun s=>?_)
 ·exact ex0
 ·obtain ⟨s,hn,hs⟩:=s
  dsimp only at hn hs ⊢
  repeat first | refine sp_ ?_ | exact ex0
  refine QB3 (6,0) (5,1) s QdT ex0 (fun i q hq hi=>?_) (fun hall=>?_)
  ·have hi2:i<2:=(List.getElem?_eq_some_iff.1 hq).1
   have hnew:=QfT 2 (s++[i]) (Qgz hn hi) (fun j hj=>by
    rcases List.mem_append.1 hj with hj | hj
    ·exact (hs j hj).1
    ·simp at hj;omega)
   rw [List.length_append,List.length_singleton] at hnew
   have hlast:(s++[i]).getLast? = some i:=by simp
   obtain ⟨f,hf,hfi,rfl⟩:∃ f:Nat,(f=1∨f=2)∧i+1=f∧q=(.int .i64 f,.av (.agg (QiF f))):=by
    rcases (show i=0∨i=1 by omega) with rfl | rfl
    ·exact ⟨1,.inl rfl,rfl,by simpa [QdT] using hq.symm⟩
    ·exact ⟨2,.inr rfl,rfl,by simpa [QdT] using hq.symm⟩
   have e1:(QdT.map (·.1)).getD i undef=.int .i64 f:=by simp [List.getD_eq_getElem?_getD,hq]
   have e2:(QdT.map (·.2))[i]? = some (.av (.agg (QiF f))):=by simp [hq]
   refine sx_ ?_
   repeat first | refine sp_ ?_ | exact ex0
   simp only [hlast,e1,e2]
   by_cases hp:Qwy f=p
   ·have hfn:QcY p=f:=by
     rw [←hp]
     exact QjK f hf
    rw [hfn]
    repeat first | refine sp_ ?_ | exact ex0
    exact re0 []
   ·repeat first | refine sp_ ?_ | exact ex0
    refine Qau ⟨s++[i],Qgz hn hi,fun j hj=>?_⟩ ⟨?_,by dsimp only;rw [List.length_append,List.length_singleton];omega⟩
    ·rcases List.mem_append.1 hj with hj | hj
     ·exact hs j hj
     ·simp at hj
      subst hj
      rw [hfi]
      exact ⟨hi2,hp⟩
    ·exact ex0
  ·have h0:=hs 0 (hall 0 (by decide))
   have h1:=hs 1 (hall 1 (by decide))
   have hp:QcY p=0:=by
    unfold QcY
    rw [if_neg (fun e=>h0.2 e.symm),if_neg (fun e=>h1.2 e.symm)]
   rw [hp]
   refine sx_ ?_
   repeat first | refine sp_ ?_ | exact ex0
   exact re0 []
end Go.Proofs.YthfocmakkeonoaaGreatDoor
namespace Go.Proofs.YthfocmakkeonoaaGreatDoor
open Go.RowKit
theorem Qtl (f:Nat) (l:List E5) (x:E5):Qek f (l++[x])=Qek f l++QeQ f x:=by unfold Qek;simp
theorem QoB (f:Nat) (l m:List E5):Qek f (l++m)=Qek f l++Qek f m:=by unfold Qek;simp
theorem QlW (f:Nat) (l:List E5) (j:Nat):(Qek f (l.take j)).length≤(Qek f l).length:=by
 have h:=congrArg (fun l=>(Qek f l).length) (List.take_append_drop j l)
 simp only [QoB,List.length_append] at h
 omega
theorem QlX (f:Nat) (l:List E5) (x:E5) (h:x∈l):x.data.length≤(Qek f l).length:=by
 obtain ⟨a,b,rfl⟩:=List.append_of_mem h
 rw [QoB,List.length_append]
 unfold Qek
 rw [List.flatMap_cons,List.length_append]
 unfold QeQ
 rw [List.length_append]
 omega
theorem QwF (f:Nat) (l:List E5) (j:Nat) (hj:j<l.length) (h:(l.take j).all (Qhm f)=true) (hx:Qhm f l[j]=true):(l.take (j+1)).all (Qhm f)=true:=by
 rw [List.take_succ_eq_append_getElem hj,List.all_append,h]
 simp [hx]
theorem QzM (f:Nat) (l:List E5) (j:Nat) (hj:j<l.length) (hx:Qhm f l[j]=false):l.all (Qhm f)=false:=by
 rw [List.all_eq_false]
 exact ⟨l[j],List.getElem_mem hj,by rw [hx];decide⟩
theorem Qtm (n:Int) (l:List E5) (hl:l.length≤maxLen) (hr:(Qek (Qbw n) l).length≤1000000000):Qan Tryz.prog 51 [.ca (.val (vi n)),.ca (.val (.lst 2 (l.map Qqf)))] [] (.ca (.val (.tup [vi (QdZ n l).1,vs (QdZ n l).2.1,vi (QdZ n l).2.2]))) []:=by
 have hkeys:=QjL
 unfold maxLen at hl
 by_cases h0:Qbw n=0
 ·have e:QdZ n l=(0,[],5):=by unfold QdZ;rw [if_pos h0]
  have hg:=Qqg h0
  rw [e]
  refine Qaa Tryz.func51 rfl Tryz.ntmps51 Tryz.results51 ⟨by decide,by simp⟩ fun C hC=>?_
  repeat first | refine sp_ ?_ | exact ex0
  refine Qac Tryz.call110 QeG [] ?_
  repeat first | refine sp_ ?_ | exact ex0
  simp only [hg,Option.isSome_none]
  repeat first | refine sp_ ?_ | exact ex0
  exact re0 []
 obtain ⟨hf,hfn⟩:=QlU n h0
 obtain ⟨R,hR⟩:∃ R,R=QdZ n l:=⟨_,rfl⟩
 rw [←hR]
 unfold QdZ at hR
 rw [if_neg h0] at hR
 generalize Qbw n=f at *
 subst hfn
 have hg:=QlV hf
 have hbad:∀ j,(hj:j<l.length)→Qhm f l[j]=false→R=(0,[],6):=fun j hj hx=>by
  rw [hR,QzM f l j hj hx,if_neg (by rintro ⟨h,_⟩;cases h)]
 refine Qaa Tryz.func51 rfl Tryz.ntmps51 Tryz.results51 ⟨by decide,by simp⟩ fun C hC=>?_
 repeat first | refine sp_ ?_ | exact ex0
 refine Qac Tryz.call110 QeG [] ?_
 repeat first | refine sp_ ?_ | exact ex0
 simp only [hg,Option.isSome_some]
 (repeat ((fail_if_success (refine Qat 6 ?_));(first | refine sp_ ?_ | exact ex0)))
 refine Qb2 (9,0) 0 (9,1) 5 1 ?_
 refine sx_ ?_
 refine QaD (α:={j:Nat // j≤l.length∧(l.take j).all (Qhm f)=true}) (fun j=>[(.s 0,.av (.val (vi f))),(.s 7,.av (.ptr (7,0) 0 0)),(.o (7,0),.num 6),(.c (7,0) 0,.av (.val (vi (Qwy f)))),(.c (7,0) 1,.av (.val (vi (Qbz f)))),(.c (7,0) 2,.av (.val (vi (Qdt f)))),(.c (7,0) 3,.av (.val (vi (QgH f)))),(.c (7,0) 4,.av (.val (vfn (QA7 f)))),(.c (7,0) 5,.av (.val (vfn (rdK f)))),(.s 9,.av (.ptr (9,0) 0 0)),(.o (9,0),.num 1),(.c (9,0) 0,.av (.own (9,1) 0 5 1 ((Qek f (l.take j.1)).map QaG))),(.k (9,1),.row 5 1 ((Qek f (l.take j.1)).map QaG).length),(.s 20,.av (.val (.lst 2 (l.map Qqf)))),(.s 21,.av (.val (vi l.length))),(.s 22,.av (.val (vi j.1)))]) (fun j=>l.length-j.1) ⟨0,Nat.zero_le _,rfl⟩ ?_ (fun j=>?_)
 ·simp only [List.take_zero,Qek,List.flatMap_nil]
  exact ex0
 ·obtain ⟨j,hj,ha⟩:=j
  dsimp only at hj ha ⊢
  have hrj:=QlW f l j
  by_cases hlt:j<l.length
  ·have hs:l.take (j+1)=l.take j++[l[j]]:=List.take_succ_eq_append_getElem hlt
   have hrj1:=QlW f l (j+1)
   have hdl:=QlX f l l[j] (List.getElem_mem hlt)
   have hsn:=Qtl f (l.take j) l[j]
   rw [←hs] at hsn
   have c1:=QwE f l[j] hf (by unfold maxLen;omega)
   cases hm:Qhm f l[j] with
   | false=>
    rw [hm] at c1
    rw [hbad j hlt hm]
    repeat first | refine sp_ ?_ | exact ex0
    refine Qac Tryz.call111 c1 [] ?_
    repeat first | refine sp_ ?_ | exact ex0
    exact re0 []
   | true=>
    rw [hm] at c1
    have hal:=QwF f l j hlt ha hm
    rw [hsn] at hrj1
    have c2:=Qtj f hf l[j] hm (Qek f (l.take j)) (by omega)
    have c3:=Qei (Qek f (l.take j)++Qej f l[j]) [l[j].data] (by
     simp only [List.flatten_cons,List.flatten_nil,List.append_nil]
     unfold QeQ at hrj1
     simp only [List.length_append] at hrj1 ⊢
     omega) (by simp)
    have e3:(Qek f (l.take j)++Qej f l[j])++[l[j].data].flatten=Qek f (l.take (j+1)):=by rw [hsn];simp [QeQ]
    rw [e3] at c3
    repeat first | refine sp_ ?_ | exact ex0
    refine Qac Tryz.call111 c1 [] ?_
    repeat first | refine sp_ ?_ | exact ex0
    refine Qgy (QwD hf) c2 [(9,0)] [] ?_
    repeat first | refine sp_ ?_ | exact ex0
    refine Qac Tryz.call60 c3 [(9,0)] ?_
    repeat first | refine sp_ ?_ | exact ex0
    refine Qau ⟨j+1,hlt,hal⟩ ⟨?_,by dsimp only;omega⟩
    exact ex0
  ·have hjl:l.take j=l:=List.take_of_length_le (by omega)
   have ha2:l.all (Qhm f)=true:=hjl ▸ ha
   simp only [hjl]
   obtain ⟨B,hB⟩:∃ B,B=Qek f l:=⟨_,rfl⟩
   rw [←hB] at hr ⊢
   have c1:=Qa3 B (by omega)
   have c2:=QCv (Qq5 B.length) (by have:=Qne B.length;omega)
   have ep:(4-(B.length:Int) % 4) % 4=(Qq5 B.length:Int):=by unfold Qq5;omega
   have hz:=Qf1 (Qq5 B.length)
   have hpl:=Qne B.length
   unfold Qcp at hR
   rw [←hB] at hR
   have hbl:(B++QiD (Qq5 B.length)).length=B.length+Qq5 B.length:=by rw [List.length_append,hz]
   rw [ha2,hbl] at hR
   by_cases hm:B.length+Qq5 B.length≤262140
   ·rw [if_pos ⟨rfl,hm⟩] at hR
    subst hR
    repeat first | refine sp_ ?_ | exact ex0
    refine Qac Tryz.call22 c1 [(9,0)] ?_
    repeat first | refine sp_ ?_ | exact ex0
    simp only [ep]
    refine Qac Tryz.call57 c2 [] ?_
    repeat first | refine sp_ ?_ | exact ex0
    exact re0 []
   ·rw [if_neg (fun h=>hm h.2)] at hR
    subst hR
    repeat first | refine sp_ ?_ | exact ex0
    refine Qac Tryz.call22 c1 [(9,0)] ?_
    repeat first | refine sp_ ?_ | exact ex0
    simp only [ep]
    refine Qac Tryz.call57 c2 [] ?_
    repeat first | refine sp_ ?_ | exact ex0
    exact re0 []
end Go.Proofs.YthfocmakkeonoaaGreatDoor
namespace Go.Proofs.YthfocmakkeonoaaGreatDoor
open Go.RowKit
def QE3 (f:Nat) (s:List UInt8) (x:(List UInt8 × Int) × List E5):Prop:=((x.1.2=0∧go5 f s=Qkz x.2 (go5 f x.1.1))∨(x.1.1=[]∧x.1.2=2∧go5 f s=([],2)))∧x.1.1.length+x.2.length≤s.length
theorem Qtn (f:Nat) (s:List UInt8) (b:UInt8) (t:List UInt8) (out:List E5) (h:go5 f s=Qkz out (go5 f (b::t))) (hl:(b::t).length+out.length≤s.length) (hb:b≠0) (hi:¬(id5 f b=0∨Qbz f<(id5 f b:Int))) :
  QE3 f s ((Qct (Qbi f t) (Qng f t) (QcX f b t),QdY (Qbi f t) (Qng f t) (QcX f b t)),out++[⟨id5 f b,QbB (Qbi f t) (QcX f b t)⟩])∧(Qct (Qbi f t) (Qng f t) (QcX f b t)).length<(b::t).length:=by
 have hr:=Qel f t
 rw [Qc8,if_neg hb,if_neg hi] at h
 rw [List.length_cons] at hl ⊢
 by_cases hs:QiE f b t
 ·rw [if_pos hs] at h
  have hg:go5 f s=([],2):=by rw [h];rfl
  have key:Qct (Qbi f t) (Qng f t) (QcX f b t)=[]∧QdY (Qbi f t) (Qng f t) (QcX f b t)=2:=by
   rcases hs with ⟨h1,h2⟩ | h1
   ·subst h2
    have e1:Qbi f []=[]:=by unfold Qbi;rw [if_neg h1];rfl
    have e2:QcX f b []=0:=by unfold QcX;rw [if_neg h1];rfl
    have e3:Qng f []=2:=by unfold Qng;rw [if_pos ⟨h1,rfl⟩]
    rw [e1,e2,e3]
    exact ⟨rfl,rfl⟩
   ·by_cases h2:f≠1∧t=[]
    ·obtain ⟨h2,rfl⟩:=h2
     have e2:QcX f b []=0:=by unfold QcX;rw [if_neg h2];rfl
     rw [e2] at h1
     exact absurd h1 (by omega)
    ·have e3:Qng f t=0:=by unfold Qng;rw [if_neg h2]
     have hn:¬((QcX f b t:Int)≤((Qbi f t).length:Int)):=by omega
     rw [e3]
     unfold Qct QdY Qhk Qkx
     rw [if_neg hn,if_neg hn]
     exact ⟨rfl,rfl⟩
  rw [key.1,key.2]
  exact ⟨⟨.inr ⟨rfl,rfl,hg⟩,by simp;omega⟩,by simp⟩
 ·rw [if_neg hs] at h
  have hle:(QcX f b t:Int)≤((Qbi f t).length:Int):=by
   apply Int.ofNat_le.2
   exact Nat.le_of_not_lt (fun h=>hs (.inr h))
  have e3:Qng f t=0:=by unfold Qng;rw [if_neg (fun h=>hs (.inl h))]
  have e1:Qct (Qbi f t) 0 (QcX f b t)=(Qbi f t).drop (QcX f b t):=by unfold Qct;rw [if_pos hle];rfl
  have e2:QdY (Qbi f t) 0 (QcX f b t)=0:=by unfold QdY;rw [if_pos hle]
  have e4:QbB (Qbi f t) (QcX f b t)=(Qbi f t).take (QcX f b t):=by unfold QbB;rw [if_pos hle];rfl
  rw [e3,e1,e2,e4]
  refine ⟨⟨.inl ⟨rfl,?_⟩,?_⟩,?_⟩
  ·dsimp only
   rw [h,QwA]
  ·dsimp only
   rw [List.length_drop,List.length_append,List.length_singleton];omega
  ·rw [List.length_drop];omega
theorem Qql (p:Int) (s:List UInt8) (hl:s.length≤1000000):Qan Tryz.prog 176 [.ca (.val (vi p)),.ca (.val (vs s))] [] (.ca (.val (.tup [vi (Qbk p s).1,.lst 2 ((Qbk p s).2.1.map Qqf),vi (Qbk p s).2.2]))) []:=by
 have hkeys:=QjL
 have c0:=Qnh p
 obtain ⟨R,hR⟩:∃ R,R=Qbk p s:=⟨_,rfl⟩
 rw [←hR]
 unfold Qbk at hR
 by_cases h0:QcY p=0
 ·rw [if_pos h0] at hR
  rw [h0] at c0
  subst hR
  refine Qaa Tryz.func176 rfl Tryz.ntmps176 Tryz.results176 ⟨by decide,by simp⟩ fun C hC=>?_
  repeat first | refine sp_ ?_ | exact ex0
  refine Qac Tryz.call211 c0 [] ?_
  repeat first | refine sp_ ?_ | exact ex0
  exact re0 []
 rw [if_neg h0] at hR
 obtain ⟨hf,_,_⟩:=QoA p h0
 generalize QcY p=f at *
 have hf12:(f:Int)=1∨(f:Int)=2:=by omega
 by_cases h4:s.length % 4≠0
 ·rw [if_pos h4] at hR
  have h4':(s.length:Int) % 4≠0:=by omega
  subst hR
  refine Qaa Tryz.func176 rfl Tryz.ntmps176 Tryz.results176 ⟨by decide,by simp⟩ fun C hC=>?_
  repeat first | refine sp_ ?_ | exact ex0
  refine Qac Tryz.call211 c0 [] ?_
  repeat first | refine sp_ ?_ | exact ex0
  exact re0 []
 rw [if_neg h4] at hR
 have h4':(s.length:Int) % 4=0:=by omega
 have hg:=QlV hf
 have hmi:0≤Qbz f∧Qbz f≤255:=by rcases hf with rfl | rfl <;> decide
 refine Qaa Tryz.func176 rfl Tryz.ntmps176 Tryz.results176 ⟨by decide,by simp⟩ fun C hC=>?_
 repeat first | refine sp_ ?_ | exact ex0
 refine Qac Tryz.call211 c0 [] ?_
 repeat first | refine sp_ ?_ | exact ex0
 refine Qac Tryz.call110 QeG [] ?_
 repeat first | refine sp_ ?_ | exact ex0
 simp only [hg]
 repeat first | refine sp_ ?_ | exact ex0
 refine Qac Tryz.call121 (Qe0 s) [] ?_
 (repeat ((fail_if_success (refine Qat 9 ?_));(first | refine sp_ ?_ | exact ex0)))
 refine Qij 9 (9,0) 86 2 ?_
 refine sx_ ?_
 refine QaD (α:={x:(List UInt8 × Int) × List E5 // QE3 f s x}) (fun x=>[(.s 7,.av (.val (vi f))),(.s 8,.av (.ptr (8,0) 0 0)),(.o (8,0),.num 6),(.c (8,0) 0,.av (.val (vi (Qwy f)))),(.c (8,0) 1,.av (.val (vi (Qbz f)))),(.c (8,0) 2,.av (.val (vi (Qdt f)))),(.c (8,0) 3,.av (.val (vi (QgH f)))),(.c (8,0) 4,.av (.val (vfn (QA7 f)))),(.c (8,0) 5,.av (.val (vfn (rdK f)))),(.s 9,.av (.own (9,0) 0 86 2 (x.1.2.map Qqf))),(.k (9,0),.row 86 2 (x.1.2.map Qqf).length),(.s 10,.av (.ptr (28,0) 0 0)),(.o (28,0),.num 2),(.c (28,0) 0,.av (.val (vs x.1.1.1))),(.c (28,0) 1,.av (.val (vi x.1.1.2)))]) (fun x=>x.1.1.1.length) ⟨((s,0),[]),.inl ⟨rfl,by rw [Qwz _ (QzK f s)]⟩,Nat.le_refl _⟩ ?_ (fun x=>?_)
 ·exact ex0
 ·obtain ⟨⟨⟨l,e⟩,out⟩,hinv,hll⟩:=x
  dsimp only at hinv hll ⊢
  cases l with
  | nil=>
   have c1:=Qcz [] e
   have c2:=Qs4 [] e
   have he:(e=0∧R=((f:Int),out,0))∨(e=2∧R=(0,[],2)):=by
    rcases hinv with ⟨h1,h2⟩ | ⟨_,h1,h2⟩
    ·left
     rw [Qfj] at h2
     have h3:go5 f s=(out,0):=by rw [h2];simp [Qkz]
     rw [h3,if_pos rfl] at hR
     exact ⟨h1,hR⟩
    ·right
     rw [h2,if_neg (by decide)] at hR
     exact ⟨h1,hR⟩
   rcases he with ⟨rfl,hR2⟩ | ⟨rfl,hR2⟩
   ·rw [hR2]
    repeat first | refine sp_ ?_ | exact ex0
    refine Qac Tryz.call126 c1 [(28,0)] ?_
    repeat first | refine sp_ ?_ | exact ex0
    refine Qac Tryz.call127 c2 [(28,0)] ?_
    repeat first | refine sp_ ?_ | exact ex0
    exact re0 []
   ·rw [hR2]
    repeat first | refine sp_ ?_ | exact ex0
    refine Qac Tryz.call126 c1 [(28,0)] ?_
    repeat first | refine sp_ ?_ | exact ex0
    refine Qac Tryz.call127 c2 [(28,0)] ?_
    repeat first | refine sp_ ?_ | exact ex0
    exact re0 []
  | cons b t=>
   obtain ⟨rfl,hgo⟩:e=0∧go5 f s=Qkz out (go5 f (b::t)):=by
    rcases hinv with h | ⟨h,_⟩
    ·exact h
    ·cases h
   have hbt:b.toNat<256:=b.toNat_lt
   rw [List.length_cons] at hll
   have c1:=Qcz (b::t) 0
   have c2:=Qp6 (b::t) 0 (by rw [List.length_cons];unfold maxLen;omega)
   have e1:QbB (b::t) 1=[b]:=by unfold QbB;rw [if_pos (by simp only [List.length_cons];omega)];rfl
   have e2:Qct (b::t) 0 1=t:=by unfold Qct;rw [if_pos (by simp only [List.length_cons];omega)];rfl
   have e3:QdY (b::t) 0 1=0:=by unfold QdY;rw [if_pos (by simp only [List.length_cons];omega)]
   have e4:QaP [b]=b.toNat:=by simp [QaP]
   rw [e1,e2,e3,e4] at c2
   rw [List.length_cons] at c1
   by_cases hb:b=0
   ·subst hb
    have e5:((0:UInt8).toNat:Int)=0:=rfl
    rw [e5] at c2
    rw [Qc8,if_pos rfl] at hgo
    by_cases hz:t.length<3∧t=QiD t.length
    ·have hgo2:go5 f s=(out,0):=by rw [hgo,if_pos hz];simp [Qkz]
     rw [hgo2,if_pos rfl] at hR
     have d1:=Qcz t 0
     have d2:=Qe1 t 0 t.length (by unfold maxLen;omega) (by unfold maxLen;omega)
     have t1:QbB t t.length=t:=by unfold QbB;rw [if_pos (by omega),Int.toNat_natCast,List.take_length]
     have t2:Qct t 0 t.length=[]:=by unfold Qct;rw [if_pos (by omega),Int.toNat_natCast,List.drop_length]
     have t3:QdY t 0 t.length=0:=by unfold QdY;rw [if_pos (by omega)]
     rw [t1,t2,t3] at d2
     have d3:=QjM t (by unfold maxLen;omega)
     rw [decide_eq_true hz.2] at d3
     have d4:=Qs4 [] 0
     have hz3:=hz.1
     subst hR
     repeat first | refine sp_ ?_ | exact ex0
     refine Qac Tryz.call126 c1 [(28,0)] ?_
     repeat first | refine sp_ ?_ | exact ex0
     refine Qac Tryz.call126 c1 [(28,0)] ?_
     repeat first | refine sp_ ?_ | exact ex0
     refine Qac Tryz.call122 c2 [(28,0)] ?_
     repeat first | refine sp_ ?_ | exact ex0
     refine Qbt Tryz.call126 d1 [(28,0)] ?_
     repeat first | refine sp_ ?_ | exact ex0
     refine Qbt Tryz.call125 d2 [(28,0)] ?_
     repeat first | refine sp_ ?_ | exact ex0
     refine Qbt Tryz.call212 d3 [] ?_
     repeat first | refine sp_ ?_ | exact ex0
     refine Qac Tryz.call127 d4 [(28,0)] ?_
     repeat first | refine sp_ ?_ | exact ex0
     exact re0 []
    ·have hgo2:go5 f s=([],1):=by rw [hgo,if_neg hz];rfl
     rw [hgo2,if_neg (by decide)] at hR
     subst hR
     by_cases hz3:t.length<3
     ·have d1:=Qcz t 0
      have d2:=Qe1 t 0 t.length (by unfold maxLen;omega) (by unfold maxLen;omega)
      have t1:QbB t t.length=t:=by unfold QbB;rw [if_pos (by omega),Int.toNat_natCast,List.take_length]
      have t2:Qct t 0 t.length=[]:=by unfold Qct;rw [if_pos (by omega),Int.toNat_natCast,List.drop_length]
      have t3:QdY t 0 t.length=0:=by unfold QdY;rw [if_pos (by omega)]
      rw [t1,t2,t3] at d2
      have d3:=QjM t (by unfold maxLen;omega)
      rw [decide_eq_false (fun h=>hz ⟨hz3,h⟩)] at d3
      repeat first | refine sp_ ?_ | exact ex0
      refine Qac Tryz.call126 c1 [(28,0)] ?_
      repeat first | refine sp_ ?_ | exact ex0
      refine Qac Tryz.call126 c1 [(28,0)] ?_
      repeat first | refine sp_ ?_ | exact ex0
      refine Qac Tryz.call122 c2 [(28,0)] ?_
      repeat first | refine sp_ ?_ | exact ex0
      refine Qbt Tryz.call126 d1 [(28,0)] ?_
      repeat first | refine sp_ ?_ | exact ex0
      refine Qbt Tryz.call125 d2 [(28,0)] ?_
      repeat first | refine sp_ ?_ | exact ex0
      refine Qbt Tryz.call212 d3 [] ?_
      repeat first | refine sp_ ?_ | exact ex0
      exact re0 []
     ·repeat first | refine sp_ ?_ | exact ex0
      refine Qac Tryz.call126 c1 [(28,0)] ?_
      repeat first | refine sp_ ?_ | exact ex0
      refine Qac Tryz.call126 c1 [(28,0)] ?_
      repeat first | refine sp_ ?_ | exact ex0
      refine Qac Tryz.call122 c2 [(28,0)] ?_
      repeat first | refine sp_ ?_ | exact ex0
      exact re0 []
   ·have hb0:b.toNat≠0:=fun h=>hb (UInt8.toNat_inj.1 h)
    have c3:=Qtk f hf b t (by unfold maxLen;omega)
    have hrl:=Qel f t
    have hid:id5 f b≤b.toNat:=by unfold id5;split <;> omega
    have hln:QcX f b t<256:=by
     unfold QcX;split
     ·omega
     ·exact UInt8.toNat_lt _
    by_cases hi:id5 f b=0∨Qbz f<(id5 f b:Int)
    ·rw [Qc8,if_neg hb,if_pos hi] at hgo
     have hgo2:go5 f s=([],1):=by rw [hgo];rfl
     have hR2:R=(0,[],1):=by rw [hR,hgo2,if_neg (by decide)]
     rw [hR2]
     by_cases h1:id5 f b=0
     ·repeat first | refine sp_ ?_ | exact ex0
      refine Qac Tryz.call126 c1 [(28,0)] ?_
      repeat first | refine sp_ ?_ | exact ex0
      refine Qac Tryz.call126 c1 [(28,0)] ?_
      repeat first | refine sp_ ?_ | exact ex0
      refine Qac Tryz.call122 c2 [(28,0)] ?_
      repeat first | refine sp_ ?_ | exact ex0
      refine Qgy (QkA hf) c3 [(28,0)] [] ?_
      repeat first | refine sp_ ?_ | exact ex0
      exact re0 []
     ·have h2:Qbz f<(id5 f b:Int):=by
       rcases hi with h | h
       ·exact absurd h h1
       ·exact h
      repeat first | refine sp_ ?_ | exact ex0
      refine Qac Tryz.call126 c1 [(28,0)] ?_
      repeat first | refine sp_ ?_ | exact ex0
      refine Qac Tryz.call126 c1 [(28,0)] ?_
      repeat first | refine sp_ ?_ | exact ex0
      refine Qac Tryz.call122 c2 [(28,0)] ?_
      repeat first | refine sp_ ?_ | exact ex0
      refine Qgy (QkA hf) c3 [(28,0)] [] ?_
      repeat first | refine sp_ ?_ | exact ex0
      exact re0 []
    ·obtain ⟨hn1,hn2⟩:=Qtn f s b t out hgo (by rw [List.length_cons];omega) hb hi
     have h1:¬id5 f b=0:=fun h=>hi (.inl h)
     have h2:(id5 f b:Int)≤Qbz f:=by
      apply Int.not_lt.1
      exact fun h=>hi (.inr h)
     have c4:=Qe1 (Qbi f t) (Qng f t) (QcX f b t) (by unfold maxLen;omega) (by unfold maxLen;omega)
     have hol:out.length≤1000000:=by omega
     repeat first | refine sp_ ?_ | exact ex0
     refine Qac Tryz.call126 c1 [(28,0)] ?_
     repeat first | refine sp_ ?_ | exact ex0
     refine Qac Tryz.call126 c1 [(28,0)] ?_
     repeat first | refine sp_ ?_ | exact ex0
     refine Qac Tryz.call122 c2 [(28,0)] ?_
     repeat first | refine sp_ ?_ | exact ex0
     refine Qgy (QkA hf) c3 [(28,0)] [] ?_
     repeat first | refine sp_ ?_ | exact ex0
     refine Qac Tryz.call125 c4 [(28,0)] ?_
     repeat first | refine sp_ ?_ | exact ex0
     refine Qau (α:={x:(List UInt8 × Int) × List E5 // QE3 f s x}) ⟨_,hn1⟩ ⟨?_,hn2⟩
     refine sx_ ?_
     rw [List.map_append]
     rfl
end Go.Proofs.YthfocmakkeonoaaGreatDoor
