/- Packets: the plain law of layer 4. Packets read, and back: the plain law of layer 4. Packets, back and forth. -/
import Derived.Test.YthfocmakkeonoaaGreatDoorQInz
import Derived.Shelf.Strings.Repeat
import Derived.Shelf.Strings.Trim
import Derived.Test.YthfocmakkeonoaaGreatDoorProg
set_option linter.unusedVariables false
set_option linter.unusedSimpArgs false
set_option maxRecDepth 100000
set_option maxHeartbeats 16000000
namespace Go.Proofs.YthfocmakkeonoaaGreatDoor
open Go.RowKit
structure P4 where
 marker:Bool
 kind:Int
 seq:Int
 time:Int
 src:Int
 others:List Int
 hasExt:Bool
 profile:Int
 ext:List UInt8
 data:List UInt8
 pad:Int
 deriving DecidableEq
def Qoy (p:P4):Bool:=decide ((0≤p.kind∧p.kind≤127)∧p.others.length≤15∧(0≤p.profile∧p.profile≤65535)∧(0≤p.pad∧p.pad≤255)∧(if p.hasExt=true then p.ext.length % 4=0∧p.ext.length≤262140 else p.profile=0∧p.ext=[]))
theorem QdK (p:P4):Qoy p=true↔((0≤p.kind∧p.kind≤127)∧p.others.length≤15∧(0≤p.profile∧p.profile≤65535)∧(0≤p.pad∧p.pad≤255)∧(if p.hasExt=true then p.ext.length % 4=0∧p.ext.length≤262140 else p.profile=0∧p.ext=[])):=by unfold Qoy;rw [decide_eq_true_eq]
def Qc7 (p:P4):Int:=128+p.others.length+(if p.hasExt=true then 16 else 0)+(if 0<p.pad then 32 else 0)
def QbQ (p:P4):Int:=p.kind+(if p.marker=true then 128 else 0)
def QjJ (p:P4):List UInt8:=if p.hasExt=true then Qah 2 [p.profile,((p.ext.length / 4:Nat):Int)]++p.ext else []
def QbD (n:Int):List UInt8:=if 0<n then List.replicate (n-1).toNat 0++QaK n 1 else []
def QeP (p:P4):List UInt8:=Qah 1 [Qc7 p,QbQ p]++Qah 2 [p.seq]++Qah 4 [p.time,p.src]++Qah 4 p.others++QjJ p++p.data++QbD p.pad
def Qnc (p:P4):List UInt8:=if Qoy p=true then QeP p else []
structure P4.Ok (p:P4):Prop where
 seq:0≤p.seq∧p.seq<65536
 time:0≤p.time∧p.time<4294967296
 src:0≤p.src∧p.src<4294967296
 others:∀ n∈p.others,0≤n∧n<4294967296
theorem Qwr:∀ n:Nat,n<16→bits .or .i64 (128+(n:Int)) 16=128+n+16:=by decide +kernel
theorem Qws:∀ n:Nat,n<32→bits .or .i64 (128+(n:Int)) 32=128+n+32:=by decide +kernel
theorem Qta:∀ n:Nat,n<128→bits .or .i64 (n:Int) 128=n+128:=by decide +kernel
theorem QzE:∀ n:Nat,n<256→bits .and .i64 (n:Int) 192=64 * (n / 64:Nat):=by decide +kernel
theorem QzF:∀ n:Nat,n<256→bits .and .i64 (n:Int) 128=128 * (n / 128:Nat):=by decide +kernel
theorem QCr:∀ n:Nat,n<256→bits .and .i64 (n:Int) 16=16 * (n / 16 % 2:Nat):=by decide +kernel
theorem QCs:∀ n:Nat,n<256→bits .and .i64 (n:Int) 15=(n % 16:Nat):=by decide +kernel
theorem QCt:∀ n:Nat,n<256→bits .and .i64 (n:Int) 32=32 * (n / 32 % 2:Nat):=by decide +kernel
end Go.Proofs.YthfocmakkeonoaaGreatDoor
namespace Go.Proofs.YthfocmakkeonoaaGreatDoor
open Go.RowKit
def wds (n:Nat) (l:List UInt8):List Int:=(List.range n).map fun i=>(QaP ((l.drop (4 * i)).take 4):Int)
theorem Qtb (n:Nat) (l:List UInt8):(wds n l).length=n:=by simp [wds]
theorem QCu (n:Nat) (l:List UInt8):∀ m∈wds n l,0≤m∧m<4294967296:=by
 intro m hm
 obtain ⟨i,_,rfl⟩:=List.mem_map.1 hm
 have h1:=Qb9 ((l.drop (4 * i)).take 4)
 have h2:((l.drop (4 * i)).take 4).length≤4:=by rw [List.length_take];omega
 have h3:(256:Nat) ^ ((l.drop (4 * i)).take 4).length≤256 ^ 4:=Nat.pow_le_pow_right (by decide) h2
 have h4:(256:Nat) ^ 4=4294967296:=by decide
 omega
theorem Qwt (n:Nat) (l:List UInt8):wds (n+1) l=wds n l++[(QaP ((l.drop (4 * n)).take 4):Int)]:=by
 unfold wds
 rw [List.range_succ,List.map_append]
 rfl
theorem Qwu (n:Nat) (l:List UInt8):wds (n+1) l=(QaP (l.take 4):Int)::wds n (l.drop 4):=by
 unfold wds
 rw [List.range_succ_eq_map,List.map_cons,List.map_map]
 simp only [Nat.mul_zero,List.drop_zero]
 congr 1
 apply List.map_congr_left
 intro i _
 simp only [Function.comp,List.drop_drop]
 congr 4
 omega
theorem QzG (l:List Int) (hl:∀ n∈l,0≤n∧n<4294967296) (r:List UInt8):wds l.length (Qah 4 l++r)=l:=by
 induction l with
 | nil=>rfl
 | cons a l ih=>
  have e:Qah 4 (a::l)++r=QaK a 4++(Qah 4 l++r):=by simp [Qah]
  have ha:=hl a (by simp)
  rw [e,List.length_cons,Qwu,List.take_left' (Qaj a 4),List.drop_left' (Qaj a 4),ih (fun n hn=>hl n (by simp [hn])),Qiz]
  congr 1
  simp only [Int.reducePow]
  omega
theorem QzH (n:Nat) (l:List UInt8) (h:4 * n≤l.length):Qah 4 (wds n l)=l.take (4 * n):=by
 induction n with
 | zero=>simp [wds,Qah]
 | succ n ih=>
  rw [Qwt,QgF,ih (by omega),Qds l (4 * n) 4 (by omega),show 4 * (n+1)=4 * n+4 by omega,List.take_add]
def no4:P4:=⟨false,0,0,0,0,[],false,0,[],[],0⟩
def Qb0 (d:List UInt8):Nat:=(d.getD (d.length-1) 0).toNat
def Qco (d:List UInt8):Prop:=d=[]∨Qb0 d=0∨d.length<Qb0 d∨(d.drop (d.length-Qb0 d)).take (Qb0 d-1)≠List.replicate (Qb0 d-1) 0
instance decPad (d:List UInt8):Decidable (Qco d):=by unfold Qco;infer_instance
def b0 (s:List UInt8):Nat:=(s.getD 0 0).toNat
def b1 (s:List UInt8):Nat:=(s.getD 1 0).toNat
def oth (s:List UInt8):Nat:=12+4 * (b0 s % 16)
def Qf0 (s:List UInt8):Bool:=decide (b0 s / 16 % 2=1)
def QiC (s:List UInt8):Nat:=4 * QaP ((s.drop (oth s+2)).take 2)
def atD (s:List UInt8):Nat:=if Qf0 s=true then oth s+4+QiC s else oth s
def Qbq (s:List UInt8):P4:=
 ⟨decide (128≤b1 s),(b1 s % 128:Nat),QaP ((s.drop 2).take 2),QaP ((s.drop 4).take 4),QaP ((s.drop 8).take 4),wds (b0 s % 16) (s.drop 12),Qf0 s,
  if Qf0 s=true then QaP ((s.drop (oth s)).take 2) else 0,if Qf0 s=true then (s.drop (oth s+4)).take (QiC s) else [],s.drop (atD s),0⟩
def Qbe (s:List UInt8):P4 × Int:=
 if s.length<12 then (no4,2) else if b0 s / 64≠2 then (no4,1) else if s.length<oth s then (no4,2) else if Qf0 s=true∧s.length<oth s+4 then (no4,2)
 else if Qf0 s=true∧s.length<atD s then (no4,2) else if b0 s / 32 % 2=1 then
  (if Qco (s.drop (atD s)) then (no4,1) else ({ Qbq s with data:=(s.drop (atD s)).take ((s.drop (atD s)).length-Qb0 (s.drop (atD s))),pad:=Qb0 (s.drop (atD s)) },0))
 else (Qbq s,0)
theorem Qtc (p:P4) (h:Qoy p=true):128≤Qc7 p∧Qc7 p<192:=by
 have:=(QdK p).1 h
 unfold Qc7
 split <;> split <;> omega
theorem Qp9 (p:P4) (h:Qoy p=true):0≤QbQ p∧QbQ p<256:=by
 have:=(QdK p).1 h
 unfold QbQ
 split <;> omega
theorem QlR (n:Int) (h:0≤n∧n<256):(UInt8.ofNat (n % 256).toNat).toNat=n.toNat:=by
 rw [QjI,Int.emod_eq_of_lt h.1 h.2]
theorem QzI (d:List UInt8) (n:Int) (h:0<n∧n≤255):¬Qco (d++QbD n)∧Qb0 (d++QbD n)=n.toNat∧(d++QbD n).take ((d++QbD n).length-n.toNat)=d:=by
 obtain ⟨k,rfl⟩:∃ k:Nat,n=k+1:=⟨(n-1).toNat,by omega⟩
 have et:QbD ((k:Int)+1)=List.replicate k 0++[UInt8.ofNat (k+1)]:=by
  unfold QbD
  rw [if_pos (by omega),show (((k:Int)+1-1).toNat)=k by omega]
  congr 1
  simp only [QaK,Int.pow_zero,Int.ediv_one,List.append_nil,List.nil_append,List.cons.injEq,and_true]
  congr 1
  omega
 have el:(d++QbD ((k:Int)+1)).length=d.length+k+1:=by rw [et];simp;omega
 have e1:Qb0 (d++QbD ((k:Int)+1))=k+1:=by
  unfold Qb0
  rw [el,et,show d.length+k+1-1=(d++List.replicate k 0).length by simp,←List.append_assoc]
  simp only [List.getD_eq_getElem?_getD,List.getElem?_append_right (Nat.le_refl _),Nat.sub_self]
  exact UInt8.toNat_ofNat_of_lt' (by show k+1<256;omega)
 have en:((k:Int)+1).toNat=k+1:=by omega
 refine ⟨?_,by rw [e1,en],?_⟩
 ·unfold Qco
  rw [e1,el]
  rintro (h | h | h | h)
  ·have:=congrArg List.length h;rw [el] at this;simp at this
  ·omega
  ·omega
  ·apply h
   rw [show d.length+k+1-(k+1)=d.length by omega,List.drop_left,et,show k+1-1=k by omega,List.take_left' (by simp)]
 ·rw [el,en,show d.length+k+1-(k+1)=d.length by omega,List.take_left]
end Go.Proofs.YthfocmakkeonoaaGreatDoor
namespace Go.Proofs.YthfocmakkeonoaaGreatDoor
open Go.RowKit
theorem QdL (n:Int) (k m:Nat) (hm:256 ^ k=m) (h:0≤n∧n<m):(QaP (QaK n k):Int)=n:=by
 have:=Qiz n k
 rw [←Qhw,hm] at this
 rw [this,Int.emod_eq_of_lt h.1 h.2]
theorem Qqa (p:P4) (ho:p.Ok) (hm:Qoy p=true):Qbe (QeP p)=(p,0):=by
 have hf:=Qtc p hm
 have hg:=Qp9 p hm
 have hmm:=(QdK p).1 hm
 have hfe:Qc7 p=128+p.others.length+(if p.hasExt=true then 16 else 0)+(if 0<p.pad then 32 else 0):=rfl
 have hge:QbQ p=p.kind+(if p.marker=true then 128 else 0):=rfl
 obtain ⟨R,hR⟩:∃ R,R=Qah 4 p.others++(QjJ p++(p.data++QbD p.pad)):=⟨_,rfl⟩
 have hb:QeP p=QaK (Qc7 p) 1++(QaK (QbQ p) 1++(QaK p.seq 2++(QaK p.time 4++(QaK p.src 4++R)))):=by
  rw [hR]
  unfold QeP
  simp [Qah]
 obtain ⟨s,hs⟩:∃ s,s=QeP p:=⟨_,rfl⟩
 rw [←hs]
 rw [hb] at hs
 have q0:b0 s=(Qc7 p).toNat:=by
  unfold b0
  rw [hs]
  have:=QlR (Qc7 p) (by omega)
  simpa [QaK] using this
 have q1:b1 s=(QbQ p).toNat:=by
  unfold b1
  rw [hs]
  have:=QlR (QbQ p) (by omega)
  simpa [QaK] using this
 have d12:s.drop 12=R:=by rw [hs];rfl
 have t2:(s.drop 2).take 2=QaK p.seq 2:=by rw [hs];rfl
 have t4:(s.drop 4).take 4=QaK p.time 4:=by rw [hs];rfl
 have t8:(s.drop 8).take 4=QaK p.src 4:=by rw [hs];rfl
 have hsl:s.length=12+R.length:=by rw [hs];simp only [List.length_append,Qaj];omega
 have hpo:=Qai 4 p.others
 have hRl:R.length=4 * p.others.length+((QjJ p).length+(p.data.length+(QbD p.pad).length)):=by rw [hR];simp only [List.length_append,hpo]
 obtain ⟨a,ha⟩:∃ a,a=b0 s:=⟨_,rfl⟩
 have e1:a / 64=2:=by rw [ha,q0];omega
 have e2:a % 16=p.others.length:=by
  rw [ha,q0,hfe]
  obtain ⟨_,h15,_⟩:=hmm
  split <;> split <;> omega
 have e3:(a / 16 % 2=1)↔p.hasExt=true:=by
  rw [ha,q0,hfe]
  obtain ⟨_,h15,_⟩:=hmm
  cases p.hasExt <;> simp only [Bool.false_eq_true,if_false,if_true,iff_true,iff_false] <;> split <;> omega
 have e4:(a / 32 % 2=1)↔0<p.pad:=by
  rw [ha,q0,hfe]
  obtain ⟨_,h15,_⟩:=hmm
  by_cases hp:0<p.pad
  ·simp only [hp,if_true,iff_true];split <;> omega
  ·simp only [hp,if_false,iff_false];split <;> omega
 have hoth:oth s=12+4 * p.others.length:=by unfold oth;rw [←ha,e2]
 have hhx:Qf0 s=p.hasExt:=by
  unfold Qf0
  rw [←ha]
  cases h:p.hasExt with
  | true=>exact decide_eq_true (e3.2 h)
  | false=>exact decide_eq_false fun hh=>by rw [e3.1 hh] at h;cases h
 have hdo:s.drop (oth s)=QjJ p++(p.data++QbD p.pad):=by
  rw [hoth,←List.drop_drop,d12,hR,List.drop_left' hpo]
 have hw:wds (b0 s % 16) (s.drop 12)=p.others:=by
  rw [←ha,e2,d12,hR]
  exact QzG p.others ho.others _
 have hmk:decide (128≤b1 s)=p.marker:=by
  rw [q1,hge]
  obtain ⟨hk,_⟩:=hmm
  cases p.marker <;> simp only [Bool.false_eq_true,if_false,if_true,decide_eq_true_eq,decide_eq_false_iff_not] <;> omega
 have hkd:((b1 s % 128:Nat):Int)=p.kind:=by
  rw [q1,hge]
  obtain ⟨hk,_⟩:=hmm
  split <;> omega
 have hx:(if Qf0 s=true then s.length≥oth s+4 else True)∧atD s≤s.length∧s.drop (atD s)=p.data++QbD p.pad∧(if Qf0 s=true then (QaP ((s.drop (oth s)).take 2):Int) else 0)=p.profile∧(if Qf0 s=true then (s.drop (oth s+4)).take (QiC s) else [])=p.ext:=by
  cases hh:p.hasExt with
  | true=>
   rw [hh] at hhx
   have hex:QjJ p=QaK p.profile 2++(QaK ((p.ext.length / 4:Nat):Int) 2++p.ext):=by unfold QjJ;rw [if_pos hh];simp [Qah]
   obtain ⟨_,_,hpr,_,hxx⟩:=hmm
   rw [if_pos hh] at hxx
   have hel:(QjJ p).length=4+p.ext.length:=by rw [hex];simp only [List.length_append,Qaj];omega
   have g1:(s.drop (oth s)).take 2=QaK p.profile 2:=by rw [hdo,hex,List.append_assoc,List.take_left' (Qaj _ _)]
   have g2:(s.drop (oth s+2)).take 2=QaK ((p.ext.length / 4:Nat):Int) 2:=by
    rw [←List.drop_drop,hdo,hex,List.append_assoc,List.drop_left' (Qaj _ _),List.append_assoc,List.take_left' (Qaj _ _)]
   have g3:s.drop (oth s+4)=p.ext++(p.data++QbD p.pad):=by
    rw [show oth s+4=oth s+(2+2) by omega,←List.drop_drop,hdo,hex,←List.drop_drop,List.append_assoc,List.drop_left' (Qaj _ _),List.append_assoc,List.drop_left' (Qaj _ _)]
   have g4:QiC s=p.ext.length:=by
    have:=QdL ((p.ext.length / 4:Nat):Int) 2 65536 (by decide) (by omega)
    unfold QiC
    rw [g2]
    omega
   have g5:atD s=oth s+4+p.ext.length:=by unfold atD;rw [if_pos hhx,g4]
   refine ⟨by rw [if_pos hhx];omega,by omega,?_,?_,?_⟩
   ·rw [g5,←List.drop_drop,g3,List.drop_left]
   ·rw [if_pos hhx,g1]
    exact QdL p.profile 2 65536 (by decide) (by omega)
   ·rw [if_pos hhx,g3,g4,List.take_left]
  | false=>
   rw [hh] at hhx
   have hex:QjJ p=[]:=by unfold QjJ;rw [hh];rfl
   obtain ⟨_,_,hpr,_,hxx⟩:=hmm
   rw [hh] at hxx
   simp only [Bool.false_eq_true,if_false] at hxx
   have g5:atD s=oth s:=by unfold atD;rw [hhx];rfl
   refine ⟨by rw [hhx];trivial,by omega,?_,?_,?_⟩
   ·rw [g5,hdo,hex];rfl
   ·rw [hhx];exact hxx.1.symm
   ·rw [hhx];exact hxx.2.symm
 obtain ⟨x1,x2,x3,x4,x5⟩:=hx
 have hbase:Qbq s = { p with data:=p.data++QbD p.pad,pad:=0 }:=by
  unfold Qbq
  rw [hmk,hkd,t2,t4,t8,hw,x3,x4,x5,hhx]
  rw [QdL p.seq 2 65536 (by decide) ho.seq,QdL p.time 4 4294967296 (by decide) ho.time,QdL p.src 4 4294967296 (by decide) ho.src]
 unfold Qbe
 rw [if_neg (by omega),if_neg (by rw [←ha];omega),if_neg (by omega),if_neg (fun h=>by rw [if_pos h.1] at x1;omega),if_neg (fun h=>by omega),x3,hbase]
 rw [←ha]
 obtain ⟨_,_,_,hpad,_⟩:=hmm
 by_cases hp:0<p.pad
 ·obtain ⟨k1,k2,k3⟩:=QzI p.data p.pad ⟨hp,hpad.2⟩
  rw [if_pos (e4.2 hp),if_neg k1,k2,k3]
  congr 1
  cases p
  simp only [P4.mk.injEq,true_and]
  dsimp only at hp
  omega
 ·rw [if_neg (fun h=>hp (e4.1 h))]
  have:p.pad=0:=by omega
  rw [this]
  have et:QbD 0=[]:=rfl
  rw [et,List.append_nil]
  congr 1
  cases p
  simp only [P4.mk.injEq,true_and]
  exact this.symm
theorem Qcj (n:Nat) (h:n<256):QaK (n:Int) 1=[UInt8.ofNat n]:=by
 simp only [QaK,Int.pow_zero,Int.ediv_one,List.append_nil,List.nil_append,List.cons.injEq,and_true]
 congr 1
 omega
theorem Qwv (d:List UInt8) (h:¬Qco d):d.take (d.length-Qb0 d)++QbD (Qb0 d)=d∧0<Qb0 d∧Qb0 d≤255:=by
 unfold Qco at h
 rw [not_or,not_or,not_or] at h
 obtain ⟨h1,h2,h3,h4⟩:=h
 have hlt:Qb0 d<256:=UInt8.toNat_lt _
 have hd:0<d.length:=List.length_pos_iff.2 h1
 have h4:(d.drop (d.length-Qb0 d)).take (Qb0 d-1)=List.replicate (Qb0 d-1) 0:=Classical.not_not.1 h4
 have hl:d.drop (d.length-1)=[UInt8.ofNat (Qb0 d)]:=by
  rw [List.drop_eq_getElem_cons (by omega),List.drop_of_length_le (by omega)]
  have:Qb0 d=d[d.length-1].toNat:=by unfold Qb0;rw [List.getD_eq_getElem?_getD,List.getElem?_eq_getElem (by omega)];rfl
  rw [this]
  simp
 refine ⟨?_,by omega,by omega⟩
 unfold QbD
 rw [if_pos (by omega),Qcj _ hlt,←hl,show ((Qb0 d:Int)-1).toNat=Qb0 d-1 by omega,←h4,Qha d (d.length-Qb0 d) (Qb0 d-1) (d.length-1) (by omega),List.take_append_drop]
theorem Qqb (s:List UInt8) (p:P4) (h:Qbe s=(p,0)) (hl:s.length≤262140):QeP p=s∧Qoy p=true∧p.Ok:=by
 unfold Qbe at h
 split at h
 ·simp only [Prod.mk.injEq] at h;omega
 rename_i c1
 split at h
 ·simp only [Prod.mk.injEq] at h;omega
 rename_i c2
 split at h
 ·simp only [Prod.mk.injEq] at h;omega
 rename_i c3
 split at h
 ·simp only [Prod.mk.injEq] at h;omega
 rename_i c4
 split at h
 ·simp only [Prod.mk.injEq] at h;omega
 rename_i c5
 have key:∀ (d:List UInt8) (n:Nat),d++QbD n=s.drop (atD s)→n≤255→((0<n)↔b0 s / 32 % 2=1)→QeP { Qbq s with data:=d,pad:=n } = s∧Qoy { Qbq s with data:=d,pad:=n } = true∧P4.Ok { Qbq s with data:=d,pad:=n }:=by
  intro d n hd hn hn32
  have hb0:b0 s<256:=UInt8.toNat_lt _
  have hb1:b1 s<256:=UInt8.toNat_lt _
  have g2:=Qb9 ((s.drop 2).take 2)
  have g4:=Qb9 ((s.drop 4).take 4)
  have g8:=Qb9 ((s.drop 8).take 4)
  have go:=Qb9 ((s.drop (oth s)).take 2)
  have gx:=Qb9 ((s.drop (oth s+2)).take 2)
  have e2:((s.drop 2).take 2).length=2:=by rw [List.length_take,List.length_drop];omega
  have e4:((s.drop 4).take 4).length=4:=by rw [List.length_take,List.length_drop];omega
  have e8:((s.drop 8).take 4).length=4:=by rw [List.length_take,List.length_drop];omega
  rw [e2,show (256:Nat) ^ 2=65536 by decide] at g2
  rw [e4,show (256:Nat) ^ 4=4294967296 by decide] at g4
  rw [e8,show (256:Nat) ^ 4=4294967296 by decide] at g8
  have ho:P4.Ok { Qbq s with data:=d,pad:=n }:=⟨by unfold Qbq;dsimp only;omega,by unfold Qbq;dsimp only;omega,by unfold Qbq;dsimp only;omega,by unfold Qbq;dsimp only;exact QCu _ _⟩
  have hw:Qah 4 (wds (b0 s % 16) (s.drop 12))=(s.drop 12).take (4 * (b0 s % 16)):=QzH _ _ (by rw [List.length_drop];unfold oth at c3;omega)
  have hother:oth s=12+4 * (b0 s % 16):=rfl
  have hH:Qah 1 [Qc7 { Qbq s with data:=d,pad:=n },QbQ { Qbq s with data:=d,pad:=n }]=s.take 2:=by
   have ef:Qc7 { Qbq s with data:=d,pad:=n } = (b0 s:Int):=by
    unfold Qc7 Qbq Qf0
    dsimp only
    rw [Qtb]
    by_cases h16:b0 s / 16 % 2=1
    ·rw [if_pos (decide_eq_true h16)]
     by_cases h32:b0 s / 32 % 2=1
     ·rw [if_pos (by have:=hn32.2 h32;omega)];omega
     ·rw [if_neg (fun hh=>h32 (hn32.1 (by omega)))];omega
    ·rw [if_neg (fun hh=>h16 (of_decide_eq_true hh))]
     by_cases h32:b0 s / 32 % 2=1
     ·rw [if_pos (by have:=hn32.2 h32;omega)];omega
     ·rw [if_neg (fun hh=>h32 (hn32.1 (by omega)))];omega
   have es:QbQ { Qbq s with data:=d,pad:=n } = (b1 s:Int):=by
    unfold QbQ Qbq
    dsimp only
    by_cases h1:128≤b1 s
    ·rw [if_pos (decide_eq_true h1)];omega
    ·rw [if_neg (fun hh=>h1 (of_decide_eq_true hh))];omega
   rw [ef,es]
   have e:Qah 1 [(b0 s:Int),(b1 s:Int)]=[UInt8.ofNat (b0 s),UInt8.ofNat (b1 s)]:=by simp [Qah,Qcj _ hb0,Qcj _ hb1]
   rw [e]
   match s,c1 with
   | x::y::t,_=>simp [b0,b1]
   | [x],c1=>simp at c1
   | [],c1=>simp at c1
  have hX:QjJ { Qbq s with data:=d,pad:=n } ++ (d++QbD n)=s.drop (oth s):=by
   rw [hd]
   unfold QjJ Qbq
   dsimp only
   by_cases hx:Qf0 s=true
   ·have c4':¬s.length<oth s+4:=fun hh=>c4 ⟨hx,hh⟩
    have c5':¬s.length<atD s:=fun hh=>c5 ⟨hx,hh⟩
    have hat:atD s=oth s+4+QiC s:=by unfold atD;rw [if_pos hx]
    simp only [hx,if_true]
    have ex:((s.drop (oth s+4)).take (QiC s)).length=QiC s:=by rw [List.length_take,List.length_drop];omega
    have ex4:QiC s / 4=QaP ((s.drop (oth s+2)).take 2):=by unfold QiC;omega
    rw [ex,ex4]
    have p2:Qah 2 [(QaP ((s.drop (oth s)).take 2):Int),(QaP ((s.drop (oth s+2)).take 2):Int)]=(s.drop (oth s)).take 2++(s.drop (oth s+2)).take 2:=by
     simp only [Qah,List.flatMap_cons,List.flatMap_nil,List.append_nil]
     rw [Qds s (oth s) 2 (by omega),Qds s (oth s+2) 2 (by omega)]
    rw [p2,hat]
    simp only [List.append_assoc]
    rw [Qha s (oth s+4) (QiC s) _ rfl,Qha s (oth s+2) 2 (oth s+4) rfl,Qha s (oth s) 2 (oth s+2) rfl]
   ·have hat:atD s=oth s:=by unfold atD;rw [if_neg hx]
    rw [if_neg hx,hat]
    rfl
  refine ⟨?_,?_,ho⟩
  ·unfold QeP
   rw [hH]
   have e1:Qah 2 [({ Qbq s with data:=d,pad:=n }:P4).seq]=(s.drop 2).take 2:=by
    rw [QzD];unfold Qbq;dsimp only;exact Qds s 2 2 (by omega)
   have e2':Qah 4 [({ Qbq s with data:=d,pad:=n }:P4).time,({ Qbq s with data:=d,pad:=n }:P4).src]=(s.drop 4).take 4++(s.drop 8).take 4:=by
    simp only [Qah,List.flatMap_cons,List.flatMap_nil,List.append_nil]
    unfold Qbq
    dsimp only
    rw [Qds s 4 4 (by omega),Qds s 8 4 (by omega)]
   have e3:Qah 4 ({ Qbq s with data:=d,pad:=n }:P4).others=(s.drop 12).take (4 * (b0 s % 16)):=hw
   rw [e1,e2',e3]
   simp only [List.append_assoc]
   rw [hX,hother,Qha s 12 (4 * (b0 s % 16)) _ rfl,Qha s 8 4 12 rfl,Qha s 4 4 8 rfl,Qha s 2 2 4 rfl,List.take_append_drop]
  ·rw [QdK]
   unfold Qbq
   dsimp only
   rw [Qtb]
   refine ⟨by omega,by omega,?_,by omega,?_⟩
   ·by_cases hx:Qf0 s=true
    ·rw [if_pos hx]
     have c4':¬s.length<oth s+4:=fun hh=>c4 ⟨hx,hh⟩
     have:((s.drop (oth s)).take 2).length=2:=by rw [List.length_take,List.length_drop];omega
     rw [this,show (256:Nat) ^ 2=65536 by decide] at go
     omega
    ·rw [if_neg hx];omega
   ·by_cases hx:Qf0 s=true
    ·have c5':¬s.length<atD s:=fun hh=>c5 ⟨hx,hh⟩
     have hat:atD s=oth s+4+QiC s:=by unfold atD;rw [if_pos hx]
     have ex:((s.drop (oth s+4)).take (QiC s)).length=QiC s:=by rw [List.length_take,List.length_drop];omega
     simp only [hx,if_true]
     rw [ex]
     refine ⟨by unfold QiC;omega,by omega⟩
    ·rw [if_neg hx,if_neg hx,if_neg hx]
     exact ⟨rfl,rfl⟩
 split at h
 ·rename_i c6
  split at h
  ·simp only [Prod.mk.injEq] at h;omega
  ·rename_i c7
   obtain ⟨k1,k2,k3⟩:=Qwv _ c7
   simp only [Prod.mk.injEq,and_true] at h
   subst h
   exact key _ (Qb0 (s.drop (atD s))) k1 k3 ⟨fun _=>c6,fun _=>k2⟩
 ·rename_i c6
  simp only [Prod.mk.injEq,and_true] at h
  subst h
  have e:Qbq s = { Qbq s with data:=s.drop (atD s),pad:=((0:Nat):Int) }:=rfl
  rw [e]
  exact key (s.drop (atD s)) 0 (by show s.drop (atD s)++[]=_;rw [List.append_nil]) (by omega) ⟨fun hh=>by omega,fun hh=>absurd hh c6⟩
end Go.Proofs.YthfocmakkeonoaaGreatDoor
namespace Go.Proofs
open Go.Shelf
def Tryz.lays160_ren:Go.Shelf.Ren:=⟨fun | 160=>175 | 232=>205 | 231=>204 | 227=>206 | 234=>208 | 233=>207 | 236=>210 | 235=>209 | 228=>234 | 271=>237 | 151=>236 | 197=>235 | 120=>250 | 152=>249 | 260=>248 | 137=>253 | 119=>254 | 224=>255 | 225=>256 | 217=>257 | 266=>258 | n=>n,fun | 9=>9 | 4=>4 | 3=>3 | 5=>5 | 117=>328 | 116=>327 | 0=>0 | 124=>331 | 21=>21 | 105=>366 | 46=>156 | 119=>379 | 139=>382 | 138=>381 | n=>n,fun | 3=>1 | 4=>2 | n=>n⟩
theorem Tryz.lays160:Go.Proofs.Lays.n160 Tryz.prog Tryz.lays160_ren:={
 mixed:=by kernel_rfl
 f119:=Tryz.func254.trans (congrArg some (by kernel_rfl))
 f120:=Tryz.func250.trans (congrArg some (by kernel_rfl))
 f137:=Tryz.func253.trans (congrArg some (by kernel_rfl))
 f151:=Tryz.func236.trans (congrArg some (by kernel_rfl))
 f152:=Tryz.func249.trans (congrArg some (by kernel_rfl))
 f160:=Tryz.func175.trans (congrArg some (by kernel_rfl))
 f197:=Tryz.func235.trans (congrArg some (by kernel_rfl))
 f217:=Tryz.func257.trans (congrArg some (by kernel_rfl))
 f224:=Tryz.func255.trans (congrArg some (by kernel_rfl))
 f225:=Tryz.func256.trans (congrArg some (by kernel_rfl))
 f227:=Tryz.func206.trans (congrArg some (by kernel_rfl))
 f228:=Tryz.func234.trans (congrArg some (by kernel_rfl))
 f231:=Tryz.func204.trans (congrArg some (by kernel_rfl))
 f232:=Tryz.func205.trans (congrArg some (by kernel_rfl))
 f233:=Tryz.func207.trans (congrArg some (by kernel_rfl))
 f234:=Tryz.func208.trans (congrArg some (by kernel_rfl))
 f235:=Tryz.func209.trans (congrArg some (by kernel_rfl))
 f236:=Tryz.func210.trans (congrArg some (by kernel_rfl))
 f260:=Tryz.func248.trans (congrArg some (by kernel_rfl))
 f266:=Tryz.func258.trans (congrArg some (by kernel_rfl))
 f271:=Tryz.func237.trans (congrArg some (by kernel_rfl))
 t0:=Tryz.underlying0
 a0:=Tryz.isAgg0
 z0:=Tryz.sizeOf0
 v0:=Tryz.zeroValue0
 t3:=Tryz.underlying3
 a3:=Tryz.isAgg3
 z3:=Tryz.sizeOf3
 v3:=Tryz.zeroValue3
 t4:=Tryz.underlying4
 a4:=Tryz.isAgg4
 z4:=Tryz.sizeOf4
 v4:=Tryz.zeroValue4
 t5:=Tryz.underlying5
 a5:=Tryz.isAgg5
 z5:=Tryz.sizeOf5
 v5:=Tryz.zeroValue5
 t9:=Tryz.underlying9
 a9:=Tryz.isAgg9
 z9:=Tryz.sizeOf9
 v9:=Tryz.zeroValue9
 t21:=Tryz.underlying21
 a21:=Tryz.isAgg21
 z21:=Tryz.sizeOf21
 v21:=Tryz.zeroValue21
 t46:=Tryz.underlying156
 a46:=Tryz.isAgg156
 z46:=Tryz.sizeOf156
 v46:=Tryz.zeroValue156
 t105:=Tryz.underlying366
 a105:=Tryz.isAgg366
 z105:=Tryz.sizeOf366
 v105:=Tryz.zeroValue366
 t116:=Tryz.underlying327
 a116:=Tryz.isAgg327
 z116:=Tryz.sizeOf327
 t117:=Tryz.underlying328
 a117:=Tryz.isAgg328
 z117:=Tryz.sizeOf328
 v117:=Tryz.zeroValue328
 t119:=Tryz.underlying379
 a119:=Tryz.isAgg379
 z119:=Tryz.sizeOf379
 t124:=Tryz.underlying331
 a124:=Tryz.isAgg331
 z124:=Tryz.sizeOf331
 v124:=Tryz.zeroValue331
 t138:=Tryz.underlying381
 a138:=Tryz.isAgg381
 z138:=Tryz.sizeOf381
 v138:=Tryz.zeroValue381
 t139:=Tryz.underlying382
 a139:=Tryz.isAgg382
 z139:=Tryz.sizeOf382
 v139:=Tryz.zeroValue382
 g3:=by kernel_rfl
 g4:=by kernel_rfl }
open Go.RowKit in
theorem Tryz.strings_Trim_one (s:ByteArray) (c:UInt8) (hc:c.toNat<128) (w:World) (hs:s.size≤9223372036854775807) :
 Calls Tryz.prog 175 #[.string s,.string ⟨#[c]⟩] w fun e w'=>e=.returned (.string ⟨(Lib.trimB s.data.toList c).toArray⟩)∧(w'=w∨w'=w.drew):=Any.strings_Trim_one Tryz.lays160 s c hc w hs
def Tryz.lays105_ren:Go.Shelf.Ren:=⟨fun | 105=>57 | 212=>115 | 99=>116 | 165=>117 | 166=>118 | 170=>119 | 169=>120 | 263=>168 | 264=>169 | 206=>170 | 240=>171 | 241=>172 | 276=>202 | 277=>203 | n=>n,fun | 9=>9 | 3=>3 | 4=>4 | 20=>20 | 0=>0 | 46=>156 | 109=>228 | 5=>5 | 72=>233 | 76=>237 | 51=>27 | 146=>288 | 53=>290 | 148=>291 | 70=>231 | 37=>75 | 75=>236 | 127=>293 | 164=>322 | 80=>48 | n=>n,fun | n=>n⟩
theorem Tryz.lays105:Go.Proofs.Lays.n105 Tryz.prog Tryz.lays105_ren:={
 mixed:=by kernel_rfl
 f99:=Tryz.func116.trans (congrArg some (by kernel_rfl))
 f105:=Tryz.func57.trans (congrArg some (by kernel_rfl))
 f165:=Tryz.func117.trans (congrArg some (by kernel_rfl))
 f166:=Tryz.func118.trans (congrArg some (by kernel_rfl))
 f169:=Tryz.func120.trans (congrArg some (by kernel_rfl))
 f170:=Tryz.func119.trans (congrArg some (by kernel_rfl))
 f206:=Tryz.func170.trans (congrArg some (by kernel_rfl))
 f212:=Tryz.func115.trans (congrArg some (by kernel_rfl))
 f240:=Tryz.func171.trans (congrArg some (by kernel_rfl))
 f241:=Tryz.func172.trans (congrArg some (by kernel_rfl))
 f263:=Tryz.func168.trans (congrArg some (by kernel_rfl))
 f264:=Tryz.func169.trans (congrArg some (by kernel_rfl))
 f276:=Tryz.func202.trans (congrArg some (by kernel_rfl))
 f277:=Tryz.func203.trans (congrArg some (by kernel_rfl))
 t0:=Tryz.underlying0
 a0:=Tryz.isAgg0
 z0:=Tryz.sizeOf0
 v0:=Tryz.zeroValue0
 t3:=Tryz.underlying3
 a3:=Tryz.isAgg3
 z3:=Tryz.sizeOf3
 v3:=Tryz.zeroValue3
 t4:=Tryz.underlying4
 a4:=Tryz.isAgg4
 z4:=Tryz.sizeOf4
 v4:=Tryz.zeroValue4
 t5:=Tryz.underlying5
 a5:=Tryz.isAgg5
 z5:=Tryz.sizeOf5
 v5:=Tryz.zeroValue5
 t9:=Tryz.underlying9
 a9:=Tryz.isAgg9
 z9:=Tryz.sizeOf9
 v9:=Tryz.zeroValue9
 t20:=Tryz.underlying20
 a20:=Tryz.isAgg20
 z20:=Tryz.sizeOf20
 v20:=Tryz.zeroValue20
 t37:=Tryz.underlying75
 a37:=Tryz.isAgg75
 z37:=Tryz.sizeOf75
 v37:=Tryz.zeroValue75
 t46:=Tryz.underlying156
 a46:=Tryz.isAgg156
 z46:=Tryz.sizeOf156
 v46:=Tryz.zeroValue156
 t51:=Tryz.underlying27
 a51:=Tryz.isAgg27
 z51:=Tryz.sizeOf27
 v51:=Tryz.zeroValue27
 t53:=Tryz.underlying290
 a53:=Tryz.isAgg290
 z53:=Tryz.sizeOf290
 v53:=Tryz.zeroValue290
 t70:=Tryz.underlying231
 a70:=Tryz.isAgg231
 z70:=Tryz.sizeOf231
 v70:=Tryz.zeroValue231
 t72:=Tryz.underlying233
 a72:=Tryz.isAgg233
 z72:=Tryz.sizeOf233
 v72:=Tryz.zeroValue233
 t75:=Tryz.underlying236
 a75:=Tryz.isAgg236
 z75:=Tryz.sizeOf236
 v75:=Tryz.zeroValue236
 t76:=Tryz.underlying237
 a76:=Tryz.isAgg237
 z76:=Tryz.sizeOf237
 v76:=Tryz.zeroValue237
 t109:=Tryz.underlying228
 a109:=Tryz.isAgg228
 z109:=Tryz.sizeOf228
 v109:=Tryz.zeroValue228
 t127:=Tryz.underlying293
 a127:=Tryz.isAgg293
 z127:=Tryz.sizeOf293
 v127:=Tryz.zeroValue293
 t146:=Tryz.underlying288
 a146:=Tryz.isAgg288
 z146:=Tryz.sizeOf288
 v146:=Tryz.zeroValue288
 t148:=Tryz.underlying291
 a148:=Tryz.isAgg291
 z148:=Tryz.sizeOf291
 v148:=Tryz.zeroValue291
 t164:=Tryz.underlying322
 a164:=Tryz.isAgg322
 z164:=Tryz.sizeOf322
 v164:=Tryz.zeroValue322 }
theorem Tryz.Builder_Extra_105:Builder.Extra Tryz.prog Tryz.lays105_ren:={
 sizeBuilder:=by kernel_rfl
 liesBuilder:=by kernel_rfl
 t5:=Tryz.underlying5
 a5:=Tryz.isAgg5
 z5:=Tryz.sizeOf5
 v5:=Tryz.zeroValue5
 infoByte:=by kernel_rfl
 cellsByte:=by kernel_rfl
 sizeByte:=by kernel_rfl
 neB5:=by decide }
open Go.RowKit Go.Lib in
theorem Tryz.strings_Repeat (s:ByteArray) (c:Nat) (w:World) (hc:c≤9223372036854775807) (hlen:s.size * c≤140737488355328) :
 Calls Tryz.prog 57 #[.string s,.int .i64 c] w fun e w'=>e=.returned (.string ⟨(Lib.repeatL s.data.toList c).toArray⟩)∧Below w.heap.size w w':=Any.strings_Repeat Tryz.lays105 Tryz.Builder_Extra_105 s c w hc hlen
end Go.Proofs
