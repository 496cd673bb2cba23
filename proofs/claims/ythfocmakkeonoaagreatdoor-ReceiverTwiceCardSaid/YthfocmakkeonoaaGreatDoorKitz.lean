/- Masks and joined bits of fixed-width numbers, as remainders and sums: no program in sight. -/
import Derived.WalkKit
import Derived.Test.YthfocmakkeonoaaGreatDoorRows
import Derived.WalkLawsBesides
import Derived.WalkSpells
import Derived.ProofKit
import Derived.OpenShut
import Derived.ShutString
import Derived.BigQuiet
import Derived.Deep.QuietTactic
import Derived.Deep.RegionHeld3
import Derived.Deep.RegionLaw
import Derived.Deep.AppendLies
import Derived.Deep.AppendSrc
import Derived.Deep.Draws
import Derived.Lib.Hide
import Derived.Lib.Strings
import Derived.Outline
import Derived.LaidEqlPtr
import Derived.Deep.DeepCutAuto
import Derived.Deep.CutBlock
set_option linter.unusedVariables false
set_option linter.unusedSimpArgs false
set_option maxRecDepth 100000
set_option maxHeartbeats 16000000
namespace Go.Proofs.YthfocmakkeonoaaGreatDoor
theorem QkY (n:Int) (h0:-9223372036854775808≤n) (h1:n<9223372036854775808):IntKind.i64.wrap n=n:=by rw [IntKind.wrap_i64];omega
theorem QbV (i:Nat) (hi:i≤62) (x:Int):bits .and .i64 x (2 ^ i-1)=x % 2 ^ i:=by
 have h2:(2:Nat) ^ i≤2 ^ 62:=Nat.pow_le_pow_right (by decide) hi
 have hp:0<(2:Nat) ^ i:=Nat.pow_pos (by decide)
 have e1:(BitVec.ofInt 64 ((2:Int) ^ i-1)).toNat=2 ^ i-1:=by
  rw [BitVec.toNat_ofInt]
  have:((2:Int) ^ i-1)=((2 ^ i-1:Nat):Int):=by rw [Int.natCast_sub (by omega)];simp
  rw [this,←Int.natCast_emod,Int.toNat_natCast,Nat.mod_eq_of_lt (by omega)]
 have e2:((BitVec.ofInt 64 x).toNat:Int)=x % 2 ^ 64:=by
  rw [BitVec.toNat_ofInt,Int.toNat_of_nonneg (Int.emod_nonneg _ (by decide))];simp
 have e3:(((BitVec.ofInt 64 x).toNat % 2 ^ i:Nat):Int)=x % 2 ^ i:=by
  rw [Int.natCast_emod,e2]
  have hd:((2 ^ i:Nat):Int) ∣ 2 ^ 64:=by
   refine ⟨((2 ^ (64-i):Nat):Int),?_⟩
   rw [←Int.natCast_mul,←Nat.pow_add,show i+(64-i)=64 from by omega];simp
  have:=Int.emod_emod_of_dvd x hd
  simpa using this
 show IntKind.i64.wrap ((BitVec.ofInt 64 x &&& BitVec.ofInt 64 ((2:Int) ^ i-1)).toNat:Int)=_
 rw [BitVec.toNat_and,e1,Nat.and_two_pow_sub_one_eq_mod,e3]
 have h3:=Int.emod_nonneg x (show (2:Int) ^ i≠0 from Int.pow_ne_zero (by decide))
 have h4:=Int.emod_lt_of_pos x (show (0:Int)<2 ^ i from Int.pow_pos (by decide))
 have h5:((2:Int) ^ i)≤2 ^ 62:=by
  have:((2 ^ i:Nat):Int)≤((2 ^ 62:Nat):Int):=Int.ofNat_le.2 h2
  simpa using this
 exact QkY _ (by omega) (by omega)
theorem Qvd (x:Int):bits .and .i64 x 1=x % 2:=QbV 1 (by decide) x
theorem Qve (x:Int):bits .and .i64 x 3=x % 4:=QbV 2 (by decide) x
theorem Qvf (x:Int):bits .and .i64 x 7=x % 8:=QbV 3 (by decide) x
theorem Qrc (x:Int):bits .and .i64 x 15=x % 16:=QbV 4 (by decide) x
theorem Qrd (x:Int):bits .and .i64 x 31=x % 32:=QbV 5 (by decide) x
theorem Qre (x:Int):bits .and .i64 x 63=x % 64:=QbV 6 (by decide) x
theorem Qpl (x:Int):bits .and .i64 x 127=x % 128:=QbV 7 (by decide) x
theorem Qpm (x:Int):bits .and .i64 x 255=x % 256:=QbV 8 (by decide) x
theorem Qmz (x:Int):bits .and .i64 x 4095=x % 4096:=QbV 12 (by decide) x
theorem QkZ (x:Int):bits .and .i64 x 65535=x % 65536:=QbV 16 (by decide) x
theorem Qrf (x:Int):bits .and .i64 x 16777215=x % 16777216:=QbV 24 (by decide) x
attribute [go_sem] Qvd Qve Qvf Qrc Qrd Qre Qpl Qpm Qmz QkZ Qrf
theorem QhI (n:Int) (h0:0≤n) (h1:n<2 ^ 32):IntKind.u32.wrap n=n:=by rw [IntKind.wrap_u32];omega
theorem Qpn (n:Int) (h0:0≤n) (h1:n<2 ^ 63):IntKind.i64.wrap n=n:=QkY n (by omega) (by omega)
theorem QnP (i:Nat) (x y:Int) (hx₀:0≤x) (hx:x % 2 ^ i=0) (hx₁:x<4294967296) (hy₀:0≤y) (hy:y<2 ^ i) (hy₁:y<4294967296):bits .or .u32 x y=x+y:=
 bits_join .u32 32 (by decide) QhI i x y hx₀ hx hx₁ hy₀ hy hy₁
theorem Qhp (i:Nat) (x y:Int) (hx₀:0≤x) (hx:x % 2 ^ i=0) (hx₁:x<9223372036854775808) (hy₀:0≤y) (hy:y<2 ^ i) (hy₁:y<9223372036854775808):bits .or .i64 x y=x+y:=
 bits_join .i64 63 (by decide) Qpn i x y hx₀ hx hx₁ hy₀ hy hy₁
theorem QjX (a b:Nat) (h:a<16777216) (hb:b<256):bits .or .u32 ((a:Int) * 256) (b:Int)=((256 * a+b:Nat):Int):=by
 rw [QnP 8 _ _ (by omega) (by omega) (by omega) (by omega) (by omega) (by omega)]
 omega
end Go.Proofs.YthfocmakkeonoaaGreatDoor
namespace Go.Proofs.YthfocmakkeonoaaGreatDoor
open Go.RowKit
abbrev str (l:List UInt8):Value:=.string ⟨l.toArray⟩
def bv (b:UInt8):Value:=.int .u8 b.toNat
attribute [go_sem] ByteArray.extract_mk
@[go_sem,simp] theorem Qvg (l:List UInt8) (a:Nat):(l.drop a).take (l.length-a)=l.drop a:=
 List.take_of_length_le (by simp)
theorem QBd (s:ByteArray):∃ l:List UInt8,s=⟨l.toArray⟩:=⟨s.data.toList,(Lib.mk_data s).symm⟩
@[simp,go_sem] theorem QDM (l:List UInt8):(ByteArray.mk l.toArray).size=l.length:=by simp [ByteArray.size]
theorem Qpo (l:List UInt8) (i:Nat) (h:i<(ByteArray.mk l.toArray).size):(ByteArray.mk l.toArray)[i]=l[i]'(by simpa using h):=rfl
attribute [simp,go_sem] Qpo
theorem Qrg (l m:List UInt8):(ByteArray.mk l.toArray++ByteArray.mk m.toArray)=⟨(l++m).toArray⟩:=by
 apply ByteArray.ext;simp [ByteArray.data_append]
attribute [simp,go_sem] Qrg
structure Chg (S:Nat→Prop) (w w':World):Prop where
 os:w'.os=w.os
 tape:w'.tape=w.tape
 output:w'.output=w.output
 size:w.heap.size≤w'.heap.size
 block:∀ k,k<w.heap.size→¬S k→w'.heap[k]? = w.heap[k]?
def Nothing:Nat→Prop:=fun _=>False
section
variable {S T:Nat→Prop} {a b c w w':World}
theorem Chg.refl (S:Nat→Prop) (w:World):Chg S w w:=⟨rfl,rfl,rfl,Nat.le_refl _,fun _ _ _=>rfl⟩
theorem Chg.step (h:Chg S a b) (k:Chg T b c) (hs:∀ i,i<a.heap.size→T i→S i):Chg S a c:=
 ⟨k.os.trans h.os,k.tape.trans h.tape,k.output.trans h.output,Nat.le_trans h.size k.size,
  fun i hi hn=>(k.block i (Nat.lt_of_lt_of_le hi h.size) (fun t=>hn (hs i hi t))).trans (h.block i hi hn)⟩
theorem Chg.trans (h:Chg S a b) (k:Chg S b c):Chg S a c:=h.step k fun _ _ t=>t
theorem Chg.mono (h:Chg S a b) (hs:∀ i,i<a.heap.size→S i→T i):Chg T a b:=
 ⟨h.os,h.tape,h.output,h.size,fun i hi hn=>h.block i hi fun t=>hn (hs i hi t)⟩
theorem Chg.drew (h:Chg S a b):Chg S a b.drew:=⟨h.os,h.tape,h.output,h.size,h.block⟩
theorem Chg.alloc (h:Chg S a b) (o:Obj):Chg S a (b.alloc o):=
 h.trans ⟨rfl,rfl,rfl,by simp,fun k hk _=>Below.heap_alloc b o k hk⟩
theorem Chg.setCell (h:Chg S a b) (p:Addr) (u:Value) (hp:p.block<a.heap.size→S p.block):Chg S a (b.setCell p u):=
 ⟨h.os,h.tape,h.output,by simpa [World.setCell] using h.size,fun i hi hn=>by
  rw [heap_setCell_other b p i u (fun e=>hn (by subst e;exact hp hi))]
  exact h.block i hi hn⟩
theorem Chg.grown {row:Option Nat} (h:Chg S a b) (hg:b.grownBy c row) (hr:∀ k,row=some k→k<a.heap.size→S k):Chg S a c:=
 h.step (T:=fun k=>row=some k) ⟨hg.os,hg.tape,hg.output,hg.size,fun k hk hn=>hg.block k hk fun e=>hn e.symm⟩ fun i hi t=>hr i t hi
theorem Chg.below (h:Chg S w w') (B:Nat) (hB:B≤w.heap.size) (hs:∀ i,i<B→¬S i):Below B w w':=
 ⟨h.os,h.tape,h.output,h.size,fun k hk=>h.block k (Nat.lt_of_lt_of_le hk hB) (hs k hk)⟩
theorem Chg.ofBelow {B:Nat} (h:Below B w w'):Chg (fun k=>B≤k) w w':=
 ⟨h.os,h.tape,h.output,h.size,fun k _ hn=>h.block k (Nat.lt_of_not_le hn)⟩
theorem Chg.cell (h:Chg S w w') {p:Addr} (hp:p.block<w.heap.size) (hn:¬S p.block):w'.cell? p=w.cell? p:=
 World.cell?_of_block (h.block _ hp hn)
end
def Blk (w:World) (g:Nat) (t:TypeId) (cs:Array Value):Prop:=w.heap[g]? = some (.cells cs t (0,0))
section
variable {w w':World} {g:Nat} {t:TypeId} {cs:Array Value} {S:Nat→Prop}
theorem Blk.lt (h:Blk w g t cs):g<w.heap.size:=by
 rcases Nat.lt_or_ge g w.heap.size with hlt | hge
 ·exact hlt
 ·unfold Blk at h;rw [Array.getElem?_eq_none hge] at h;cases h
theorem Blk.cell (h:Blk w g t cs) (i:Nat):w.cell? ⟨g,i,none⟩=cs[i]?:=cell_of_row w g i cs t (0,0) h
theorem Blk.new (w:World) (t:TypeId) (cs:Array Value):Blk (w.alloc (.cells cs t)) w.heap.size t cs:=heap_alloc_new w _
theorem Blk.drew (h:Blk w g t cs):Blk w.drew g t cs:=h
theorem Blk.alloc (h:Blk w g t cs) (o:Obj):Blk (w.alloc o) g t cs:=(Below.heap_alloc w o g h.lt).trans h
theorem Qc1 (t:TypeId) {a:Value} (h:Blk w g t #[a]):w.cell? ⟨g,0,none⟩=some a:=h.cell 0
theorem Blk.below {B:Nat} (h:Blk w g t cs) (hb:Below B w w') (hg:g<B):Blk w' g t cs:=(hb.block g hg).trans h
theorem Blk.grown {row:Option Nat} (h:Blk w g t cs) (hb:w.grownBy w' row) (hg:row≠some g):Blk w' g t cs:=(hb.block g h.lt (fun e=>hg e.symm)).trans h
end
section
variable {w w':World} {base:Nat} {e:TypeId} {size n:Nat} {v v':Value} {xs:List Value} {S:Nat→Prop}
def Moved (w:World) (v v':Value):Prop:=v'.ownBlock=v.ownBlock∨∃ r,v'.ownBlock=some r∧w.heap.size≤r
theorem Moved.refl (w:World) (v:Value):Moved w v v:=.inl rfl
theorem Moved.trans {v'':Value} (h:Moved w v v') (k:Moved w' v' v'') (hs:w.heap.size≤w'.heap.size):Moved w v v'':=by
 rcases k with k | ⟨r,k1,k2⟩
 ·rcases h with h | ⟨r,h1,h2⟩
  ·exact .inl (k.trans h)
  ·exact .inr ⟨r,k.trans h1,h2⟩
 ·exact .inr ⟨r,k1,Nat.le_trans hs k2⟩
theorem Moved.old (h:Moved w v v') {k:Nat} (hk:k<w.heap.size) (h':v'.ownBlock=some k):v.ownBlock=some k:=by
 rcases h with h | ⟨r,h1,h2⟩
 ·exact h ▸ h'
 ·rw [h1] at h'
  injection h' with h'
  omega
end
section
variable {P:Program} (w:World)
end
def Qfp (tmps:Array Value):ResultVar→Sem Value
 | .tmp t=>pure (tmps.getD t undef)
 | .cell a t=>do loadVar t (←asAddr (tmps.getD a undef))
section
variable {P:Program} {w:World} {tmps:Array Value} {fn:Func}
theorem Qyt (t:Tmp):(Qfp tmps (.tmp t)).run P w=.ok (tmps.getD t undef) w:=by simp [Qfp]
end
end Go.Proofs.YthfocmakkeonoaaGreatDoor
