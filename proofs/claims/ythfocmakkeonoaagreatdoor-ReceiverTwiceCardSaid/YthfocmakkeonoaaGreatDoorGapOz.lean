/- Layer 22: what is kept of what is wanting, in plain Lean. -/
import Derived.Test.YthfocmakkeonoaaGreatDoorSplBz
import Derived.Test.YthfocmakkeonoaaGreatDoorGap3z
set_option linter.unusedVariables false
set_option linter.unusedSimpArgs false
set_option maxRecDepth 100000
set_option maxHeartbeats 16000000
namespace Go.Proofs.YthfocmakkeonoaaGreatDoor
open Go.RowKit
theorem QAo (m t f a:Int):(QA8 m t f a).Ok 0:=by
 constructor <;> simp only [QA8,QiJ,List.length_nil] <;> first | omega | simp
theorem QAp {l:List Wt} (h:l.Pairwise fun u v=>u.n<v.n) (k:Nat):(l.drop k).Pairwise fun u v=>u.n<v.n:=h.sublist (List.drop_sublist _ _)
theorem Qw5 {g:Gp} {K:Int} (h:g.Ok K) (hK:0≤K) (n0 now0:Int):(QeO g n0 now0).1.Ok (K+1):=by
 have hn:=QkG n0
 unfold QeO
 dsimp only
 generalize Qiw n0=n at *
 generalize QcD now0=now at *
 obtain ⟨a1,a2,a3,a4,a5,a6,a7,a8,a9,a10,a17,a11,a12,a13,a14,a15,a16⟩:=h
 split
 ·rename_i ha
  refine ⟨a1,a2,a3,a4,a5,a6,a7,a8,a9,a10,fun h=>by (dsimp only at h;cases h),fun w hw=>?_,a12,hn.1,hn.2,a15,by dsimp only;omega⟩
  dsimp only at hw
  rw [a17 ha] at hw
  cases hw
 split
 ·rename_i hany _
  refine ⟨a1,a2,a3,a4,a5,a6,a7,a8,?_,?_,fun h=>absurd h hany,fun w hw=>?_,fun w hw=>?_,a13,a14,a15,by dsimp only;omega⟩
  ·dsimp only
   split
   ·rw [List.length_append,List.length_take,List.length_drop];omega
   ·exact a9
  ·dsimp only
   split
   ·rw [←List.eraseIdx_eq_take_drop_succ]
    exact a10.sublist (List.eraseIdx_sublist _ _)
   ·exact a10
  ·dsimp only at hw ⊢
   split at hw
   ·rcases List.mem_append.1 hw with hw | hw
    ·exact a11 w (List.mem_of_mem_take hw)
    ·exact a11 w (List.mem_of_mem_drop hw)
   ·exact a11 w hw
  ·dsimp only at hw ⊢
   split at hw
   ·rcases List.mem_append.1 hw with hw | hw
    ·exact a12 w (List.mem_of_mem_take hw)
    ·exact a12 w (List.mem_of_mem_drop hw)
   ·exact a12 w hw
 ·rename_i hany hle
  have hov:Qjg g n=max 0 ((g.l.length:Int)+(n-g.gr-1)-g.m):=rfl
  have hsk:QlM g n=max 0 (Qjg g n-g.l.length):=rfl
  generalize Qjg g n=ov at *
  generalize QlM g n=sk at *
  have hmem:∀ w∈(g.l++Qi4 (now+g.f) g.a (g.gr+1+sk) (n-g.gr-1-sk).toNat).drop (ov-sk).toNat,w∈g.l∨w∈Qi4 (now+g.f) g.a (g.gr+1+sk) (n-g.gr-1-sk).toNat:=fun w hw=>List.mem_append.1 (List.mem_of_mem_drop hw)
  refine ⟨a1,a2,a3,a4,a5,a6,a7,a8,?_,?_,fun h=>absurd h hany,fun w hw=>?_,fun w hw=>?_,hn.1,hn.2,by dsimp only;omega,by dsimp only;omega⟩
  ·dsimp only
   rw [List.length_drop,List.length_append,Qf9]
   omega
  ·refine QAp (List.pairwise_append.2 ⟨a10,QtL _ _ _ _,fun u hu v hv=>?_⟩) _
   have h1:=(a11 u hu).2
   have h2:=(QeH hv).1
   omega
  ·rcases hmem w hw with h | h
   ·have:=a11 w h
    dsimp only
    omega
   ·have:=QeH h
    dsimp only
    omega
  ·rcases hmem w hw with h | h
   ·exact a12 w h
   ·obtain ⟨_,_,_,h4,h5⟩:=QeH h
    rw [h4,h5]
    omega
theorem QeL {t now:Int}:∀ {l:List Wt} {w:Wt},w∈(Qdg t now l).2.1→(∃ v∈l,w=v)∨∃ v∈l,Qoj t now v=some w
 | [],w,h=>by cases h
 | x::l,w,h=>by
  rw [Qdg] at h
  (try dsimp only at h)
  split at h
  ·cases hk:Qoj t now x with
   | none=>
    rw [hk] at h
    rcases QeL (l:=l) h with ⟨v,h1,h2⟩ | ⟨v,h1,h2⟩
    ·exact .inl ⟨v,List.mem_cons_of_mem _ h1,h2⟩
    ·exact .inr ⟨v,List.mem_cons_of_mem _ h1,h2⟩
   | some y=>
    rw [hk] at h
    rcases List.mem_cons.1 h with rfl | h
    ·exact .inr ⟨x,List.mem_cons_self ..,hk⟩
    ·rcases QeL (l:=l) h with ⟨v,h1,h2⟩ | ⟨v,h1,h2⟩
     ·exact .inl ⟨v,List.mem_cons_of_mem _ h1,h2⟩
     ·exact .inr ⟨v,List.mem_cons_of_mem _ h1,h2⟩
  ·rcases List.mem_cons.1 h with rfl | h
   ·exact .inl ⟨_,List.mem_cons_self ..,rfl⟩
   ·rcases QeL (l:=l) h with ⟨v,h1,h2⟩ | ⟨v,h1,h2⟩
    ·exact .inl ⟨v,List.mem_cons_of_mem _ h1,h2⟩
    ·exact .inr ⟨v,List.mem_cons_of_mem _ h1,h2⟩
theorem QoX {t now:Int} {w v:Wt} (h:Qoj t now w=some v):v.n=w.n∧v.tr=w.tr+1∧v.tr≤t∧v.wt=min (2 * w.wt) 1048576:=by
 unfold Qoj at h
 split at h
 ·cases h
 ·cases h
  exact ⟨rfl,rfl,by dsimp only;omega,rfl⟩
theorem Qum {t now:Int}:∀ {l:List Wt},l.Pairwise (fun u v=>u.n<v.n)→(Qdg t now l).2.1.Pairwise fun u v=>u.n<v.n
 | [],_=>List.Pairwise.nil
 | w::l,h=>by
  obtain ⟨h1,h2⟩:=List.pairwise_cons.1 h
  have ih:=Qum (t:=t) (now:=now) h2
  have key:∀ x∈(Qdg t now l).2.1,w.n<x.n:=fun x hx=>by
   rcases QeL hx with ⟨v,hv,rfl⟩ | ⟨v,hv,e⟩
   ·exact h1 _ hv
   ·rw [(QoX e).1];exact h1 _ hv
  rw [Qdg]
  (try dsimp only)
  split
  ·cases hk:Qoj t now w with
   | none=>exact ih
   | some y=>exact List.pairwise_cons.2 ⟨fun x hx=>by rw [(QoX hk).1];exact key x hx,ih⟩
  ·exact List.pairwise_cons.2 ⟨key,ih⟩
theorem QAq {g:Gp} {K:Int} (h:g.Ok K) (hK:0≤K) (now0:Int):(Qwn g now0).1.Ok (K+1):=by
 obtain ⟨a1,a2,a3,a4,a5,a6,a7,a8,a9,a10,a17,a11,a12,a13,a14,a15,a16⟩:=h
 obtain ⟨b1,b2,b3,b4⟩:=QhC g.t (QcD now0) g.l
 unfold Qwn
 dsimp only
 refine ⟨a1,a2,a3,a4,a5,a6,a7,a8,by (try dsimp only);omega,Qum a10,fun h=>by (dsimp only at h ⊢;rw [a17 h];rfl),fun w hw=>?_,fun w hw=>?_,a13,a14,by (try dsimp only);omega,by (try dsimp only);omega⟩
 ·rcases QeL hw with ⟨v,hv,rfl⟩ | ⟨v,hv,e⟩
  ·exact a11 _ hv
  ·rw [(QoX e).1];exact a11 _ hv
 ·rcases QeL hw with ⟨v,hv,rfl⟩ | ⟨v,hv,e⟩
  ·exact a12 _ hv
  ·obtain ⟨_,e2,e3,e4⟩:=QoX e
   have:=a12 v hv
   omega
end Go.Proofs.YthfocmakkeonoaaGreatDoor
