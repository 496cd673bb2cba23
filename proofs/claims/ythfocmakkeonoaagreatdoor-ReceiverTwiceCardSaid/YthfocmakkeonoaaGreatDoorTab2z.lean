/- Package table, walked: what it adverts; the fixed fact of layer 16. -/
import Derived.Test.YthfocmakkeonoaaGreatDoorRtp4z
set_option linter.unusedVariables false
set_option linter.unusedSimpArgs false
set_option maxRecDepth 100000
set_option maxHeartbeats 16000000
namespace Go.Proofs.YthfocmakkeonoaaGreatDoor
open Go.RowKit
abbrev adV (src:Int) (l:List En):List V:=[.sc (.int .u32 src),.lst 3 (l.map Qu6)]
theorem QFm (t:Tb) (hl:t.l.length≤1000000) (src:Int):Qan Tryz.prog 96 [.ptr 0 0,.ca (.val (.sc (.int .u32 src)))] [tbL t] (.ca (.val (.agg (adV src t.l)))) [tbL t]:=by
 refine Qaa Tryz.func96 rfl Tryz.ntmps96 Tryz.results96 ⟨by decide,by simp⟩ fun C hC=>?_
 (repeat' ((fail_if_success (refine Qat 3 ?_));(first | refine sp_ ?_ | exact ex0 | exact re0 [])))
 refine Qb2 (5,0) 1 (5,2) 270 3 ?_
 refine sx_ ?_
 refine QaD (α:={j:Nat // j≤t.l.length}) (fun j=>[(.s 13,.av (.ref (1000,3) 0)),(.r (1000,3),.tree (.rw 268 3 (t.l.map Qu6))),(.o (1000,0),.num 3),(.c (1000,0) 0,.av (.val (vi t.most))),(.c (1000,0) 1,.av (.val (vi t.ver))),(.c (1000,0) 2,.av (.ref (1000,3) 0)),(.s 14,.av (.val (vi t.l.length))),(.s 15,.av (.val (vi j.1))),(.o (4,0),.num 2),(.c (4,0) 0,.av (.val (vu 0))),(.c (4,0) 1,.av (.val (.sc (.slice none 0 0)))),(.s 4,.av (.ptr (4,0) 0 0)),(.o (5,0),.num 2),(.c (5,0) 0,.av (.val (vu src))),(.k (5,2),.row 270 3 (t.l.take j.1).length),(.c (5,0) 1,.av (.own (5,2) 0 270 3 ((t.l.take j.1).map Qu6))),(.s 5,.av (.ptr (5,0) 0 0))]) (fun j=>t.l.length-j.1) ⟨0,Nat.zero_le _⟩ ?_ (fun j=>?_)
 ·exact ex0
 ·obtain ⟨j,hj⟩:=j
  dsimp only at hj ⊢
  by_cases hlt:j<t.l.length
  ·have hge:(t.l.map Qu6).getD j []=Qu6 (t.l[j]):=by simp [hlt]
   have htk:(t.l.take j).length≤1000000:=by rw [List.length_take];omega
   have hsn:(t.l.take (j+1))=t.l.take j++[t.l[j]]:=(List.take_append_getElem hlt).symm
   repeat' first | refine sp_ ?_ | exact ex0 | exact re0 []
   refine Qau (α:={j:Nat // j≤t.l.length}) ⟨j+1,hlt⟩ ⟨?_,?_⟩
   ·(try dsimp only)
    rw [hsn]
    simp (decide:=true) (disch:=omega) only [go_sem,↓reduceIte,↓Qad]
    (try rw [List.map_append])
    (try rfl)
   ·(try dsimp only)
    omega
  ·obtain rfl:j=t.l.length:=by omega
   rw [List.take_length]
   repeat' first | refine sp_ ?_ | exact ex0 | exact re0 []
abbrev iEl (z:Int):List V:=[vi z]
def Qrb (l:List En):List Int:=(l.filter (·.up)).map (·.id)
theorem QuX (l:List En) (e:En):Qrb (l++[e])=if e.up then Qrb l++[e.id] else Qrb l:=by
 unfold Qrb
 rw [List.filter_append,List.map_append]
 cases h:e.up <;> simp [List.filter,h]
theorem QxC (l:List En):(Qrb l).length≤l.length:=by unfold Qrb;rw [List.length_map];exact List.length_filter_le _ _
theorem QGA (l:List En) (hl:l.length≤1000000) (src:Int):Qan Tryz.prog 105 [.ca (.val (.agg (adV src l)))] [] (.ca (.val (.lst 1 ((Qrb l).map iEl)))) []:=by
 refine Qaa Tryz.func105 rfl Tryz.ntmps105 Tryz.results105 ⟨by decide,by simp⟩ fun C hC=>?_
 (repeat' ((fail_if_success (refine Qat 3 ?_));(first | refine sp_ ?_ | exact ex0 | exact re0 [])))
 refine Qij 3 (3,1) 3 1 ?_
 refine sx_ ?_
 refine QaD (α:={j:Nat // j≤l.length}) (fun j=>[(.s 7,.av (.val (.lst 3 (l.map Qu6)))),(.s 8,.av (.val (vi l.length))),(.s 9,.av (.val (vi j.1))),(.s 2,.av (.val (.sc (.slice none 0 0)))),(.k (3,1),.row 3 1 (Qrb (l.take j.1)).length),(.s 3,.av (.own (3,1) 0 3 1 ((Qrb (l.take j.1)).map iEl)))]) (fun j=>l.length-j.1) ⟨0,Nat.zero_le _⟩ ?_ (fun j=>?_)
 ·simp only [List.take_zero,show Qrb []=[] from rfl]
  exact ex0
 ·obtain ⟨j,hj⟩:=j
  dsimp only at hj ⊢
  by_cases hlt:j<l.length
  ·have hge:(l.map Qu6).getD j []=Qu6 (l[j]):=by simp [hlt]
   have hsn:=QuX (l.take j) (l[j])
   rw [List.take_append_getElem hlt] at hsn
   have hle:=QxC (l.take j)
   rw [List.length_take] at hle
   cases hup:(l[j]).up with
   | false=>
    rw [hup] at hsn
    repeat' first | refine sp_ ?_ | exact ex0 | exact re0 []
    simp only [hup]
    repeat' first | refine sp_ ?_ | exact ex0 | exact re0 []
    refine Qau (α:={j:Nat // j≤l.length}) ⟨j+1,hlt⟩ ⟨?_,?_⟩
    ·(try dsimp only)
     rw [hsn]
     exact ex0
    ·(try dsimp only)
     omega
   | true=>
    rw [hup] at hsn
    repeat' first | refine sp_ ?_ | exact ex0 | exact re0 []
    simp only [hup]
    repeat' first | refine sp_ ?_ | exact ex0 | exact re0 []
    refine Qau (α:={j:Nat // j≤l.length}) ⟨j+1,hlt⟩ ⟨?_,?_⟩
    ·(try dsimp only)
     rw [hsn,if_pos rfl]
     refine sx_ ?_
     rw [List.map_append];rfl
    ·(try dsimp only)
     omega
  ·obtain rfl:j=l.length:=by omega
   rw [List.take_length]
   repeat' first | refine sp_ ?_ | exact ex0 | exact re0 []
theorem QGB (t:Tb) (hl:t.l.length≤1000000):Qan Tryz.prog 44 [.ptr 0 0] [tbL t] (.ca (.val (.lst 1 ((Qrb t.l).map iEl)))) [tbL t]:=by
 have c1:=QFm t hl 0
 have c2:=QGA t.l hl 0
 refine Qaa Tryz.func44 rfl Tryz.ntmps44 Tryz.results44 ⟨by decide,by simp⟩ fun C hC=>?_
 repeat' first | refine sp_ ?_ | exact ex0 | refine Qab Tryz.call96 (c1) [(1000,0)] ex1 ?_ | refine Qab Tryz.call105 (c2) [] ex1 ?_ | refine QaC (fun h=>?_) (fun h=>?_) | refine Qav (fun h=>?_) (fun h=>?_) | refine QaB (fun h=>?_) (fun h=>?_) | exact re0 []
end Go.Proofs.YthfocmakkeonoaaGreatDoor
