/- Package buffer: a part; walked. -/
import Derived.Test.YthfocmakkeonoaaGreatDoorBuf3z
set_option linter.unusedVariables false
set_option linter.unusedSimpArgs false
set_option maxRecDepth 100000
set_option maxHeartbeats 16000000
namespace Go.Proofs.YthfocmakkeonoaaGreatDoor
open Go.RowKit
theorem QoO (b:Bu) (tf tp tb:Int) (es:List (List T)) (i:Nat) (f:Fr) (hf:f.Ok) (sg:Int) (hs:sg=1∨sg=-1) (h1:-1099511627776≤tf∧tf≤1099511627776) (h2:-1099511627776≤tp∧tp≤1099511627776) (h3:-1099511627776≤tb∧tb≤1099511627776) :
  Qan Tryz.prog 74 [.ptr 0 3,.ptr 1 0,.ca (.val (vi sg))] [buG b tf tp tb (.hdl (.row 175 1 es) i 1),frO f] (.ca (.val (.tup []))) [buG b (tf+sg) (tp+sg * f.ps.length) (tb+sg * Qbo f.ps) (.hdl (.row 175 1 es) i 1),frO f]:=by
 have c1:=QoM f hf
 have c2:=Ql2 f
 have hl:=hf.len
 have hn:=hf.n1
 have hsum:=hf.sum
 rcases hs with rfl | rfl
 ·refine Qaa Tryz.func74 rfl Tryz.ntmps74 Tryz.results74 ⟨by decide,by simp⟩ fun C hC=>?_
  repeat' first | refine sp_ ?_ | exact ex0 | refine Qab Tryz.call142 (c1) [(1001,0)] ex1 ?_ | refine Qab Tryz.call143 (c2) [(1001,0)] ex1 ?_ | exact re0 []
 ·refine Qaa Tryz.func74 rfl Tryz.ntmps74 Tryz.results74 ⟨by decide,by simp⟩ fun C hC=>?_
  repeat' first | refine sp_ ?_ | exact ex0 | refine Qab Tryz.call142 (c1) [(1001,0)] ex1 ?_ | refine Qab Tryz.call143 (c2) [(1001,0)] ex1 ?_ | exact re0 []
def cmV (k:Int) (e:List Nat):V:=.agg [vi k,.lst 1 (e.map fun t:Nat=>[vu t])]
attribute [go_sem] cmV
theorem Ql5 (b:Bu) (t:Nat) (i c:Int) (s:List UInt8) (now:Int) (h:(t:Int)≤b.hz) (ht:t<4294967296):Qan Tryz.prog 29 [.ptr 0 0,.ca (.val (vu t)),.ca (.val (.agg [vi i,vi c])),.ca (.val (vs s)),.ca (.val (vi now))] [buO b] (.ca (.val (cmV 5 []))) [buO b]:=by
 refine Qaa Tryz.func29 rfl Tryz.ntmps29 Tryz.results29 ⟨by decide,by simp⟩ fun C hC=>?_
 repeat' first | refine sp_ ?_ | exact ex0 | exact re0 []
theorem Qnp (b:Bu) (t:Nat) (i c:Int) (s:List UInt8) (now:Int) (h:b.hz<t) (hb:QA5 i c=true) (ht:t<4294967296):Qan Tryz.prog 29 [.ptr 0 0,.ca (.val (vu t)),.ca (.val (.agg [vi i,vi c])),.ca (.val (vs s)),.ca (.val (vi now))] [buO b] (.ca (.val (cmV 4 []))) [buO b]:=by
 have hb:c<1∨255<c∨i<0∨c≤i:=of_decide_eq_true hb
 by_cases h1:c<1
 ·refine Qaa Tryz.func29 rfl Tryz.ntmps29 Tryz.results29 ⟨by decide,by simp⟩ fun C hC=>?_
  repeat' first | refine sp_ ?_ | exact ex0 | exact re0 []
 ·by_cases h2:255<c
  ·refine Qaa Tryz.func29 rfl Tryz.ntmps29 Tryz.results29 ⟨by decide,by simp⟩ fun C hC=>?_
   repeat' first | refine sp_ ?_ | exact ex0 | exact re0 []
  ·by_cases h3:i<0
   ·refine Qaa Tryz.func29 rfl Tryz.ntmps29 Tryz.results29 ⟨by decide,by simp⟩ fun C hC=>?_
    repeat' first | refine sp_ ?_ | exact ex0 | exact re0 []
   ·have h4:c≤i:=by omega
    refine Qaa Tryz.func29 rfl Tryz.ntmps29 Tryz.results29 ⟨by decide,by simp⟩ fun C hC=>?_
    repeat' first | refine sp_ ?_ | exact ex0 | exact re0 []
end Go.Proofs.YthfocmakkeonoaaGreatDoor
