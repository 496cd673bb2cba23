/- Package buffer: counts, the first one taken away; walked. -/
import Derived.Test.YthfocmakkeonoaaGreatDoorQInz
import Derived.Test.YthfocmakkeonoaaGreatDoorSlFz
import Derived.Test.YthfocmakkeonoaaGreatDoorSlFz
set_option linter.unusedVariables false
set_option linter.unusedSimpArgs false
set_option maxRecDepth 100000
set_option maxHeartbeats 16000000
namespace Go.Proofs.YthfocmakkeonoaaGreatDoor
open Go.RowKit
def buG (b:Bu) (tf tp tb:Int) (c:CA):List CA:=[.val (vi b.cf),.val (vi b.cp),.val (vi b.cb),.val (vi tf),.val (vi tp),.val (vi tb),c,.val (vi b.hz),.val (vi b.pl),.val (vi b.dr),.val (vi b.ev)]
attribute [go_sem] buG
def QDE (l:List Fr):T:=.row 175 1 (l.map fun f=>[.box (frT f)])
def buO (b:Bu):List CA:=buG b b.l.length (Qb1 b.l) (bts b.l) (.hd (QDE b.l))
attribute [go_sem] buO QDE
theorem QiM (n m:Int):Qan Tryz.prog 107 [.ca (.val (vi n)),.ca (.val (vi m))] [] (.ca (.val (vi (max 1 (min n m))))) []:=by
 refine Qaa Tryz.func107 rfl Tryz.ntmps107 Tryz.results107 ⟨by decide,by simp⟩ fun C hC=>?_
 repeat' first | refine sp_ ?_ | exact ex0 | exact re0 []
theorem QwT (a b c:Int):Qan Tryz.prog 46 [.ca (.val (.agg [vi a,vi b,vi c]))] [] (.ca (.val (.agg [vi (max 1 (min a 1024)),vi (max 1 (min b 65536)),vi (max 1 (min c 67108864))]))) []:=by
 have c1:=QiM a 1024
 have c2:=QiM b 65536
 have c3:=QiM c 67108864
 refine Qaa Tryz.func46 rfl Tryz.ntmps46 Tryz.results46 ⟨by decide,by simp⟩ fun C hC=>?_
 repeat' first | refine sp_ ?_ | exact ex0 | refine Qab Tryz.call107 (c1) [] ex1 ?_ | refine Qab Tryz.call107 (c2) [] ex1 ?_ | refine Qab Tryz.call107 (c3) [] ex1 ?_ | exact re0 []
theorem QAa (a b c:Int):Qan Tryz.prog 15 [.ca (.val (.agg [vi a,vi b,vi c]))] [] (.ptr 0 0) [buO (Qbb a b c)]:=by
 have c1:=QwT a b c
 unfold buO Qbb QDE
 dsimp only
 rw [List.map_nil,show ((([]:List Fr).length:Nat):Int)=0 from rfl,show ((Qb1 []:Nat):Int)=0 from rfl,show ((bts []:Nat):Int)=0 from rfl]
 refine Qaa Tryz.func15 rfl Tryz.ntmps15 Tryz.results15 ⟨by decide,by simp⟩ fun C hC=>?_
 repeat' first | refine sp_ ?_ | exact ex0 | refine Qab Tryz.call46 (c1) [] ex1 ?_ | exact re0 [(6,0)]
theorem QtU (b:Bu) (tf tp tb:Int) (es:List (List V)) (f:Fr) (hf:f.Ok) (sg:Int) (hs:sg=1∨sg=-1) (h1:-1099511627776≤tf∧tf≤1099511627776) (h2:-1099511627776≤tp∧tp≤1099511627776) (h3:-1099511627776≤tb∧tb≤1099511627776) :
  Qan Tryz.prog 74 [.ptr 0 3,.ptr 1 0,.ca (.val (vi sg))] [buG b tf tp tb (.hd (.rw 175 1 es)),frO f] (.ca (.val (.tup []))) [buG b (tf+sg) (tp+sg * f.ps.length) (tb+sg * Qbo f.ps) (.hd (.rw 175 1 es)),frO f]:=by
 have c1:=QoM f hf
 have c2:=Ql2 f
 have hl:=hf.len
 have hn:=hf.n1
 have hsum:=hf.sum
 rcases hs with rfl | rfl
 ·refine Qaa Tryz.func74 rfl Tryz.ntmps74 Tryz.results74 ⟨by decide,by simp⟩ fun C hC=>?_
  repeat' first | refine sp_ ?_ | exact ex0 | refine Qab Tryz.call142 (c1) [(1001,0)] ex1 ?_ | refine Qab Tryz.call143 (c2) [(1001,0)] ex1 ?_ | exact re0 []
 ·refine Qaa Tryz.func74 rfl Tryz.ntmps74 Tryz.results74 ⟨by decide,by simp⟩ fun C hC=>?_
  repeat' first | refine sp_ ?_ | exact ex0 | refine Qab Tryz.call142 (c1) [(1001,0)] ex1 ?_ | refine Qab Tryz.call143 (c2) [(1001,0)] ex1 ?_ | exact re0 []
end Go.Proofs.YthfocmakkeonoaaGreatDoor
