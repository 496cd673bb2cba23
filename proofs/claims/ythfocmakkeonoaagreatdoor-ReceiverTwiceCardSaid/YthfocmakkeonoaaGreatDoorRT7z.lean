/- Parts of rows that change: cut out, read, appended to, copied into, cleared. -/
import Derived.Test.YthfocmakkeonoaaGreatDoorRT6z
set_option linter.unusedVariables false
set_option linter.unusedSimpArgs false
set_option maxRecDepth 100000
set_option maxHeartbeats 16000000
namespace Go.Proofs.YthfocmakkeonoaaGreatDoor
open Go.RowKit
section
variable {P:Program} {ops:Array Oper} {C:Ctx} {E:Env} {σ:St} {a:Act} {w:World}
def Qgu (σ:St):AV→Option (Id × Nat × Nat × Nat × Nat)
 | .ref k g=>match σ (.r k) with | .tree (.rw _ sz es)=>some (k,g,sz,0,es.length) | _=>none
 | .vw k g sz off len=>some (k,g,sz,off,len)
 | _=>none
theorem QrG {e:TypeId} {sz n:Nat} {v:Value} {us:List Value} (h:w.ownsRow 0 e sz v n us):(v=.slice none 0 0∧n=0)∨∃ b cap,v=.slice (some ⟨b,0,none⟩) n cap∧n≤cap:=by
 rcases h.2 with ⟨h1,h2⟩ | ⟨g,cap,cur,h1,_,_,h2,_⟩
 ·exact .inl ⟨h1,h2⟩
 ·exact .inr ⟨g,cap,h1,h2⟩
theorem Qdo (hg:Gm C E σ a w) {x:AV} {v:Value} {k:Id} {g sz off len:Nat} {e:TypeId} {es:List (List V)} (hx:RdA E σ x v) (hv:Qgu σ x=some (k,g,sz,off,len)) (hc:gh σ k=g) (hr:σ (.r k)=.tree (.rw e sz es)) :
  ∃ us,w.ownsRow 0 e sz (E.bv k) es.length us∧(∀ r∈es,r.length=sz)∧(∀ i j (hi:i<es.length) (hj:j<es[i].length),∃ u,us[i * sz+j]? = some u∧Rd E.m (es[i][j]) u)∧(∀ b,(E.bv k).ownBlock=some b→∀ i,E.m b i=none)∧E.bf k=(E.bv k).ownBlock.toList ∧
   ((E.bv k=.slice none 0 0∧es.length=0∧v=.slice none 0 0∧len=0∧off=0)∨∃ b cap o,E.bv k=.slice (some ⟨b,0,none⟩) es.length cap∧es.length≤cap∧v=.slice (some ⟨b,o,none⟩) len (cap-off)∧(off<cap→o=off * sz)∧(off=0→o=0)):=by
 obtain ⟨us,q1,q2,q3,q4,q5⟩:=Qbu hg hr
 refine ⟨us,q1,q2,q3,q4,q5,?_⟩
 have hb:=QrG q1
 cases x with
 | ref k' g'=>
  simp only [Qgu] at hv
  split at hv
  ·rename_i e0 sz0 es0 h0
   cases hv
   rw [hr] at h0
   cases h0
   have hvv:v=E.bv k:=hx.2 hc.symm
   rcases hb with ⟨h1,h2⟩ | ⟨b,cap,h1,h2⟩
   ·exact .inl ⟨h1,h2,by rw [hvv,h1],h2,rfl⟩
   ·exact .inr ⟨b,cap,0,h1,h2,by rw [hvv,h1];rfl,fun _=>by simp,fun _=>rfl⟩
  ·cases hv
 | vw k' g' sz' off' len'=>
  simp only [Qgu,Option.some.injEq,Prod.mk.injEq] at hv
  obtain ⟨rfl,rfl,rfl,rfl,rfl⟩:=hv
  rcases hx.2 hc.symm with ⟨h1,h2,h3,h4⟩ | ⟨b,n,cap,o,h1,h2,h3,h4⟩
  ·rcases hb with ⟨h5,h6⟩ | ⟨b,cap,h5,h6⟩
   ·exact .inl ⟨h1,h6,h2,h3,h4⟩
   ·rw [h1] at h5;cases h5
  ·rcases hb with ⟨h5,h6⟩ | ⟨b2,cap2,h5,h6⟩
   ·rw [h1] at h5;cases h5
   ·rw [h1] at h5
    cases h5
    exact .inr ⟨b,cap,o,h1,h6,h2,h3,h4⟩
 | _=>simp [Qgu] at hv
def vwL:AV→List Pl
 | .ref k _=>[.h k,.r k]
 | .vw k _ _ _ _=>[.h k,.r k]
 | _=>[]
theorem Qbr {σ':St} {x:AV} (h:∀ l∈vwL x,σ' l=σ l):Qgu σ' x=Qgu σ x:=by
 cases x with
 | ref k g=>simp only [Qgu];rw [h (.r k) (by simp [vwL])]
 | _=>rfl
theorem QdD {x:AV} {k:Id} {g sz off len:Nat} (h:Qgu σ x=some (k,g,sz,off,len)):vwL x=[.h k,.r k]:=by
 cases x with
 | ref k' g'=>
  simp only [Qgu] at h
  split at h
  ·cases h;rfl
  ·cases h
 | vw k' g' sz' off' len'=>simp only [Qgu,Option.some.injEq,Prod.mk.injEq] at h;obtain ⟨rfl,_⟩:=h;rfl
 | _=>simp [Qgu] at h
def Qkd (σ:St):AV→Option (List (List V))
 | .ref k g=>match σ (.r k) with | .tree (.rw _ sz es)=>some es | _=>none
 | .vw k g sz off len=>match σ (.r k) with | .tree (.rw _ _ es)=>some ((es.drop off).take len) | _=>none
 | x=>QaW x
def Qvz (σ:St):AV→Prop
 | .ref k g=>gh σ k=g
 | .vw k g sz off len=>gh σ k=g∧match σ (.r k) with | .tree (.rw _ sz' es)=>sz'=sz∧off+len≤es.length | _=>True
 | _=>True
def Qcf:AV→Bool
 | .ref _ _ | .vw _ _ _ _ _=>true
 | x=>Qba x
theorem Qey {σ':St} {x:AV} (h:∀ l∈vwL x,σ' l=σ l):Qkd σ' x=Qkd σ x∧(Qvz σ' x↔Qvz σ x):=by
 cases x with
 | ref k g=>exact ⟨by simp only [Qkd];rw [h (.r k) (by simp [vwL])],by simp only [Qvz];rw [QaL (h (.h k) (by simp [vwL]))]⟩
 | vw k g sz off len=>exact ⟨by simp only [Qkd];rw [h (.r k) (by simp [vwL])],by simp only [Qvz];rw [QaL (h (.h k) (by simp [vwL])),h (.r k) (by simp [vwL])]⟩
 | _=>exact ⟨rfl,Iff.rfl⟩
theorem Qdp {sz off len:Nat} {es:List (List V)} {us:List Value} {m:Mem} (hz:∀ r∈es,r.length=sz) (hul:us.length=es.length * sz) (hl:off+len≤es.length) (hr:∀ i j (hi:i<es.length) (hj:j<es[i].length),∃ u,us[i * sz+j]? = some u∧Rd m (es[i][j]) u) :
  ((us.drop (off * sz)).take (len * sz)).length=len * sz∧((es.drop off).take len).length=len∧(∀ r∈(es.drop off).take len,r.length=sz) ∧
   ∀ i j (hi:i<((es.drop off).take len).length) (hj:j<(((es.drop off).take len)[i]).length),∃ u,((us.drop (off * sz)).take (len * sz))[i * sz+j]? = some u∧Rd m ((((es.drop off).take len)[i])[j]) u:=by
 have hm:off * sz+len * sz≤es.length * sz:=by rw [←Nat.add_mul];exact Nat.mul_le_mul_right _ hl
 have hll:((es.drop off).take len).length=len:=by rw [List.length_take,List.length_drop];omega
 refine ⟨by rw [List.length_take,List.length_drop];omega,hll,fun r h=>hz r (List.mem_of_mem_drop (List.mem_of_mem_take h)),fun i j hi hj=>?_⟩
 have hi2:off+i<es.length:=by omega
 have e1:((es.drop off).take len)[i]=es[off+i]:=by simp
 have hj2:j<es[off+i].length:=by rw [←e1];exact hj
 obtain ⟨u,h1,h2⟩:=hr (off+i) j hi2 hj2
 have hjs:j<sz:=by rw [←hz _ (List.getElem_mem hi2)];exact hj2
 have hlt:i * sz+j<len * sz:=by
  have:(i+1) * sz≤len * sz:=Nat.mul_le_mul_right _ (by omega)
  rw [Nat.add_mul] at this;omega
 exact ⟨u,by rw [List.getElem?_take,if_pos hlt,List.getElem?_drop,←h1];congr 1;rw [Nat.add_mul];omega,by simp only [e1];exact h2⟩
theorem QBx {v:Value} {b cap o off len sz n:Nat} {e tx:TypeId} {us:List Value} {bv:Value} (hbv:bv=.slice (some ⟨b,0,none⟩) n cap) (hown:w.ownsRow 0 e sz bv n us) (hn:n≤cap) (hv:v=.slice (some ⟨b,o,none⟩) len (cap-off)) (ho:off<cap→o=off * sz) (hl:off+len≤n)
  (hk:∃ e',P.underlying tx=some (.slice e')) (hone:∀ u∈(us.drop (off * sz)).take (len * sz),u.oneCell'=true):Src P sz tx v len ((us.drop (off * sz)).take (len * sz)) w:=by
 subst hv hbv
 have hm:off * sz+len * sz≤n * sz:=by rw [←Nat.add_mul];exact Nat.mul_le_mul_right _ hl
 obtain ⟨e',hk⟩:=hk
 refine Src.ofSlice w hk ⟨b,o,none⟩ len (cap-off) _ (by rw [List.length_take,List.length_drop,hown.1];omega) (fun j u h=>?_) hone
 by_cases h0:len=0
 ·subst h0;simp at h
 ·obtain rfl:=ho (by omega)
  rw [List.getElem?_take] at h
  split at h
  ·rw [List.getElem?_drop] at h
   have:=hown.cells (g:=b) rfl _ u h
   rw [QaF,Nat.zero_add] at this
   rw [QaF];exact this
  ·cases h
theorem Qke (hg:Gm C E σ a w) {x:AV} {v:Value} {es:List (List V)} {sz:Nat} {tx:TypeId} (hx:RdA E σ x v) (he:Qkd σ x=some es) (hc:Qvz σ x) (hsz:∀ r∈es,r.length=sz) (hone:∀ r∈es,∀ y∈r,Qfn y=true)
  (hk:if Qcf x then ∃ e',P.underlying tx=some (.slice e') else P.underlying tx=some .string∧sz=1) :
  ∃ news,Src P sz tx v es.length news w∧∀ i j (hi:i<es.length) (hj:j<es[i].length),∃ u,news[i * sz+j]? = some u∧Rd E.m (es[i][j]) u:=by
 have nil:es=[]→v=.slice none 0 0→(∃ e',P.underlying tx=some (.slice e'))→∃ news,Src P sz tx v es.length news w∧∀ i j (hi:i<es.length) (hj:j<es[i].length),∃ u,news[i * sz+j]? = some u∧Rd E.m (es[i][j]) u:=by
  rintro rfl rfl ⟨e',hk⟩
  exact ⟨[],Src.ofNil w hk 0,fun i j hi=>by simp at hi⟩
 have emp:es=[]→(∃ A c,v=.slice (some A) 0 c)→(∃ e',P.underlying tx=some (.slice e'))→∃ news,Src P sz tx v es.length news w∧∀ i j (hi:i<es.length) (hj:j<es[i].length),∃ u,news[i * sz+j]? = some u∧Rd E.m (es[i][j]) u:=by
  rintro rfl ⟨A,c,rfl⟩ ⟨e',hk⟩
  exact ⟨[],Src.ofSlice w hk A 0 c [] (by simp) (fun j u h=>by simp at h) (fun u h=>by cases h),fun i j hi=>by simp at hi⟩
 have view:∀ k g sz0 off len e0 es0,Qgu σ x=some (k,g,sz0,off,len)→gh σ k=g→σ (.r k)=.tree (.rw e0 sz0 es0)→off+len≤es0.length→es=(es0.drop off).take len→(∃ e',P.underlying tx=some (.slice e')) →
   ∃ news,Src P sz tx v es.length news w∧∀ i j (hi:i<es.length) (hj:j<es[i].length),∃ u,news[i * sz+j]? = some u∧Rd E.m (es[i][j]) u:=by
  intro k g sz0 off len e0 es0 h1 h2 h3 h4 h5 h6
  obtain ⟨us,q1,q2,q3,q4,q5,q6⟩:=Qdo hg hx h1 h2 h3
  obtain ⟨s1,s2,s3,s4⟩:=Qdp (off:=off) (len:=len) q2 q1.1 h4 q3
  rcases q6 with ⟨p1,p2,p3,p4,p5⟩ | ⟨b,cap,o,p1,p2,p3,p4,p5⟩
  ·exact nil (List.eq_nil_of_length_eq_zero (by rw [h5,s2,p4])) p3 h6
  ·by_cases h0:len=0
   ·exact emp (List.eq_nil_of_length_eq_zero (by rw [h5,s2,h0])) ⟨_,_,by rw [p3,h0]⟩ h6
   ·have hsz0:sz0=sz:=by
     have hp:0<es.length:=by rw [h5,s2];omega
     have h7:=hsz es[0] (by simp)
     have h8:=s3 (es[0]) (by rw [←h5];simp)
     omega
    subst hsz0
    have hone2:∀ u∈(us.drop (off * sz0)).take (len * sz0),u.oneCell'=true:=fun u hu=>by
     obtain ⟨t,ht,rfl⟩:=List.getElem_of_mem hu
     rw [s1] at ht
     have hz0:0<sz0:=by rcases Nat.eq_zero_or_pos sz0 with h | h;subst h;simp at ht;exact h
     have h1:t / sz0<((es0.drop off).take len).length:=by rw [s2];exact Nat.div_lt_of_lt_mul (by rw [Nat.mul_comm];omega)
     obtain ⟨u,hu1,hu2⟩:=s4 (t / sz0) (t % sz0) h1 (by rw [s3 _ (List.getElem_mem h1)];exact Nat.mod_lt _ hz0)
     have e7:t / sz0 * sz0+t % sz0=t:=by rw [Nat.mul_comm];exact Nat.div_add_mod t sz0
     rw [e7] at hu1
     have e9:((us.drop (off * sz0)).take (len * sz0))[t]'(by rw [s1];exact ht)=u:=by
      rw [List.getElem?_eq_getElem (by rw [s1];exact ht)] at hu1;exact Option.some.inj hu1
     rw [e9]
     exact Qcu hu2 (hone _ (by rw [h5];exact List.getElem_mem h1) _ (List.getElem_mem _))
    have hsrc:=QBx (P:=P) (tx:=tx) p1 q1 p2 p3 p4 h4 h6 hone2
    refine ⟨_,by rw [h5,s2];exact hsrc,?_⟩
    rw [h5]
    exact s4
 cases x with
 | ref k g=>
  simp only [Qkd] at he
  split at he
  ·rename_i e0 sz0 es0 h0
   cases he
   exact view k g sz0 0 es.length e0 es (by simp only [Qgu];rw [h0]) hc h0 (by omega) (by simp) (by simpa [Qcf] using hk)
  ·cases he
 | vw k g sz0 off len=>
  simp only [Qkd] at he
  obtain ⟨hc1,hc2⟩:=hc
  split at he
  ·rename_i e0 sz1 es0 h0
   cases he
   rw [h0] at hc2
   obtain ⟨rfl,hc2⟩:=hc2
   exact view k g sz1 off len e0 es0 rfl hc1 h0 hc2 rfl (by simpa [Qcf] using hk)
  ·cases he
 | val y=>exact Qla hg hx he hsz hone (by
   by_cases hb:Qba (AV.val y)=true
   ·rw [if_pos hb];rw [if_pos (show Qcf (AV.val y)=true from hb)] at hk;exact hk
   ·rw [if_neg hb];rw [if_neg (show ¬Qcf (AV.val y)=true from hb)] at hk;exact hk)
 | own k g e0 sz0 es0=>exact Qla hg hx he hsz hone (by
   rw [if_pos (show Qba (AV.own k g e0 sz0 es0)=true from rfl)];rw [if_pos (show Qcf (AV.own k g e0 sz0 es0)=true from rfl)] at hk;exact hk)
 | ptr=>simp [Qkd,QaW] at he
 | elp=>simp [Qkd,QaW] at he
 | cp=>simp [Qkd,QaW] at he
 | pv=>simp [Qkd,QaW] at he
 | nv=>simp [Qkd,QaW] at he
 | ag=>simp [Qkd,QaW] at he
 | fn=>simp [Qkd,QaW] at he
def Qlo (P:Program) (σ:St) (d:Tmp) (t:TypeId) (x:Operand):Stp:=
 match ev σ x with
 | .vw k g sz off len=>some (gh σ k=g∧(Qao P t).map (·.sh)=some .slice,[.h k]++rdl x,[(.s d,.av (.val (.sc (.int .i64 len))))])
 | _=>none
theorem QyH (d:Tmp) (t:TypeId) (x:Operand):Qbl P C σ (some d) (.call { callee:=.builtin .len,args:=#[x],argTypes:=#[t] }) (Qlo P σ d t x):=by
 unfold Qlo
 split
 ·rename_i k g sz off len hx
  refine Qar fun hc ty pos af E σ' a w hr hg=>⟨_,?_,Rd.sc _⟩
  obtain ⟨h1,h2⟩:=Qaq hr
  have hv:=Qax hg x
  rw [Qae h2,hx] at hv
  have hv:=hv.2 (by rw [QaL (h1 (.h k) (by simp))];exact hc.1.symm)
  obtain ⟨e,he⟩:=QbM hc.2
  rcases hv with ⟨_,q1,q2,_⟩ | ⟨b,n,cap,o,_,q1,_⟩
  ·simp [execOp,resolve,invoke,builtin,q1,q2,Builtin.len_,run_underlying he,goInt]
  ·simp [execOp,resolve,invoke,builtin,q1,Builtin.len_,run_underlying he,goInt]
 ·intro _ _ _ h;cases h
def Qd6 (P:Program) (σ:St) (d:Tmp) (t:TypeId) (x y:Operand):Stp:=
 match Qao P t,ev σ x,Qhq σ y with
 | some { sh:=.slice,elem:=e,.. },.vw k g sz off len,some (.int _ n)=>match σ (.r k) with
  | .tree (.rw e0 sz0 es)=>some ((Qao P e).map (·.size)=some sz∧sz0=sz∧gh σ k=g∧0≤n∧n<len∧off+len≤es.length,[.h k,.r k]++(rdl x++rdl y),[(.s d,.av (.elp k g sz (off+n.toNat) 0))])
  | _=>none
 | _,_,_=>none
theorem QpB (d:Tmp) (t:TypeId) (x y:Operand):Qbl P C σ (some d) (.indexAddr t x y) (Qd6 P σ d t x y):=by
 unfold Qd6
 split
 ·rename_i e _ _ _ k g sz off len ik n ht hx hy
  split
  ·rename_i e0 sz0 es hr
   refine Qar fun hc ty pos af E σ' a w hr0 hg=>?_
   obtain ⟨h1,h2⟩:=Qaq hr0
   obtain ⟨h2,h3⟩:=Qaq h2
   obtain ⟨c1,rfl,c2,c3,c4,c5⟩:=hc
   obtain ⟨it,dt,_,hdt,_,_,_,hsl,_⟩:=Qak ht
   have hsl:dt=.slice e:=hsl rfl
   subst hsl
   have hse:(sizeOf e).run P w=.ok sz0 w:=by
    cases hte:Qao P e with
    | none=>rw [hte] at c1;cases c1
    | some T=>rw [hte] at c1;simp at c1;rw [QaH hte,c1]
   have hv:=Qax hg x
   rw [Qae h2,hx] at hv
   have hgk:gh σ' k=g:=by rw [QaL (h1 (.h k) (by simp))];exact c2
   obtain ⟨us,q1,_,_,_,_,q6⟩:=Qdo hg hv rfl hgk (by rw [h1 (.r k) (by simp)];exact hr)
   rcases q6 with ⟨p1,p2,p3,p4,p5⟩ | ⟨b,cap,o,p1,p2,p3,p4,p5⟩
   ·omega
   ·obtain rfl:=p4 (by omega)
    refine ⟨.pointer (some ⟨b,(off+n.toNat) * sz0,none⟩),?_,Nat.le_of_eq hgk.symm,fun _=>⟨b,by rw [p1];rfl,by simp⟩⟩
    simp [execOp,p3,QaS hy h3 hg,Instr.indexAt,asIntOf,run_underlying hdt,hse,QaF,c3,c4,Nat.add_mul]
  ·intro _ _ _ h;cases h
 ·intro _ _ _ h;cases h
def QfK (P:Program) (σ:St) (d:Tmp) (t:TypeId) (x:Operand) (lo hi mx:Option Operand):Stp:=
 match QbN σ lo,QbN σ hi,mx with
 | some l,some h,none=>match Qao P t,Qgu σ (ev σ x) with
  | some { sh:=.slice,elem:=e,.. },some (k,g,sz,off,len)=>match σ (.r k) with
   | .tree (.rw e' sz' es)=>some ((Qao P e).map (·.size)=some sz∧sz'=sz∧0≤Qdz l∧Qdz l≤Qdl len h∧off+(Qdl len h).toNat≤es.length∧gh σ k=g∧off+len≤es.length,vwL (ev σ x)++(rdl x++(bl lo++bl hi)),
    [(.s d,.av (.vw k g sz (off+(Qdz l).toNat) ((Qdl len h).toNat-(Qdz l).toNat)))])
   | _=>none
  | _,_=>none
 | _,_,_=>none
theorem Qcx {n cap:Nat} {k k' k'':IntKind} {lo hi:Option Int} (hnc:n≤cap) (h0:0≤Qdz lo) (h1:Qdz lo≤Qdl n hi) (h2:Qdl n hi≤cap) (w:World) :
  (Instr.sliceBounds true n cap (lo.map (Value.int k)) (hi.map (Value.int k')) none).run P w=.ok ((Qdz lo).toNat,(Qdl n hi).toNat,cap) w:=by
 have hs:∀ (k:IntKind) (m:Int) (y:Nat) (c:BoundsCode),0≤m→m≤y→(Instr.sliceBound (.int k m) y c).run P w=.ok m.toNat w:=fun k m y c a b=>Qbc ⟨a,b⟩ w
 unfold Instr.sliceBounds
 cases hi with
 | none=>
  simp only [Qdl,Option.getD_none] at h1 h2 ⊢
  cases lo with
  | none=>simp [Qdz]
  | some l=>simp only [Qdz,Option.getD_some] at h0 h1 ⊢;simp [hs _ _ _ _ h0 h1]
 | some h=>
  simp only [Qdl,Option.getD_some] at h1 h2 ⊢
  have hh:0≤h:=by omega
  cases lo with
  | none=>simp [Qdz,hs _ _ _ _ hh h2]
  | some l=>
   simp only [Qdz,Option.getD_some] at h0 h1 ⊢
   have:l≤(h.toNat:Int):=by omega
   simp [hs _ _ _ _ hh h2,hs _ _ _ _ h0 this]
theorem QrH (d:Tmp) (t:TypeId) (x:Operand) (lo hi mx:Option Operand):Qbl P C σ (some d) (.slice t x lo hi mx) (QfK P σ d t x lo hi mx):=by
 unfold QfK
 split
 ·rename_i _ _ _ l h hl hh
  split
  ·rename_i e _ _ _ k g sz off len ht hx
   split
   ·rename_i e' sz' es hr
    refine Qar fun hc ty pos af E σ' a w hr0 hg=>?_
    obtain ⟨c0,rfl,c1,c2,c3,c4,c5⟩:=hc
    obtain ⟨h1,h2⟩:=Qaq hr0
    obtain ⟨h2,h3⟩:=Qaq h2
    obtain ⟨h3,h4⟩:=Qaq h3
    obtain ⟨it,dt,_,hdt,_,_,_,hsl,_⟩:=Qak ht
    have hsl:dt=.slice e:=hsl rfl
    subst hsl
    have hse:(sizeOf e).run P w=.ok sz' w:=by
     cases hte:Qao P e with
     | none=>rw [hte] at c0;cases c0
     | some T=>rw [hte] at c0;simp at c0;rw [QaH hte,c0]
    have hin:=QdD hx
    have hk':σ' (.r k)=.tree (.rw e' sz' es):=by rw [h1 (.r k) (by rw [hin];simp)];exact hr
    have hgk:gh σ' k=g:=by rw [QaL (h1 (.h k) (by rw [hin];simp))];exact c4
    have hv:=Qax hg x
    rw [Qae h2] at hv
    have hx':Qgu σ' (ev σ x)=some (k,g,sz',off,len):=by rw [Qbr h1];exact hx
    obtain ⟨us,q1,_,_,_,_,q6⟩:=Qdo hg hv hx' hgk hk'
    obtain ⟨k1,b1⟩:=Qa9 hl h3 hg
    obtain ⟨k2,b2⟩:=Qa9 hh h4 hg
    rcases q6 with ⟨p1,p2,p3,p4,p5⟩ | ⟨b,cap,o,p1,p2,p3,p4,p5⟩
    ·subst p4 p5
     have hz1:(Qdl 0 h).toNat=0:=by omega
     have hz2:(Qdz l).toNat=0:=by omega
     have hb:=Qcx (P:=P) (n:=0) (cap:=0) (k:=k1) (k':=k2) (k'':=k2) (lo:=l) (hi:=h) (Nat.le_refl _) c1 c2 (by omega) w
     refine ⟨.slice none 0 0,?_,Nat.le_of_eq hgk.symm,fun _=>.inl ⟨p1,rfl,by omega,by omega⟩⟩
     simp only [hz1,hz2] at hb
     simp [execOp,p3,b1,b2,Instr.sliceAt,Instr.slice,run_underlying hdt,hb,hse]
    ·have hb:=Qcx (P:=P) (n:=len) (cap:=cap-off) (k:=k1) (k':=k2) (k'':=k2) (lo:=l) (hi:=h) (by omega) c1 c2 (by omega) w
     generalize (Qdz l).toNat=l' at *
     generalize hh':(Qdl len h).toNat=h' at *
     refine ⟨.slice (some ⟨b,if cap-off=l' then o else o+l' * sz',none⟩) (h'-l') (cap-off-l'),?_,Nat.le_of_eq hgk.symm,fun _=>.inr ⟨b,es.length,cap,_,p1,by rw [Nat.sub_sub],fun q=>?_,fun q=>?_⟩⟩
     ·by_cases hm:cap-off=l'
      ·rw [hm] at hb p3
       simp [execOp,p3,b1,b2,Instr.sliceAt,Instr.slice,run_underlying hdt,hb,hse,hm]
      ·simp [execOp,p3,b1,b2,Instr.sliceAt,Instr.slice,run_underlying hdt,hb,hse,hm,QaF]
     ·rw [if_neg (by omega),p4 (by omega),Nat.add_mul]
     ·have ho:o=0:=p5 (by omega)
      have hl0:l'=0:=by omega
      subst ho hl0
      simp
   ·intro _ _ _ h;cases h
  ·intro _ _ _ h;cases h
 ·intro _ _ _ h;cases h
def QyI (P:Program) (σ:St) (tx:TypeId) (x:Operand) (new:List (List V)) (n by_ sz:Nat) (z:List Value):Prop:=
 (n+new.length) * by_≤140737488355328∧n+new.length≤9223372036854775807∧z.length=sz∧0<sz∧(∀ r∈new,r.length=sz)∧(∀ r∈new,∀ y∈r,Qfn y=true) ∧
  (if Qcf (ev σ x) then (Qao P tx).map (·.sh)=some .slice else (Qao P tx).map (·.sh)=some .str∧sz=1)∧Qvz σ (ev σ x)
def Qd7 (P:Program) (σ:St) (d:Tmp) (t tx:TypeId) (s x:Operand):Stp:=
 match Qao P t,Qgu σ (ev σ s) with
 | some { sh:=.slice,elem:=e,.. },some (k,g,sz0,0,len)=>match σ (.r k),Qao P e,Qkd σ (ev σ x) with
  | .tree (.rw e' sz' old),some { size:=sz,bytes:=by_,zero:=z,zok:=true,.. },some new=>
   some (QyI P σ tx x new len by_ sz z∧e'=e∧sz'=sz∧sz0=sz∧len≤old.length∧gh σ k=g,[.g k]++(vwL (ev σ s)++(vwL (ev σ x)++(rdl s++rdl x))),Qcw σ k (.rw e sz (old.take len++new))++[(.s d,.av (.ref k (gh σ k+1)))])
  | _,_,_=>none
 | _,_=>none
theorem QpC (d:Tmp) (t tx:TypeId) (s x:Operand):Qbl P C σ (some d) (.call { callee:=.builtin .append,args:=#[s,x],argTypes:=#[t,tx] }) (Qd7 P σ d t tx s x):=by
 unfold Qd7
 split
 ·rename_i e _ _ _ k g sz0 len ht hs
  split
  ·rename_i e' sz' old _ _ sz by_ z _ _ _ new hr hte hnew
   refine QaV (W0:=Qcw σ k (.rw e sz (old.take len++new))) fun hc ty pos af E σ' a w hr0 hg hd=>?_
   obtain ⟨hc0,rfl,rfl,rfl,hcl,hcg⟩:=hc
   obtain ⟨c1,c2,c3,c4,c5,c6,c7,c8⟩:=hc0
   obtain ⟨h0,h1⟩:=Qaq hr0
   obtain ⟨h1,h2⟩:=Qaq h1
   obtain ⟨h2,h3⟩:=Qaq h2
   obtain ⟨h3,h4⟩:=Qaq h3
   obtain ⟨it,dt,_,hdt,_,_,_,hsl,_⟩:=Qak ht
   have hsl:dt=.slice e':=hsl rfl
   subst hsl
   obtain ⟨ie,de,hie,hde,hsz,hby,_,_,_,_,_,_,_,hz,_,_,_,hzk⟩:=Qak hte
   obtain ⟨zv,hzv⟩:=Option.isSome_iff_exists.1 hzk.symm
   have hz:z=zv.cells.toList:=by rw [hzv] at hz;exact hz
   have hin:=QdD hs
   have hk':σ' (.r k)=.tree (.rw e' sz0 old):=by rw [h1 (.r k) (by rw [hin];simp)];exact hr
   have hgh:gh σ' k=gh σ k:=QaL (h1 (.h k) (by rw [hin];simp))
   have e0:Qcw σ k (.rw e' sz0 (old.take len++new))=Qcw σ' k (.rw e' sz0 (old.take len++new)):=(Qe9 (h0 _ (by simp)) (h1 _ (by rw [hin];simp))).symm
   have hvs:=Qax hg s
   rw [Qae h3] at hvs
   have hvx:=Qax hg x
   rw [Qae h4] at hvx
   obtain ⟨s1,s2⟩:=Qey h2
   obtain ⟨us,q1,q2,q3,q4,q5,q6⟩:=Qdo hg hvs (by rw [Qbr h1];exact hs) (by rw [hgh];exact hcg) hk'
   obtain ⟨news,hsrc,hnr⟩:=Qke (P:=P) (tx:=tx) hg hvx (by rw [s1];exact hnew) (s2.2 c8) c5 c6 (by
    split
    ·rename_i hb;rw [if_pos hb] at c7;exact QbM c7
    ·rename_i hb;rw [if_neg hb] at c7;exact ⟨QeU c7.1,c7.2⟩)
   have hzs:zv.cells.size=sz0:=by rw [←c3,hz];simp
   have hlt:(old.take len).length=len:=by rw [List.length_take];omega
   -- the part as a row of its own
   have hown:∃ vs,a.eval s=vs∧w.ownsRow 0 e' sz0 vs len (us.take (len * sz0))∧(vs.ownBlock=(E.bv k).ownBlock):=by
    obtain ⟨A,c,p1,p2,p3,p4⟩:=Qn1 (b:=0) q1 hcl
    rcases q6 with ⟨r1,r2,r3,r4,r5⟩ | ⟨b,cap,o,r1,r2,r3,r4,r5⟩
    ·subst r4
     refine ⟨_,r3,?_,by rw [r1]⟩
     rw [p1] at r1
     injection r1 with x1 x2 x3
     subst x1 x3
     exact p4
    ·rw [p1] at r1
     cases r1
     obtain rfl:=r5 rfl
     exact ⟨_,by rw [r3,Nat.sub_zero],p4,by rw [p1];rfl⟩
   obtain ⟨vs,hvs2,hown,hob⟩:=hown
   obtain ⟨v',w',r1,r2,r3,r4,_⟩:=Qce w t tx ty e' ie zv sz0 by_ hdt hie hzv hsz.symm hby.symm hzs c4 vs len _ hown _ _ _ hsrc (by unfold maxLen;omega) c1
   have hl:(old.take len++new).length=len+new.length:=by rw [List.length_append,hlt]
   have hfr:∀ b,v'.ownBlock=some b→∀ i,E.m b i=none:=fun b hb i=>by
    rcases r4 b hb with h | h
    ·exact hg.fresh h i
    ·exact q4 b (by rw [←hob];exact h) i
   obtain ⟨t1,t2,t3,t4⟩:=Qdp (off:=0) (len:=len) q2 q1.1 (by omega) q3
   simp only [Nat.zero_mul,List.drop_zero] at t1 t2 t3 t4
   have hh:Hg E.m w' [.rw e' sz0 (old.take len++new)] [v'] v'.ownBlock.toList:=Qkc (by rw [hl];exact r2) (fun r h=>by
    rcases List.mem_append.1 h with h | h
    ·exact t3 r h
    ·exact c5 r h) (Qck (by rw [t1,hlt]) (fun i h=>t3 _ (List.getElem_mem h)) t4 hnr) hfr
   have hF:∀ b∈v'.ownBlock.toList,b∈E.bf k∨w.heap.size≤b:=fun b hb=>by
    have hb:v'.ownBlock=some b:=by simpa using hb
    rcases r4 b hb with h | h
    ·exact .inr h
    ·exact .inl (by rw [q5,←hob,h];simp)
   have hch:Chg (fun b=>b∈E.bf k) w w':=⟨r3.os,r3.tape,r3.output,r3.size,fun b h5 h6=>r3.block b h5 fun h7=>by
    rcases r4 b h7 with h | h
    ·omega
    ·exact h6 (by rw [q5,←hob,h];simp)⟩
   obtain ⟨E',g1,g2,g3,g4⟩:=hg.newT k _ _ v' _ w' hk' (fun y h=>by cases h) (fun ys h=>by cases h) hh hF hch
   rw [e0,←hgh]
   refine ⟨v',w',E',?_,g1,g4⟩
   simp [execOp,resolve,invoke,builtin,hvs2,r1]
  ·intro _ _ _ h;cases h
 ·intro _ _ _ h;cases h
theorem QeY {m:Mem} {es new:List (List V)} {us news:List Value} {sz off:Nat} (hz:∀ r∈es,r.length=sz) (hul:us.length=es.length * sz) (hr:∀ i j (hi:i<es.length) (hj:j<es[i].length),∃ u,us[i * sz+j]? = some u∧Rd m (es[i][j]) u)
  (hnl:news.length=new.length * sz) (hle:off+new.length≤es.length) (hsn:∀ r∈new,r.length=sz) (h2:∀ i j (hi:i<new.length) (hj:j<new[i].length),∃ u,news[i * sz+j]? = some u∧Rd m (new[i][j]) u) :
  (∀ r∈es.take off++new++es.drop (off+new.length),r.length=sz)∧∀ i j (hi:i<(es.take off++new++es.drop (off+new.length)).length) (hj:j<(es.take off++new++es.drop (off+new.length))[i].length),
   ∃ u,(us.take (off * sz)++news++us.drop (off * sz+news.length))[i * sz+j]? = some u∧Rd m ((es.take off++new++es.drop (off+new.length))[i][j]) u:=by
 obtain ⟨a1,a2,a3,a4⟩:=Qdp (off:=0) (len:=off) hz hul (by omega) hr
 obtain ⟨b1,b2,b3,b4⟩:=Qdp (off:=off+new.length) (len:=es.length-(off+new.length)) hz hul (by omega) hr
 simp only [Nat.zero_mul,List.drop_zero] at a1 a2 a3 a4
 have e1:(es.drop (off+new.length)).take (es.length-(off+new.length))=es.drop (off+new.length):=List.take_of_length_le (by rw [List.length_drop];omega)
 have e2:(us.drop ((off+new.length) * sz)).take ((es.length-(off+new.length)) * sz)=us.drop (off * sz+news.length):=by
  rw [hnl,←Nat.add_mul]
  refine List.take_of_length_le ?_
  rw [List.length_drop,hul,Nat.sub_mul]
  omega
 rw [e1] at b2 b3
 simp only [e1,e2] at b4
 rw [e2] at b1
 have hmid:∀ i j (hi:i<(es.take off++new).length) (hj:j<(es.take off++new)[i].length),∃ u,(us.take (off * sz)++news)[i * sz+j]? = some u∧Rd m ((es.take off++new)[i][j]) u:=
  Qck (by rw [a1,a2]) (fun i h=>a3 _ (List.getElem_mem h)) a4 h2
 have hsm:∀ r∈es.take off++new,r.length=sz:=fun r h=>by
  rcases List.mem_append.1 h with h | h
  ·exact a3 r h
  ·exact hsn r h
 refine ⟨fun r h=>?_,Qck (by rw [List.length_append,a1,hnl,List.length_append,a2,Nat.add_mul]) (fun i h=>hsm _ (List.getElem_mem h)) hmid b4⟩
 rcases List.mem_append.1 h with h | h
 ·exact hsm r h
 ·exact b3 r h
def Qh7:X→Prop
 | .lent _ _=>False
 | _=>True
theorem Qd8 {x:X} (h:Qh7 x):∀ i y,x≠.lent i y:=fun i y e=>by subst e;exact h
def Qh8 (P:Program) (σ:St) (d:Tmp) (t tx:TypeId) (s x:Operand):Stp:=
 match Qao P t,Qgu σ (ev σ s) with
 | some { sh:=.slice,elem:=e,.. },some (k,g,sz0,off,len)=>match σ (.r k),Qkd σ (ev σ x) with
  | .tree (.rw e' sz old),some new=>some (new.length≤len∧sz0=sz∧off+len≤old.length∧(Qao P e).map (·.size)=some sz∧(∀ r∈new,r.length=sz)∧(∀ r∈new,∀ y∈r,Qfn y=true) ∧
    (if Qcf (ev σ x) then (Qao P tx).map (·.sh)=some .slice else (Qao P tx).map (·.sh)=some .str∧sz=1)∧Qvz σ (ev σ x)∧gh σ k=g∧Qh7 (σ (.l k)),
   [.g k,.l k]++(vwL (ev σ s)++(vwL (ev σ x)++(rdl s++rdl x))),QaR σ k (.rw e' sz (old.take off++new++old.drop (off+new.length)))++[(.s d,.av (.val (.sc (.int .i64 new.length))))])
  | _,_=>none
 | _,_=>none
theorem QvA (d:Tmp) (t tx:TypeId) (s x:Operand):Qbl P C σ (some d) (.call { callee:=.builtin .copy,args:=#[s,x],argTypes:=#[t,tx] }) (Qh8 P σ d t tx s x):=by
 unfold Qh8
 split
 ·rename_i e _ _ _ k g sz0 off len ht hs
  split
  ·rename_i e' sz old new hr hnew
   refine QaV (W0:=QaR σ k (.rw e' sz (old.take off++new++old.drop (off+new.length)))) fun hc ty pos af E σ' a w hr0 hg hd=>?_
   obtain ⟨c1,rfl,c2,c3,c4,c5,c6,c7,c8,c9⟩:=hc
   obtain ⟨h0,h1⟩:=Qaq hr0
   obtain ⟨h1,h2⟩:=Qaq h1
   obtain ⟨h2,h3⟩:=Qaq h2
   obtain ⟨h3,h4⟩:=Qaq h3
   obtain ⟨it,dt,_,hdt,_,_,_,hsl,_⟩:=Qak ht
   have hsl:dt=.slice e:=hsl rfl
   subst hsl
   have hie:(P.info? e).map (·.size)=some sz0:=by
    cases hte:Qao P e with
    | none=>rw [hte] at c3;cases c3
    | some T=>obtain ⟨ie,de,hie,hde,hsz,_⟩:=Qak hte;rw [hte] at c3;simp at c3;rw [hie];simp [←hsz,c3]
   have hin:=QdD hs
   have hk':σ' (.r k)=.tree (.rw e' sz0 old):=by rw [h1 (.r k) (by rw [hin];simp)];exact hr
   have hgh:gh σ' k=gh σ k:=QaL (h1 (.h k) (by rw [hin];simp))
   have hl':∀ i y,σ' (.l k)≠.lent i y:=by rw [h0 (.l k) (by simp)];exact Qd8 c9
   have hvs:=Qax hg s
   rw [Qae h3] at hvs
   have hvx:=Qax hg x
   rw [Qae h4] at hvx
   obtain ⟨s1,s2⟩:=Qey h2
   obtain ⟨us,q1,q2,q3,q4,q5,q6⟩:=Qdo hg hvs (by rw [Qbr h1];exact hs) (by rw [hgh];exact c8) hk'
   obtain ⟨news,hsrc,hnr⟩:=Qke (P:=P) (tx:=tx) hg hvx (by rw [s1];exact hnew) (s2.2 c7) c4 c5 (by
    split
    ·rename_i hb;rw [if_pos hb] at c6;exact QbM c6
    ·rename_i hb;rw [if_neg hb] at c6;exact ⟨QeU c6.1,c6.2⟩)
   have hnl:=hsrc.newsLen
   have e0:QaR σ k (.rw e' sz0 (old.take off++new++old.drop (off+new.length)))=QaR σ' k (.rw e' sz0 (old.take off++new++old.drop (off+new.length))):=by unfold QaR;rw [Qaz (h0 (.g k) (by simp))]
   have hlen:(old.take off++new++old.drop (off+new.length)).length=old.length:=by simp only [List.length_append,List.length_take,List.length_drop];omega
   obtain ⟨hz,_⟩:=QeY (off:=off) q2 q1.1 q3 hnl (by omega) c4 hnr
   have same:new=[]→old.take off++new++old.drop (off+new.length)=old:=by rintro rfl;simp
   rw [e0]
   by_cases hn0:new=[]
   ·have hsame:=same hn0
    rw [hsame]
    obtain ⟨E',g1,g2,_,_⟩:=hg.setT k _ (.rw e' sz0 old) _ w hk' (fun ys h=>by cases h) (fun y h=>by cases h) (fun ys h=>by cases h) (hg.tr.hg k _ hk').1 (fun b hb=>.inl hb) (Chg.refl _ _) (fun i y h=>absurd h (hl' i y))
    have hnews:news=[]:=List.eq_nil_of_length_eq_zero (by rw [hnl,hn0];simp)
    rcases q6 with ⟨r1,r2,r3,r4,r5⟩ | ⟨b,cap,o,r1,r2,r3,r4,r5⟩
    ·subst r4
     have hrun:=Qcm (P:=P) (w:=w) t tx ty e sz0 none 0 0 _ _ news w hdt hie hsrc c1 (fun g hg=>by cases hg) (fun _=>rfl)
     exact ⟨.int .i64 new.length,w,E',by simp [execOp,resolve,invoke,builtin,r3,hrun,goInt],by simpa using g1,Rd.sc _⟩
    ·have hrun:=Qcm (P:=P) (w:=w) t tx ty e sz0 (some ⟨b,o,none⟩) len (cap-off) _ _ news w hdt hie hsrc c1 (fun g hg=>by rw [hnews];simp [storeCells]) (fun h=>by cases h)
     exact ⟨.int .i64 new.length,w,E',by simp [execOp,resolve,invoke,builtin,r3,hrun,goInt],by simpa using g1,Rd.sc _⟩
   ·have hn1:0<new.length:=List.length_pos_iff.2 hn0
    rcases q6 with ⟨r1,r2,r3,r4,r5⟩ | ⟨b,cap,o,r1,r2,r3,r4,r5⟩
    ·omega
    ·obtain rfl:=r4 (by omega)
     have hob:(E.bv k).ownBlock=some b:=by rw [r1];rfl
     have hmul:off * sz0+news.length≤old.length * sz0:=by rw [hnl,←Nat.add_mul];exact Nat.mul_le_mul_right _ (by omega)
     obtain ⟨w',E',t1,t2,⟨cap',t3⟩,t4⟩:=QcR (P:=P) hg hk' hl' hob (p:=off * sz0) (ys:=news) (old.take off++new++old.drop (off+new.length)) hmul hsrc.one hlen hz (fun us' u1 u3=>(QeY (off:=off) q2 u1 u3 hnl (by omega) c4 hnr).2)
     have hrun:=Qcm (P:=P) (w:=w) t tx ty e sz0 (some ⟨b,off * sz0,none⟩) len (cap-off) _ _ news w' hdt hie hsrc c1 (fun g hg=>by cases hg;exact t1) (fun h=>by cases h)
     exact ⟨.int .i64 new.length,w',E',by simp [execOp,resolve,invoke,builtin,r3,hrun,goInt],t2,Rd.sc _⟩
  ·intro _ _ _ h;cases h
 ·intro _ _ _ h;cases h
def QfL (P:Program) (σ:St) (d:Tmp) (t:TypeId) (x:Operand):Stp:=
 match Qao P t,Qgu σ (ev σ x) with
 | some { sh:=.slice,elem:=e,.. },some (k,g,sz0,off,len)=>match σ (.r k),Qao P e with
  | .tree (.rw e' sz old),some { size:=s,zero:=z,zok:=true,.. }=>some (s=sz∧z.length=sz∧sz0=sz∧off+len≤old.length∧z.all Value.oneCell'=true∧gh σ k=g∧Qh7 (σ (.l k)),
   [.g k,.l k]++(vwL (ev σ x)++rdl x),QaR σ k (.rw e' sz (old.take off++List.replicate len (z.map .sc)++old.drop (off+len)))++[(.s d,.av (.val (.tup [])))])
  | _,_=>none
 | _,_=>none
theorem QfM (z:Array Value) (sz n i j:Nat) (hz:z.size=sz) (hi:i<n) (hj:j<sz):(Builtin.zeroCells z n).toList[i * sz+j]? = z.toList[j]?:=by
 subst hz
 have h1:i * z.size+j<n * z.size:=by
  have:(i+1) * z.size≤n * z.size:=Nat.mul_le_mul_right _ hi
  rw [Nat.add_mul] at this;omega
 have h2:(i * z.size+j) % z.size=j:=by rw [Nat.mul_comm,Nat.mul_add_mod,Nat.mod_eq_of_lt hj]
 simp [Builtin.zeroCells,h1,h2,hj]
theorem QrI (d:Tmp) (t:TypeId) (x:Operand):Qbl P C σ (some d) (.call { callee:=.builtin .clear,args:=#[x],argTypes:=#[t] }) (QfL P σ d t x):=by
 unfold QfL
 split
 ·rename_i e _ _ _ k g sz0 off len ht hs
  split
  ·rename_i e' sz old _ _ s _ z _ _ _ hr hte
   refine QaV (W0:=QaR σ k (.rw e' sz (old.take off++List.replicate len (z.map .sc)++old.drop (off+len)))) fun hc ty pos af E σ' a w hr0 hg hd=>?_
   obtain ⟨rfl,c1,rfl,c2,c3,c4,c5⟩:=hc
   obtain ⟨h0,h1⟩:=Qaq hr0
   obtain ⟨h1,h2⟩:=Qaq h1
   obtain ⟨it,dt,_,hdt,_,_,_,hsl,_⟩:=Qak ht
   have hsl:dt=.slice e:=hsl rfl
   subst hsl
   obtain ⟨ie,de,hie,hde,hsz,hby,_,_,_,_,_,_,_,hz,_,_,_,hzk⟩:=Qak hte
   obtain ⟨zv,hzv⟩:=Option.isSome_iff_exists.1 hzk.symm
   have hz:z=zv.cells.toList:=by rw [hzv] at hz;exact hz
   have hzr:∀ w,(zeroValue e).run P w=.ok zv w:=fun w=>by simp [zeroValue,typeInfo,hie,hzv]
   have hzs:zv.cells.size=sz0:=by rw [←c1,hz];simp
   have hin:=QdD hs
   have hk':σ' (.r k)=.tree (.rw e' sz0 old):=by rw [h1 (.r k) (by rw [hin];simp)];exact hr
   have hgh:gh σ' k=gh σ k:=QaL (h1 (.h k) (by rw [hin];simp))
   have hl':∀ i y,σ' (.l k)≠.lent i y:=by rw [h0 (.l k) (by simp)];exact Qd8 c5
   have hvs:=Qax hg x
   rw [Qae h2] at hvs
   obtain ⟨us,q1,q2,q3,q4,q5,q6⟩:=Qdo hg hvs (by rw [Qbr h1];exact hs) (by rw [hgh];exact c4) hk'
   obtain ⟨new,hnew⟩:∃ new,new=List.replicate len (z.map V.sc):=⟨_,rfl⟩
   obtain ⟨news,hnews⟩:∃ news,news=(Builtin.zeroCells zv.cells len).toList:=⟨_,rfl⟩
   have hnewl:new.length=len:=by rw [hnew];simp
   have hnl:news.length=new.length * sz0:=by rw [hnews,hnewl];simp [size_zeroCells,hzs]
   have hsn:∀ r∈new,r.length=sz0:=fun r h=>by rw [hnew] at h;rw [(List.mem_replicate.1 h).2,List.length_map,c1]
   have hnr:∀ i j (hi:i<new.length) (hj:j<new[i].length),∃ u,news[i * sz0+j]? = some u∧Rd E.m (new[i][j]) u:=fun i j hi hj=>by
    have hj1:j<sz0:=by rw [←hsn _ (List.getElem_mem hi)];exact hj
    have hj2:j<z.length:=by omega
    have e5:new[i]=z.map V.sc:=by simp [hnew]
    refine ⟨z[j],?_,by simp only [e5,List.getElem_map];exact Rd.sc _⟩
    rw [hnews,QfM zv.cells sz0 len i j hzs (by omega) hj1,←hz,List.getElem?_eq_getElem hj2]
   have hone:∀ y∈news,y.oneCell'=true:=fun y hy=>by
    obtain ⟨q,hq,rfl⟩:=List.getElem_of_mem hy
    have hz0:0<sz0:=by rcases Nat.eq_zero_or_pos sz0 with h | h;rw [hnl,h] at hq;simp at hq;exact h
    have h5:=QfM zv.cells sz0 len (q / sz0) (q % sz0) hzs (Nat.div_lt_of_lt_mul (by rw [Nat.mul_comm,←hnewl,←hnl];exact hq)) (Nat.mod_lt _ hz0)
    have e7:q / sz0 * sz0+q % sz0=q:=by rw [Nat.mul_comm];exact Nat.div_add_mod q sz0
    rw [e7,←hnews,List.getElem?_eq_getElem hq,←hz] at h5
    have hj2:q % sz0<z.length:=by rw [c1];exact Nat.mod_lt _ hz0
    rw [List.getElem?_eq_getElem hj2] at h5
    rw [Option.some.inj h5]
    exact List.all_eq_true.1 c3 _ (List.getElem_mem hj2)
   rw [←hnew,show off+len=off+new.length by rw [hnewl]]
   have e0:QaR σ k (.rw e' sz0 (old.take off++new++old.drop (off+new.length)))=QaR σ' k (.rw e' sz0 (old.take off++new++old.drop (off+new.length))):=by unfold QaR;rw [Qaz (h0 (.g k) (by simp))]
   rw [e0]
   have hlen:(old.take off++new++old.drop (off+new.length)).length=old.length:=by simp only [List.length_append,List.length_take,List.length_drop];omega
   obtain ⟨hzz,_⟩:=QeY (off:=off) q2 q1.1 q3 hnl (by omega) hsn hnr
   by_cases hn0:len=0
   ·have hne:new=[]:=List.eq_nil_of_length_eq_zero (by omega)
    have hsame:old.take off++new++old.drop (off+new.length)=old:=by rw [hne];simp
    rw [hsame]
    obtain ⟨E',g1,g2,_,_⟩:=hg.setT k _ (.rw e' sz0 old) _ w hk' (fun ys h=>by cases h) (fun y h=>by cases h) (fun ys h=>by cases h) (hg.tr.hg k _ hk').1 (fun b hb=>.inl hb) (Chg.refl _ _) (fun i y h=>absurd h (hl' i y))
    refine ⟨.tuple #[],w,E',?_,by simpa using g1,Rd.tup _ _ rfl (fun i hi=>by simp at hi)⟩
    rcases q6 with ⟨r1,r2,r3,r4,r5⟩ | ⟨b,cap,o,r1,r2,r3,r4,r5⟩
    ·simp [execOp,resolve,invoke,builtin,r3,Builtin.clear_,run_underlying hdt]
    ·subst hn0
     simp [execOp,resolve,invoke,builtin,r3,Builtin.clear_,run_underlying hdt]
   ·rcases q6 with ⟨r1,r2,r3,r4,r5⟩ | ⟨b,cap,o,r1,r2,r3,r4,r5⟩
    ·omega
    ·obtain rfl:=r4 (by omega)
     have hob:(E.bv k).ownBlock=some b:=by rw [r1];rfl
     have hmul:off * sz0+news.length≤old.length * sz0:=by rw [hnl,←Nat.add_mul];exact Nat.mul_le_mul_right _ (by omega)
     obtain ⟨w',E',t1,t2,⟨cap',t3⟩,t4⟩:=QcR (P:=P) hg hk' hl' hob (p:=off * sz0) (ys:=news) (old.take off++new++old.drop (off+new.length)) hmul hone hlen hzz (fun us' u1 u3=>(QeY (off:=off) q2 u1 u3 hnl (by omega) hsn hnr).2)
     refine ⟨.tuple #[],w',E',?_,t2,Rd.tup _ _ rfl (fun i hi=>by simp at hi)⟩
     obtain ⟨n,hn⟩:∃ n,len=n+1:=⟨len-1,by omega⟩
     rw [hnews] at t1
     subst hn
     simp [execOp,resolve,invoke,builtin,r3,Builtin.clear_,run_underlying hdt,hzr,t1]
  ·intro _ _ _ h;cases h
 ·intro _ _ _ h;cases h
def QfN (P:Program) (σ:St) (t:TypeId) (x:Operand):Stp:=
 match Qao P t,Qgu σ (ev σ x) with
 | some { sh:=.slice,elem:=e,.. },some (k,g,sz0,off,len)=>match σ (.r k),Qao P e with
  | .tree (.rw e' sz old),some { size:=s,zero:=z,zok:=true,.. }=>some (s=sz∧z.length=sz∧sz0=sz∧off+len≤old.length∧z.all Value.oneCell'=true∧gh σ k=g∧Qh7 (σ (.l k)),
   [.g k,.l k]++(vwL (ev σ x)++rdl x),QaR σ k (.rw e' sz (old.take off++List.replicate len (z.map .sc)++old.drop (off+len))))
  | _,_=>none
 | _,_=>none
theorem QrJ (t:TypeId) (x:Operand):Qbl P C σ none (.call { callee:=.builtin .clear,args:=#[x],argTypes:=#[t] }) (QfN P σ t x):=by
 unfold QfN
 split
 ·rename_i e _ _ _ k g sz0 off len ht hs
  split
  ·rename_i e' sz old _ _ s _ z _ _ _ hr hte
   intro c0 L0 W0 hq0 hc ops ty pos af E σ' a w Kt Q _ hrr hg hKt
   simp only [Option.some.injEq,Prod.mk.injEq] at hq0
   obtain ⟨rfl,rfl,rfl⟩:=hq0
   have hr0:=QcS hrr
   obtain ⟨rfl,c1,rfl,c2,c3,c4,c5⟩:=hc
   rw [if_pos (by simp [Region.wanted])]
   show Oper.upon _ _ _ _ _ _
   obtain ⟨h0,h1⟩:=Qaq hr0
   obtain ⟨h1,h2⟩:=Qaq h1
   obtain ⟨it,dt,_,hdt,_,_,_,hsl,_⟩:=Qak ht
   have hsl:dt=.slice e:=hsl rfl
   subst hsl
   obtain ⟨ie,de,hie,hde,hsz,hby,_,_,_,_,_,_,_,hz,_,_,_,hzk⟩:=Qak hte
   obtain ⟨zv,hzv⟩:=Option.isSome_iff_exists.1 hzk.symm
   have hz:z=zv.cells.toList:=by rw [hzv] at hz;exact hz
   have hzr:∀ w,(zeroValue e).run P w=.ok zv w:=fun w=>by simp [zeroValue,typeInfo,hie,hzv]
   have hzs:zv.cells.size=sz0:=by rw [←c1,hz];simp
   have hin:=QdD hs
   have hk':σ' (.r k)=.tree (.rw e' sz0 old):=by rw [h1 (.r k) (by rw [hin];simp)];exact hr
   have hgh:gh σ' k=gh σ k:=QaL (h1 (.h k) (by rw [hin];simp))
   have hl':∀ i y,σ' (.l k)≠.lent i y:=by rw [h0 (.l k) (by simp)];exact Qd8 c5
   have hvs:=Qax hg x
   rw [Qae h2] at hvs
   obtain ⟨us,q1,q2,q3,q4,q5,q6⟩:=Qdo hg hvs (by rw [Qbr h1];exact hs) (by rw [hgh];exact c4) hk'
   obtain ⟨new,hnew⟩:∃ new,new=List.replicate len (z.map V.sc):=⟨_,rfl⟩
   obtain ⟨news,hnews⟩:∃ news,news=(Builtin.zeroCells zv.cells len).toList:=⟨_,rfl⟩
   have hnewl:new.length=len:=by rw [hnew];simp
   have hnl:news.length=new.length * sz0:=by rw [hnews,hnewl];simp [size_zeroCells,hzs]
   have hsn:∀ r∈new,r.length=sz0:=fun r h=>by rw [hnew] at h;rw [(List.mem_replicate.1 h).2,List.length_map,c1]
   have hnr:∀ i j (hi:i<new.length) (hj:j<new[i].length),∃ u,news[i * sz0+j]? = some u∧Rd E.m (new[i][j]) u:=fun i j hi hj=>by
    have hj1:j<sz0:=by rw [←hsn _ (List.getElem_mem hi)];exact hj
    have hj2:j<z.length:=by omega
    have e5:new[i]=z.map V.sc:=by simp [hnew]
    refine ⟨z[j],?_,by simp only [e5,List.getElem_map];exact Rd.sc _⟩
    rw [hnews,QfM zv.cells sz0 len i j hzs (by omega) hj1,←hz,List.getElem?_eq_getElem hj2]
   have hone:∀ y∈news,y.oneCell'=true:=fun y hy=>by
    obtain ⟨q,hq,rfl⟩:=List.getElem_of_mem hy
    have hz0:0<sz0:=by rcases Nat.eq_zero_or_pos sz0 with h | h;rw [hnl,h] at hq;simp at hq;exact h
    have h5:=QfM zv.cells sz0 len (q / sz0) (q % sz0) hzs (Nat.div_lt_of_lt_mul (by rw [Nat.mul_comm,←hnewl,←hnl];exact hq)) (Nat.mod_lt _ hz0)
    have e7:q / sz0 * sz0+q % sz0=q:=by rw [Nat.mul_comm];exact Nat.div_add_mod q sz0
    rw [e7,←hnews,List.getElem?_eq_getElem hq,←hz] at h5
    have hj2:q % sz0<z.length:=by rw [c1];exact Nat.mod_lt _ hz0
    rw [List.getElem?_eq_getElem hj2] at h5
    rw [Option.some.inj h5]
    exact List.all_eq_true.1 c3 _ (List.getElem_mem hj2)
   rw [←hnew,show off+len=off+new.length by rw [hnewl]] at hKt
   have e0:QaR σ k (.rw e' sz0 (old.take off++new++old.drop (off+new.length)))=QaR σ' k (.rw e' sz0 (old.take off++new++old.drop (off+new.length))):=by unfold QaR;rw [Qaz (h0 (.g k) (by simp))]
   rw [e0] at hKt
   have hlen:(old.take off++new++old.drop (off+new.length)).length=old.length:=by simp only [List.length_append,List.length_take,List.length_drop];omega
   obtain ⟨hzz,_⟩:=QeY (off:=off) q2 q1.1 q3 hnl (by omega) hsn hnr
   by_cases hn0:len=0
   ·have hne:new=[]:=List.eq_nil_of_length_eq_zero (by omega)
    have hsame:old.take off++new++old.drop (off+new.length)=old:=by rw [hne];simp
    rw [hsame] at hKt
    obtain ⟨E',g1,g2,_,_⟩:=hg.setT k _ (.rw e' sz0 old) _ w hk' (fun ys h=>by cases h) (fun y h=>by cases h) (fun ys h=>by cases h) (hg.tr.hg k _ hk').1 (fun b hb=>.inl hb) (Chg.refl _ _) (fun i y h=>absurd h (hl' i y))
    have hrun:(execOp a.eval ⟨none,.call { callee:=.builtin .clear,args:=#[x],argTypes:=#[t] },ty,pos,af,none⟩).run P w=.ok (.value (.tuple #[])) w:=by
     rcases q6 with ⟨r1,r2,r3,r4,r5⟩ | ⟨b,cap,o,r1,r2,r3,r4,r5⟩
     ·simp [execOp,resolve,invoke,builtin,r3,Builtin.clear_,run_underlying hdt]
     ·subst hn0
      simp [execOp,resolve,invoke,builtin,r3,Builtin.clear_,run_underlying hdt]
    rw [hrun]
    exact hKt a w E' g1
   ·rcases q6 with ⟨r1,r2,r3,r4,r5⟩ | ⟨b,cap,o,r1,r2,r3,r4,r5⟩
    ·omega
    ·obtain rfl:=r4 (by omega)
     have hob:(E.bv k).ownBlock=some b:=by rw [r1];rfl
     have hmul:off * sz0+news.length≤old.length * sz0:=by rw [hnl,←Nat.add_mul];exact Nat.mul_le_mul_right _ (by omega)
     obtain ⟨w',E',t1,t2,⟨cap',t3⟩,t4⟩:=QcR (P:=P) hg hk' hl' hob (p:=off * sz0) (ys:=news) (old.take off++new++old.drop (off+new.length)) hmul hone hlen hzz (fun us' u1 u3=>(QeY (off:=off) q2 u1 u3 hnl (by omega) hsn hnr).2)
     have hrun:(execOp a.eval ⟨none,.call { callee:=.builtin .clear,args:=#[x],argTypes:=#[t] },ty,pos,af,none⟩).run P w=.ok (.value (.tuple #[])) w':=by
      obtain ⟨n,hn⟩:∃ n,len=n+1:=⟨len-1,by omega⟩
      rw [hnews] at t1
      subst hn
      simp [execOp,resolve,invoke,builtin,r3,Builtin.clear_,run_underlying hdt,hzr,t1]
     rw [hrun]
     exact hKt a w' E' t2
  ·intro _ _ _ h;cases h
 ·intro _ _ _ h;cases h
end
end Go.Proofs.YthfocmakkeonoaaGreatDoor
