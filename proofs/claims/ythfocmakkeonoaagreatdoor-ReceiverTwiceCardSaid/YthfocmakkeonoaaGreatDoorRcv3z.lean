/- Pointers that are flat values, compared with nil. -/
import Derived.Test.YthfocmakkeonoaaGreatDoorRPz
import Derived.Test.YthfocmakkeonoaaGreatDoorRcv1z
set_option linter.unusedVariables false
set_option linter.unusedSimpArgs false
set_option maxRecDepth 100000
set_option maxHeartbeats 16000000
namespace Go.Proofs.YthfocmakkeonoaaGreatDoor
open Go.RowKit
section
variable {P:Program} {ops:Array Oper} {C:Ctx} {σ:St} {md:Bool} {K:St→List FP→Prop} {acc:List FP} {rest:List Oper}
theorem QoV {d:Tmp} {op:BinOp} {t t':TypeId} {x:Operand} {u:Option Addr} (hop:op=.eql∨op=.neq) (ht:(Qao P t).map (·.sh)=some .ptr) (hx:ev σ x=.val (.sc (.pointer u))) :
  Qbl P C σ (some d) (.binOp op t x (.const (.pointer none)) t') (some (True,rdl x,[(.s d,.av (.val (.sc (.bool (if op=.eql then u.isNone else u.isSome)))))])):=by
 refine Qar fun _ ty pos af E σ' a w hr hg=>⟨_,?_,Rd.sc _⟩
 have hv:=Qax hg x
 rw [Qae hr,hx] at hv
 have hv:a.eval x=.pointer u:=Rd.sc_eq hv
 have hc:a.eval (.const (.pointer none))=.pointer none:=rfl
 obtain ⟨te,hte⟩:∃ te,P.underlying t=some (.pointer te):=by
  cases hq:Qao P t with
  | none=>rw [hq] at ht;cases ht
  | some T=>
   rw [hq] at ht
   simp at ht
   obtain ⟨it,dt,_,hdt,_,_,_,_,_,_,_,_,_,_,_,hp,_⟩:=Qak hq
   exact ⟨_,by rw [hdt,hp ht]⟩
 have hq:∀ n,(Op.equalIn (n+1) t (.pointer u) (.pointer none)).run P w=.ok u.isNone w:=fun n=>by
  cases u <;> simp [Op.equalIn,run_underlying hte]
 have hb:(binOp op t (.pointer u) (.pointer none)).run P w=.ok (.bool (if op=.eql then u.isNone else u.isSome)) w:=by
  have h2:=hq 9999
  rcases hop with rfl | rfl <;> cases u <;> simp_all [binOp,Op.equal,Op.maxDepth]
 have hg2:(eqGuard op t x (.const (.pointer none)) (.pointer u) (.pointer none)).run P w=.ok () w:=by
  unfold eqGuard
  rcases hop with rfl | rfl <;> simp
 simp [execOp,hc,hv,hg2,hb]
theorem Quh {d:Tmp} {op:BinOp} {t t':TypeId} {x:Operand} {ty:TypeId} {pos:String} {af:Array Edge} {g:Option (Nat × Bool)} (u:Option Addr) (hop:op=.eql∨op=.neq) (h:gOk ops σ g∧(Qao P t).map (·.sh)=some .ptr) (hx:ev σ x=.val (.sc (.pointer u)))
  (k:Qb7 P ops C md K rest (put σ (.s d) (.av (.val (.sc (.bool (if op=.eql then u.isNone else u.isSome)))))) ((gL ops g++rdl x,[.s d])::acc)) :
  Run P ops C md K (⟨some d,.binOp op t x (.const (.pointer none)) t',ty,pos,af,g⟩::rest) σ acc:=by
 obtain ⟨h1,h2⟩:=h
 cases g with
 | none=>exact QaQ (QoV hop h2 hx _ _ _ rfl trivial ops ty pos af) (QaJ k)
 | some g=>
  obtain ⟨j,b⟩:=g
  exact QaQ (Qc5 h1.1 h1.2 (QoV hop h2 hx _ _ _ rfl trivial ops ty pos af)) (QaJ k)
end
section
variable {P:Program} {C:Ctx} {σ:St} {Q:Exit→St→Prop}
theorem QC0 {e':Exit} {n:Nat} (hC:C.nt=n) (k o:Id) (i t0:Nat) (ts:List Nat) (u:Value) (ps ps':List (Value × T)) (y:V) (ys:List T) (hi:ps[i]? = some (u,.av y)) (hu:ps.set i (u,.box ys)=ps') (hn:(ts.all fun t=>decide (t<n))=true)
  (h:(σ (.r k)=.tree (.bag ps)∧σ (.s t0)=.av (.pv u o (gg σ o))∧Qdq σ [o] [o] [ys.map Qb5]∧(Qam σ [o] [ys.map Qb5]).Nodup∧Ho.r k∉Qam σ [o] [ys.map Qb5]∧QbZ σ (.ptr o (gg σ o) 0) ts)∧Q e' (Qaf σ (QxQ σ k o ps' ys u ts))):QCb C Q e' σ:=by
 subst hu hC
 obtain ⟨⟨h1,h2,h3,h4,h5,h6⟩,hk⟩:=h
 intro E a w hg
 obtain ⟨E',g⟩:=hg.close hi h1 h2 h3 h4 h5 (Qbn h6 (QfV hn))
 exact ⟨E',_,hk,g⟩
end
section
variable {P:Program} {ops:Array Oper} {C:Ctx} {σ:St} {md:Bool} {K:St→List FP→Prop} {acc:List FP} {rest:List Oper}
def inS (l:Pl):List Pl→Bool
 | []=>false
 | m::S=>if l=m then true else inS l S
def QgR (S:List Pl):List (Pl × X)→List (Pl × X)
 | []=>[]
 | p::W=>if inS p.1 S=true then QgR S W else p::QgR S W
def QDF (σ:St) (W:List (Pl × X)):Pl→Prop
 | .g o=>gg (Qaf σ W) o=gg σ o
 | l=>Qaf σ W l=σ l
def okS (σ:St) (L:List Pl) (W:List (Pl × X)):List Pl→Prop
 | []=>True
 | l::S=>QDF σ W l∧inS l L=true∧okS σ L W S
theorem Qui:∀ {S:List Pl} {l:Pl},inS l S=true→l∈S
 | [],_,h=>by cases h
 | m::S,l,h=>by
  unfold inS at h
  split at h
  ·rename_i e;subst e;exact List.mem_cons_self ..
  ·exact List.mem_cons_of_mem _ (Qui h)
theorem Qyf {L:List Pl} {W:List (Pl × X)}:∀ {S:List Pl},okS σ L W S→∀ l,inS l S=true→QDF σ W l∧l∈L
 | [],_,_,h=>by cases h
 | m::S,hk,l,h=>by
  obtain ⟨k1,k2,k3⟩:=hk
  unfold inS at h
  split at h
  ·rename_i e;subst e;exact ⟨k1,Qui k2⟩
  ·exact Qyf k3 l h
theorem QkJ {S:List Pl} {l:Pl} (hl:inS l S=true):∀ (W:List (Pl × X)),l∉QcP (QgR S W)
 | []=>by simp [QgR,QcP]
 | p::W=>by
  unfold QgR
  split
  ·exact QkJ hl W
  ·rename_i h
   intro hm
   rcases List.mem_cons.1 (show l∈p.1::QcP (QgR S W) from hm) with e | hm
   ·exact h (e ▸ hl)
   ·exact QkJ hl W hm
theorem Qgc {S:List Pl} {l:Pl} (hl:¬inS l S=true):∀ (W:List (Pl × X)) (s1 s2:St),s1 l=s2 l→Qaf s1 (QgR S W) l=Qaf s2 W l
 | [],_,_,h=>h
 | p::W,s1,s2,h=>by
  unfold QgR
  by_cases e:inS p.1 S=true
  ·rw [if_pos e]
   refine Qgc hl W s1 (put s2 p.1 p.2) ?_
   rw [Qag _ _ (fun q=>hl (by rw [q];exact e))]
   exact h
  ·rw [if_neg e]
   refine Qgc hl W (put s1 p.1 p.2) (put s2 p.1 p.2) ?_
   unfold put
   split
   ·rfl
   ·exact h
theorem OpOk.keep {o:Oper} {L:List Pl} {W:List (Pl × X)} {S:List Pl} (h:OpOk P ops C o (rds σ L) W) (hS:okS σ L W S):OpOk P ops C o (rds σ L) (QgR S W):=by
 intro E σ' a w K Q hd hr hg hK
 refine h E σ' a w K Q hd hr hg fun a' w' E' g=>?_
 have hrr:=QcS hr
 have key:∀ l,inS l S=true→Qaf σ' (QgR S W) l=σ' l∧Qaf σ' W l=Qaf σ W l∧σ' l=σ l∧QDF σ W l:=fun l hl=>by
  obtain ⟨k1,k2⟩:=Qyf hS l hl
  exact ⟨Qcd _ _ _ (QkJ hl W),(QhL W σ σ' l (.inr (hrr l k2).symm)).symm,hrr l k2,k1⟩
 refine hK a' w' E' (g.regen _ (fun l hl=>?_) fun o=>?_)
 ·by_cases h:inS l S=true
  ·obtain ⟨k1,k2,k3,k4⟩:=key l h
   rw [k1,k2,k3]
   cases l with
   | g o=>exact absurd rfl (hl o)
   | _=>exact k4.symm
  ·exact Qgc h W σ' σ' rfl
 ·by_cases h:inS (.g o) S=true
  ·obtain ⟨k1,k2,k3,k4⟩:=key _ h
   rw [Qaz k1,Qaz k2,Qaz k3]
   exact k4.symm
  ·exact Qaz (Qgc h W σ' σ' rfl)
theorem Qnt {d:Tmp} {F:FuncId} (hK:∀ args w,(callFunc F args).run P w=.ok (.enter F args) w) {xs:List Operand} {tys:Array TypeId} {args:List Arg} {objs objs':List (List CA)} {res:Arg} {ty:TypeId} {pos:String} {af:Array Edge}
  (hspec:Qan P F args objs res objs') (ids:List Id) (S:List Pl)
  (h:Qif σ ids (xs.map (ev σ)) args∧Qdq σ ids ids objs∧(QaI (xs.map (ev σ)) args++Qam σ ids objs).Nodup)
  (hq:okS σ (QeN d xs ids (QaI (xs.map (ev σ)) args++Qam σ ids objs) objs objs') (QbY σ d ids (QaI (xs.map (ev σ)) args++Qam σ ids objs) objs' res) S)
  (k:Qb7 P ops C md K rest (Qaf σ (QgR S (QbY σ d ids (QaI (xs.map (ev σ)) args++Qam σ ids objs) objs' res))) ((QeN d xs ids (QaI (xs.map (ev σ)) args++Qam σ ids objs) objs objs',QcP (QgR S (QbY σ d ids (QaI (xs.map (ev σ)) args++Qam σ ids objs) objs' res)))::acc))
  (hn:Qg3 d ids objs'=true:=by kernel_rfl) (hl:QxJ objs.length objs'.length=true:=by kernel_rfl) :
  Run P ops C md K (⟨some d,.call { callee:=.value (.func F),args:=xs.toArray,argTypes:=tys },ty,pos,af,none⟩::rest) σ acc:=by
 obtain ⟨h1,h2,h3⟩:=h
 have h4:=QmF (ops:=ops) (C:=C) hK hspec ids (Qcg h1) (Qch h2) h3 (QcT hn) (Qfc hl) (tys:=tys) ty pos af
 exact QaQ (h4.keep hq) (QaJ k)
attribute [go_sem] inS QgR okS QDF
end
section
variable {P:Program} {ops:Array Oper} {C:Ctx} {σ:St} {md:Bool} {K:St→List FP→Prop} {acc:List FP} {rest:List Oper} {Q:Exit→St→Prop}
theorem Qw3 {id:Nat} {l:List Oper} {n:Nat} (hC:C.nt=n) (hm:P.follows .mixedOrders=true) (hds:QdP n l=true) (h:Run P l.toArray C false (fun σ' fp=>chk l fp=true∧Q .normal σ') l σ []):AW P C (.region id l.toArray true) σ Q:=fun E a w hg=>by
 obtain ⟨tr,σ',ht,hk⟩:=h.tr
 exact Qjo hm ht (by simpa using hk.1) (by rw [hC];exact hds) hg fun E a w hg=>⟨E,σ',hk.2,hg⟩
theorem QC1 {d:Tmp} {t:TypeId} {x:Operand} {o:Id} {g i n:Nat} {u:Value} {o':Id} {g':Nat} {T1:TI} (ht:Qao P t=some T1) (hT:T1.agg=false) (hx:ev σ x=.ptr o g i) (hn:σ (.o o)=.num n) (hc:gg σ o=g∧i<n∧σ (.c o i)=.av (.val (.sc u))) (hd:σ (.s d)=.av (.pv u o' g')) :
  Qbl P C σ (some d) (.load t x) (some (True,[.s d]++(rdl x++[.g o,.o o,.c o i]),[(.s d,.av (.ptr o' g' 0))])):=by
 refine Qar fun _ ty pos af E σ' a w hr0 hg=>?_
 obtain ⟨h0,hr⟩:=Qaq hr0
 obtain ⟨h1,h2⟩:=Qaq hr
 have h3:=Qax hg x
 rw [Qae h1,hx] at h3
 have h4:=h3.2 (by rw [Qaz (h2 (.g o) (by simp))];exact hc.1.symm)
 obtain ⟨v,hv,hrd⟩:=hg.ce o i (.val (.sc u)) n (by rw [h2 (.c o i) (by simp)];exact hc.2.2) (by rw [h2 (.o o) (by simp)];exact hn) hc.2.1
 have hvu:v=u:=Rd.sc_eq hrd
 have hpv:=hg.sl d _ ((h0 (.s d) (by simp)).trans hd)
 refine ⟨v,by cases T1 with | mk=>cases hT;simp [execOp,h4,Instr.loadAt,Instr.sureAddr,loadVar,Qbp ht,hv],?_⟩
 rw [hvu]
 exact hpv
theorem QFc {d:Tmp} {t:TypeId} {x:Operand} {ty:TypeId} {pos:String} {af:Array Edge} (o:Id) (g i n:Nat) (u:Value) (o':Id) (g':Nat) (T1:TI) (ht:Qao P t=some T1) (hT:T1.agg=false) (h:ev σ x=.ptr o g i∧σ (.o o)=.num n∧(gg σ o=g∧i<n∧σ (.c o i)=.av (.val (.sc u)))∧σ (.s d)=.av (.pv u o' g'))
  (k:Qb7 P ops C md K rest (Qaf σ [(.s d,.av (.ptr o' g' 0))]) (([.s d]++(rdl x++[.g o,.o o,.c o i]),[.s d])::acc)):Run P ops C md K (⟨some d,.load t x,ty,pos,af,none⟩::rest) σ acc:=
 Qde (QC1 ht hT h.1 h.2.1 h.2.2.1 h.2.2.2) rfl trivial k
end
section
variable {P:Program} {C:Ctx} {σ:St} {Q:Exit→St→Prop}
theorem QeK {E:Env} {a:Act} {w:World} (hg:Gm C E σ a w) {o:Id} {i:Nat} {x:AV} (h:σ (.c o i)=.av x∧i<Qsa (σ (.o o))):∃ v,w.cell? ⟨E.loc o,i,none⟩=some v∧RdA E σ x v:=by
 cases hn:σ (.o o) with
 | num n=>have h2:=h.2;rw [hn] at h2;exact hg.ce o i x n h.1 hn h2
 | _=>have h2:=h.2;rw [hn] at h2;exact absurd h2 (Nat.not_lt_zero _)
theorem QC2 {c:Code} {n:Nat} (hC:C.nt=n) (o':Id) (i:Nat) (o:Id) (ts:List Nat) (hn:(ts.all fun t=>decide (t<n))=true) (h:σ (.c o' i)=.av (.ptr o (gg σ o) 0)∧i<Qsa (σ (.o o')))
  (hk:∀ u:Value,AW P C c (Qaf σ ((.c o' i,.av (.val (.sc u)))::QdR ts (.pv u o (gg σ o)))) Q):AW P C c σ Q:=by
 subst hC
 intro E a w hg
 obtain ⟨v,h1,h2⟩:=QeK hg h
 have g1:=hg.cell o' i (.val (.sc v)) fun _ _ _=>⟨v,h1,Rd.sc v⟩
 have e:gg (put σ (.c o' i) (.av (.val (.sc v)))) o=gg σ o:=Qaz (Qag _ _ (by simp))
 exact hk v E a w (Gm.slots (.pv v o (gg σ o)) ts _ g1 (QfV hn) fun s hs t ht=>⟨Nat.le_of_eq ((Qaz (hs _ (by simp))).trans e).symm,fun _=>h2.2 rfl⟩)
theorem QC3 {c:Code} (o':Id) (i t0:Nat) (o:Id) (u:Value) (h:(σ (.c o' i)=.av (.val (.sc u))∧i<Qsa (σ (.o o'))∧σ (.s t0)=.av (.pv u o (gg σ o)))∧AW P C c (Qaf σ [(.c o' i,.av (.ptr o (gg σ o) 0))]) Q):AW P C c σ Q:=by
 obtain ⟨⟨h1,h2,h3⟩,hk⟩:=h
 intro E a w hg
 obtain ⟨v,h4,h5⟩:=QeK hg ⟨h1,h2⟩
 have hv:v=u:=Rd.sc_eq h5
 have hu:=(hg.sl t0 _ h3).2 rfl
 exact hk E a w (hg.cell o' i (.ptr o (gg σ o) 0) fun _ _ _=>⟨v,h4,Nat.le_refl _,fun _=>hv.trans hu⟩)
theorem QC4 {c:Code} {n:Nat} (hC:C.nt=n) (o':Id) (i:Nat) (k:Id) (ts:List Nat) (hn:(ts.all fun t=>decide (t<n))=true) (h:σ (.c o' i)=.av (.ref k (gh σ k))∧i<Qsa (σ (.o o')))
  (hk:∀ u:Value,AW P C c (Qaf σ ((.c o' i,.av (.val (.sc u)))::QdR ts (.nv u k (gh σ k)))) Q):AW P C c σ Q:=by
 subst hC
 intro E a w hg
 obtain ⟨v,h1,h2⟩:=QeK hg h
 have g1:=hg.cell o' i (.val (.sc v)) fun _ _ _=>⟨v,h1,Rd.sc v⟩
 have e:gh (put σ (.c o' i) (.av (.val (.sc v)))) k=gh σ k:=QaL (Qag _ _ (by simp))
 exact hk v E a w (Gm.slots (.nv v k (gh σ k)) ts _ g1 (QfV hn) fun s hs t ht=>⟨Nat.le_of_eq ((QaL (hs _ (by simp))).trans e).symm,fun _=>h2.2 rfl⟩)
theorem QC5 {c:Code} (o':Id) (i t0:Nat) (k:Id) (u:Value) (h:(σ (.c o' i)=.av (.val (.sc u))∧i<Qsa (σ (.o o'))∧σ (.s t0)=.av (.nv u k (gh σ k)))∧AW P C c (Qaf σ [(.c o' i,.av (.ref k (gh σ k)))]) Q):AW P C c σ Q:=by
 obtain ⟨⟨h1,h2,h3⟩,hk⟩:=h
 intro E a w hg
 obtain ⟨v,h4,h5⟩:=QeK hg ⟨h1,h2⟩
 have hv:v=u:=Rd.sc_eq h5
 have hu:=(hg.sl t0 _ h3).2 rfl
 exact hk E a w (hg.cell o' i (.ref k (gh σ k)) fun _ _ _=>⟨v,h4,Nat.le_refl _,fun _=>hv.trans hu⟩)
attribute [go_sem] Qsa
end
end Go.Proofs.YthfocmakkeonoaaGreatDoor
namespace Go.Proofs.YthfocmakkeonoaaGreatDoor
open Go.RowKit
abbrev flO (f:Fl):List CA:=[.val (vh f.s.mx),.val (vi f.s.cy),.val (vi f.s.bs),.val (vi f.s.bd),.val (vi f.s.pr),.val (vi f.s.rc),.val (vi f.j.sc),.val (vi f.j.tr),.val (vb f.j.has),.val (vi f.te),.val (vi f.tc),.val (vi f.by')]
def flE (l:List Fl) (k:Nat) (id:Int):List (Value × T):=(l.map fun f=>(Value.int .i64 f.id,T.box (flT f))).set k (.int .i64 id,.av .any)
abbrev zsK (zs:List (Nat × Fl)):List (Value × T):=zs.map fun z=>(Value.int .i64 z.2.id,T.av (.sc (pw z.1)))
abbrev zsB (zs:List (Nat × Fl)):List (Value × T):=zs.map fun z=>(pw z.1,T.box (flT z.2))
theorem Qw4 (zs:List (Nat × Fl)):QeX (.int .i64) ((zsK zs).map (·.1))=True:=eq_true (QfG fun k hk=>by
 obtain ⟨p,hp,rfl⟩:=List.mem_map.1 hk
 obtain ⟨z,hz,rfl⟩:=List.mem_map.1 hp
 rfl)
theorem Qnu:∀ (zs:List (Nat × Fl)) (id:Int),Qdc (zsK zs) (.int .i64 id)=(zs[atR (zs.map (·.2)) id]?).map fun z=>T.av (.sc (pw z.1))
 | [],id=>rfl
 | z::zs,id=>by
  have ih:=Qnu zs id
  unfold zsK at ih ⊢
  rw [List.map_cons,List.map_cons,Qdc]
  unfold atR
  rw [List.findIdx_cons]
  by_cases h:z.2.id=id
  ·rw [if_pos (by rw [h]),decide_eq_true h]
   rfl
  ·rw [if_neg (fun e=>h (by injection e)),decide_eq_false h,ih]
   rfl
theorem Quj:∀ (zs:List (Nat × Fl)) (b:Nat) (f:Fl),Qu4 (zs.map (·.2)) f.id=false→QcI (zsK zs) (.int .i64 f.id) (.av (.sc (pw b)))=zsK (zs++[(b,f)])
 | [],b,f,_=>rfl
 | z::zs,b,f,h=>by
  unfold Qu4 atR at h
  rw [List.map_cons,List.findIdx_cons] at h
  by_cases e:z.2.id=f.id
  ·rw [decide_eq_true e] at h
   simp at h
  ·rw [decide_eq_false e] at h
   have ih:=Quj zs b f (by
    unfold Qu4 atR
    simp only [cond_false,List.length_cons] at h
    have h:=of_decide_eq_false h
    exact decide_eq_false (by omega))
   unfold zsK at ih ⊢
   rw [List.map_cons,Qgt,if_neg (fun q=>e (by injection q)),ih,List.cons_append,List.map_cons]
attribute [go_sem] Qw4
theorem Quk {zs:List (Nat × Fl)} {k b:Nat} {f:Fl} {id:Int} (h:zs[k]? = some (b,f)) (hid:f.id=id) :
  (zsB zs)[k]? = some (pw b,T.box (flT f))∧((zsB zs).set k (pw b,T.av .any))[k]? = some (pw b,T.av .any) ∧
  (zsK zs).map (·.2)=((zsB zs).set k (pw b,T.av .any)).map (fun p=>T.av (.sc p.1)) ∧
  (flE (zs.map (·.2)) k id).map (·.1)=(zsK zs).map (·.1)∧(flE (zs.map (·.2)) k id).map (·.2)=((zsB zs).set k (pw b,T.av .any)).map (·.2):=by
 obtain ⟨hi,he⟩:=List.getElem?_eq_some_iff.1 h
 refine ⟨by rw [List.getElem?_map,h];rfl,by simp [hi],?_,?_,?_⟩
 ·rw [List.map_set,List.map_map,List.map_map,QdG]
  ·rfl
  ·rw [List.getElem?_map,h];rfl
 ·unfold flE
  rw [List.map_set,List.map_map,List.map_map,List.map_map,QdG]
  ·rfl
  ·rw [List.getElem?_map,h,←hid];rfl
 ·unfold flE
  rw [List.map_set,List.map_set,List.map_map,List.map_map,List.map_map]
  rfl
structure Fl.Ok (f:Fl) (K:Int):Prop where
 s:f.s.Ok K
 b0:0≤f.by'
 b1:f.by'≤1099511627776 * K
theorem Qul (x:Rx) (m:M6) {K:Int} (hK:0≤K∧K≤1000000) (hf:∀ f∈x.fl,f.Ok K) (hm:m.Ok) (n:Int) (hn:0≤n∧n≤1099511627776) (hc:0≤x.ct.md∧x.ct.md≤1099511627776)
  (l1:List Fl) (hl1:l1=Qdi x.fl m.path m.pseq) (k:Nat) (hk:k=atR x.fl m.path) (f1:Fl) (hf1:l1[k]? = some f1) (hid:f1.id=m.path) :
  Qan Tryz.prog 26 [.ptr 0 0,.ca (.val (.agg (m6L m))),.ca (.val (vi n))] [rxF x (.hd (flM x.fl))] (.ptr 1 0)
   [rxF { x with ct:={ x.ct with md:=x.ct.md+1 } } (.hdl (.mp (flE l1 k m.path)) k 1),flO (flR f1 m.pseq n)]:=by
 obtain ⟨c,tb,fl,kp,any,gr,gp,fr,dl,due,gone,ct⟩:=x
 obtain ⟨src,seq,time,path,pseq,idx,cnt,data⟩:=m
 have hps:=hm.pseq
 dsimp only at *
 unfold flR
 cases hh:Qu4 fl path with
 | true=>
  have e1:l1=fl:=by rw [hl1];unfold Qdi;rw [if_pos hh]
  subst e1
  have hfo:=hf f1 (List.mem_of_getElem? hf1)
  have cu:=QjP f1.s hfo.s ⟨hK.1,by omega⟩ pseq hps.1 (by omega)
  have hb0:=hfo.b0
  have hb1:=hfo.b1
  generalize (QxX f1.s pseq)=U at *
  obtain ⟨s2,b2⟩:=U
  refine Qaa Tryz.func26 rfl Tryz.ntmps26 Tryz.results26 ⟨by decide,by simp⟩ fun C hC=>?_
  (repeat' ((fail_if_success (first | refine Qas 1 ?_ | refine Qay 1 ?_));(first | refine sp_ ?_ | exact ex0 | exact re0 [])))
  refine QsP (1000,16) (90,1) l1 (fun f=>.int .i64 f.id) flT ⟨ex0,by decide,by decide⟩ fun zs hz=>?_
  obtain ⟨b0,hb⟩:=QCU hz (List.getElem?_eq_some_iff.1 hf1).1
  rw [(List.getElem?_eq_some_iff.1 hf1).2] at hb
  obtain ⟨j1,j2,j3,j4,j5⟩:=Quk hb hid
  have hg:Qdc (zsK zs) (.int .i64 path)=some (.av (.sc (pw b0))):=by rw [Qnu,hz,←hk,hb];rfl
  (repeat' ((fail_if_success (first | refine Qas 5 ?_ | refine Qay 5 ?_));(first | refine sp_ ?_ | exact ex0 | exact re0 [])))
  simp only [hg]
  (repeat' ((fail_if_success (first | refine Qas 5 ?_ | refine Qay 5 ?_));(first | refine sp_ ?_ | exact ex0 | exact re0 [])))
  refine Quh (some ⟨b0,0,none⟩) (.inl rfl) ⟨ex0,ex0⟩ ex0 ?_
  simp only [Option.isNone_some,if_true]
  (repeat' ((fail_if_success (first | refine Qas 5 ?_ | refine Qay 5 ?_));(first | refine sp_ ?_ | exact ex0 | exact re0 [])))
  refine Qm0 hC (90,1) 20 k [21] [7] (pw b0) (zsB zs) ((zsB zs).set k (pw b0,.av .any)) (flT f1) j1 rfl ⟨rfl,rfl⟩ ⟨by simp (decide:=true) (disch:=omega) only [go_sem,↓reduceIte,↓Qad];rfl,?_⟩
  (repeat' ((fail_if_success (refine Qbf ?_));(first | refine sp_ ?_ | exact ex0 | refine Qab Tryz.call66 (cu) [] ex1 ?_ | exact re0 [])))
  refine QxV (1000,16) (90,1) (20,0) k 21 (pw b0) (.av .any) ((zsB zs).set k (pw b0,.av .any)) (zsK zs) (flE l1 k path) j2 j3 (by rw [←hz];exact ⟨j4,j5⟩) ⟨ex0,?_⟩
  repeat' first | refine sp_ ?_ | exact ex0 | exact re0 [(20,0)]
 | false=>
  have hlt:¬atR fl path<fl.length:=of_decide_eq_false hh
  have hkl:k=fl.length:=by have:=Qx5 fl path;omega
  have e1:l1=fl++[QkE path pseq]:=by rw [hl1];unfold Qdi;rw [if_neg (by rw [hh];decide)]
  have e2:f1=QkE path pseq:=by
   rw [e1,hkl] at hf1
   simp at hf1
   exact hf1.symm
  have cs:=Qz4 pseq hps.1 (by omega)
  have cu:=QjP (QxW pseq) (QsR hps.1 (by omega)) ⟨by omega,by omega⟩ pseq hps.1 (by omega)
  subst e2
  clear hl1
  rw [show QkE path pseq=⟨path,QxW pseq,⟨0,0,false⟩,0,0,0⟩ from rfl] at *
  dsimp only at hid ⊢
  generalize QxW pseq=s0 at *
  generalize (QxX s0 pseq)=U at *
  obtain ⟨s2,b2⟩:=U
  refine Qaa Tryz.func26 rfl Tryz.ntmps26 Tryz.results26 ⟨by decide,by simp⟩ fun C hC=>?_
  (repeat' ((fail_if_success (first | refine Qas 1 ?_ | refine Qay 1 ?_));(first | refine sp_ ?_ | exact ex0 | exact re0 [])))
  refine QsP (1000,16) (90,1) fl (fun f=>.int .i64 f.id) flT ⟨ex0,by decide,by decide⟩ fun zs hz=>?_
  have hzl:zs.length=fl.length:=by rw [←hz,List.length_map]
  have hg:Qdc (zsK zs) (.int .i64 path)=none:=by
   rw [Qnu,hz,List.getElem?_eq_none (by omega)];rfl
  (repeat' ((fail_if_success (first | refine Qas 3 ?_ | refine Qay 3 ?_));(first | refine sp_ ?_ | exact ex0 | exact re0 [])))
  simp only [hg]
  (repeat' ((fail_if_success (first | refine Qas 3 ?_ | refine Qay 3 ?_));(first | refine sp_ ?_ | exact ex0 | exact re0 [])))
  refine Quh none (.inl rfl) ⟨ex0,ex0⟩ ex0 ?_
  simp only [Option.isNone_none,if_true]
  (repeat' ((fail_if_success (first | refine Qas 4 ?_ | refine Qay 4 ?_));(first | refine sp_ ?_ | exact ex0 | refine Qab Tryz.call65 (cs) [] ex1 ?_ | exact re0 [])))
  refine QCe hC (90,1) (23,0) zs.length [7] (zsB zs) (flT ⟨path,s0,⟨0,0,false⟩,0,0,0⟩) (by rw [List.length_map];exact Nat.le_refl _) rfl ⟨by simp (decide:=true) (disch:=omega) only [go_sem,↓reduceIte,↓Qad];rfl,ex0,ex0,ex0,ex0⟩ fun b0=>?_
  obtain ⟨zs2,hz2⟩:∃ zs2,zs2=zs++[(b0,(⟨path,s0,⟨0,0,false⟩,0,0,0⟩:Fl))]:=⟨_,rfl⟩
  have hins:(zsB zs).insertIdx zs.length (pw b0,T.box (flT ⟨path,s0,⟨0,0,false⟩,0,0,0⟩))=zsB zs2:=by
   rw [hz2]
   unfold zsB
   rw [List.map_append,show zs.length=(zs.map fun z=>(pw z.1,T.box (flT z.2))).length by rw [List.length_map],List.insertIdx_length_self]
   rfl
  have hset:=Quj zs b0 ⟨path,s0,⟨0,0,false⟩,0,0,0⟩ (by rw [hz];exact hh)
  rw [←hz2] at hset
  rw [hins]
  have hz3:zs2.map (·.2)=l1:=by rw [hz2,List.map_append,hz,e1];rfl
  have hb:zs2[k]? = some (b0,⟨path,s0,⟨0,0,false⟩,0,0,0⟩):=by rw [hz2,hkl,←hzl];simp
  obtain ⟨j1,j2,j3,j4,j5⟩:=Quk (id:=path) hb rfl
  refine sx_ ?_
  (repeat' ((fail_if_success (first | refine Qas 5 ?_ | refine Qay 5 ?_));(first | refine sp_ ?_ | exact ex0 | exact re0 [])))
  unfold zsK at hset
  simp only [hset]
  refine Qm0 hC (90,1) 20 k [21] [7] (pw b0) (zsB zs2) ((zsB zs2).set k (pw b0,.av .any)) (flT ⟨path,s0,⟨0,0,false⟩,0,0,0⟩) j1 rfl ⟨rfl,rfl⟩ ⟨by simp (decide:=true) (disch:=omega) only [go_sem,↓reduceIte,↓Qad];(try rfl),?_⟩
  (repeat' ((fail_if_success (refine Qbf ?_));(first | refine sp_ ?_ | exact ex0 | refine Qab Tryz.call66 (cu) [] ex1 ?_ | exact re0 [])))
  refine QxV (1000,16) (90,1) (20,0) k 21 (pw b0) (.av .any) ((zsB zs2).set k (pw b0,.av .any)) (zsK zs2) (flE l1 k path) j2 j3 (by rw [←hz3];exact ⟨j4,j5⟩) ⟨by simp (decide:=true) (disch:=omega) only [go_sem,↓reduceIte,↓Qad];(try rfl),?_⟩
  repeat' first | refine sp_ ?_ | exact ex0 | exact re0 [(20,0)]
end Go.Proofs.YthfocmakkeonoaaGreatDoor
namespace Go.Proofs.YthfocmakkeonoaaGreatDoor
open Go.RowKit
theorem Qme:∀ (l:List Fl) (a:Int),a≤l.foldl (fun n f=>max n (Qg9 f.j)) a∧(∀ f∈l,Qg9 f.j≤l.foldl (fun n f=>max n (Qg9 f.j)) a)∧(l.foldl (fun n f=>max n (Qg9 f.j)) a=a∨∃ f∈l,Qg9 f.j=l.foldl (fun n f=>max n (Qg9 f.j)) a)
 | [],a=>⟨Int.le_refl _,(fun f h=>by cases h),.inl rfl⟩
 | f::l,a=>by
  obtain ⟨h1,h2,h3⟩:=Qme l (max a (Qg9 f.j))
  simp only [List.foldl_cons]
  generalize l.foldl (fun n f=>max n (Qg9 f.j)) (max a (Qg9 f.j))=r at *
  refine ⟨by omega,fun g hg=>?_,?_⟩
  ·rcases List.mem_cons.1 hg with rfl | hg
   ·omega
   ·exact h2 g hg
  ·rcases h3 with h3 | ⟨g,hg,h3⟩
   ·by_cases h:r=a
    ·exact .inl h
    ·exact .inr ⟨f,List.mem_cons_self ..,by omega⟩
   ·exact .inr ⟨g,List.mem_cons_of_mem _ hg,h3⟩
theorem QAm (j:J15):0≤Qg9 j:=by
 unfold Qg9
 have:=QeE j.sc 0 17592186044416
 omega
theorem QAn {l:List Fl} {n:Int} (h0:0≤n) (h1:∀ f∈l,Qg9 f.j≤n) (h2:n=0∨∃ f∈l,Qg9 f.j=n):QwN l=n:=by
 obtain ⟨q1,q2,q3⟩:=Qme l 0
 unfold QwN
 generalize l.foldl (fun n f=>max n (Qg9 f.j)) 0=r at *
 rcases h2 with rfl | ⟨f,hf,e⟩
 ·rcases q3 with q3 | ⟨f,hf,e⟩
  ·exact q3
  ·have:=h1 f hf;omega
 ·have:=q2 f hf
  rcases q3 with q3 | ⟨g,hg,e2⟩
  ·omega
  ·have:=h1 g hg;omega
theorem QC6 {zs:List (Nat × Fl)} {i:Nat} {p:Value × T} (h:(zsK zs)[i]? = some p):∃ b f,zs[i]? = some (b,f)∧p=(.int .i64 f.id,.av (.sc (pw b))):=by
 rw [List.getElem?_map] at h
 cases hz:zs[i]? with
 | none=>rw [hz] at h;cases h
 | some z=>rw [hz] at h;exact ⟨z.1,z.2,rfl,(Option.some.inj h).symm⟩
theorem QqC (x:Rx) (hl:x.fl.length≤1000000) :
  Qan Tryz.prog 32 [.ptr 0 0] [rxO x] (.ca (.val (vi (QwN x.fl)))) [rxO x]:=by
 obtain ⟨c,tb,fl,kp,any,gr,gp,fr,dl,due,gone,ct⟩:=x
 obtain ⟨c1,c2,c3,c4,c5,c6,c7,c8,c9,c10,c11,c12,c13,c14⟩:=c
 obtain ⟨d1,d2,d3⟩:=dl
 obtain ⟨t1,t2,t3,t4,t5,t6⟩:=ct
 dsimp only at hl ⊢
 refine Qaa Tryz.func32 rfl Tryz.ntmps32 Tryz.results32 ⟨by decide,by simp⟩ fun C hC=>?_
 (repeat' ((fail_if_success (first | refine Qas 2 ?_ | refine Qay 2 ?_));(first | refine sp_ ?_ | exact ex0 | exact re0 [])))
 refine QsP (1000,16) (90,1) fl (fun f=>.int .i64 f.id) flT ⟨ex0,by decide,by decide⟩ fun zs hz=>?_
 have hzl:zs.length=fl.length:=by rw [←hz,List.length_map]
 (repeat' ((fail_if_success (refine Qat 3 ?_));(first | refine sp_ ?_ | exact ex0 | exact re0 [])))
 refine QaD (α:={x:List Nat × Int // x.1.Nodup∧(∀ i∈x.1,i<zs.length)∧0≤x.2∧(∀ i∈x.1,∀ z,zs[i]? = some z→Qg9 z.2.j≤x.2)∧(x.2=0∨∃ f∈fl,Qg9 f.j=x.2)}) (fun x=>[(.o (1000,0),.num 32),(.c (1000,0) 0,.av (.val (vu c1))),(.c (1000,0) 1,.av (.val (vu c2))),(.c (1000,0) 2,.av (.val (vs c3))),(.c (1000,0) 3,.av (.val (vi c4))),(.c (1000,0) 4,.av (.val (vi c5))),(.c (1000,0) 5,.av (.val (vi c6))),(.c (1000,0) 6,.av (.val (vi c7))),(.c (1000,0) 7,.av (.val (vi c8))),(.c (1000,0) 8,.av (.val (vi c9))),(.c (1000,0) 9,.av (.val (vi c10))),(.c (1000,0) 10,.av (.val (vi c11))),(.c (1000,0) 11,.av (.val (vi c12))),(.c (1000,0) 12,.av (.val (vi c13))),(.c (1000,0) 13,.av (.val (vi c14))),(.c (1000,0) 14,.av (.ptr (1000,15) 0 0)),(.r (1000,15),.tree (.box (tbT tb))),(.c (1000,0) 15,.av (.ref (1000,16) 0)),(.c (1000,0) 16,.av (.ref (1000,17) 0)),(.r (1000,17),.tree (kpM kp)),(.c (1000,0) 17,.av (.val (vb any))),(.c (1000,0) 18,.av (.val (vi gr))),(.c (1000,0) 19,.av (.ptr (1000,20) 0 0)),(.r (1000,20),.tree (.box (gpT gp))),(.c (1000,0) 20,.av (.ptr (1000,21) 0 0)),(.r (1000,21),.tree (.box (QcL fr))),(.c (1000,0) 21,.av (.val (vi d1))),(.c (1000,0) 22,.av (.val (vi d2))),(.c (1000,0) 23,.av (.val (vi d3))),(.c (1000,0) 24,.av (.val (vi due))),(.c (1000,0) 25,.av (.val (vb gone))),(.c (1000,0) 26,.av (.val (vi t1))),(.c (1000,0) 27,.av (.val (vi t2))),(.c (1000,0) 28,.av (.val (vi t3))),(.c (1000,0) 29,.av (.val (vi t4))),(.c (1000,0) 30,.av (.val (vi t5))),(.c (1000,0) 31,.av (.val (vi t6))),(.r (1000,16),.tree (.mp (zsK zs))),(.r (90,1),.tree (.bag (zsB zs))),(.s 3,.av (.val (vi x.1.2))),(.s 10,.av (.ptr (10,0) 0 0)),(.o (10,0),.itr (1000,16) 0 x.1.1)]) (fun x=>zs.length-x.1.1.length) ⟨([],0),List.nodup_nil,(fun i h=>by cases h),Int.le_refl _,(fun i h=>by cases h),.inl rfl⟩ ?_ (fun x=>?_)
 ·simp (decide:=true) (disch:=omega) only [go_sem,↓reduceIte,↓Qad]
  (try rfl)
 obtain ⟨⟨s,n⟩,h1,h2,h3,h4,h5⟩:=x
 dsimp only at h1 h2 h3 h4 h5 ⊢
 repeat' first | refine sp_ ?_ | exact ex0 | exact re0 []
 refine QB3 (10,0) (1000,16) s (zsK zs) ex0 (fun i q hq hi=>?_) (fun hall=>?_)
 ·obtain ⟨b,f,hb,rfl⟩:=QC6 hq
  have hil:=(List.getElem?_eq_some_iff.1 hb).1
  obtain ⟨j1,j2,j3,j4,j5⟩:=Quk hb rfl
  have hnd2:=Qgz h1 hi
  have hin2:∀ j∈s++[i],j<zs.length:=fun j hj=>by
   rcases List.mem_append.1 hj with hj | hj
   ·exact h2 j hj
   ·simp at hj;omega
  have hlen:=QfT zs.length (s++[i]) hnd2 hin2
  rw [List.length_append,List.length_singleton] at hlen
  have cv:=QCO f.j
  have hv:=QAm f.j
  have hfm:f∈fl:=by rw [←hz];exact List.mem_map.2 ⟨(b,f),List.mem_of_getElem? hb,rfl⟩
  have hlast:(s++[i]).getLast? = some i:=by simp
  have g1:((zsK zs).map (·.1)).getD i undef=.int .i64 f.id:=by simp [List.getD_eq_getElem?_getD,hb]
  have g2:((zsK zs).map (·.2))[i]? = some (.av (.sc (pw b))):=by simp [hb]
  (repeat' ((fail_if_success (first | refine Qas 5 ?_ | refine Qay 5 ?_));(first | refine sp_ ?_ | exact ex0 | exact re0 [])))
  simp only [hlast,g1,g2]
  (repeat' ((fail_if_success (first | refine Qas 5 ?_ | refine Qay 5 ?_));(first | refine sp_ ?_ | exact ex0 | exact re0 [])))
  refine Qm0 hC (90,1) 1 i [4] [5] (pw b) (zsB zs) ((zsB zs).set i (pw b,.av .any)) (flT f) j1 rfl ⟨rfl,rfl⟩ ⟨by simp (decide:=true) (disch:=omega) only [go_sem,↓reduceIte,↓Qad];(try rfl),?_⟩
  refine QCc ?_
  repeat' first | refine sp_ ?_ | exact ex0 | refine Qab Tryz.call83 (cv) [] ex1 ?_ | exact re0 []
  refine QC0 hC (90,1) (1,0) i 4 [] (pw b) ((zsB zs).set i (pw b,.av .any)) (zsB zs) .any (flT f) j2 (by rw [List.set_set];exact QdG j1) rfl ⟨ex0,?_⟩
  refine sx_ ?_
  refine Qau (α:={x:List Nat × Int // x.1.Nodup∧(∀ i∈x.1,i<zs.length)∧0≤x.2∧(∀ i∈x.1,∀ z,zs[i]? = some z→Qg9 z.2.j≤x.2)∧(x.2=0∨∃ f∈fl,Qg9 f.j=x.2)}) ⟨(s++[i],max n (Qg9 f.j)),hnd2,hin2,by dsimp only;omega,fun j hj z hz2=>?_,?_⟩ ⟨?_,by dsimp only;rw [List.length_append,List.length_singleton];omega⟩
  ·rcases List.mem_append.1 hj with hj | hj
   ·have:=h4 j hj z hz2;dsimp only;omega
   ·simp at hj
    subst hj
    rw [hb] at hz2
    cases hz2
    dsimp only;omega
  ·dsimp only
   by_cases h:n≤Qg9 f.j
   ·exact .inr ⟨f,hfm,by omega⟩
   ·rw [show max n (Qg9 f.j)=n by omega];exact h5
  (try dsimp only)
  simp (decide:=true) (disch:=omega) only [go_sem,↓reduceIte,↓Qad]
  (try rfl)
 ·have hm:QwN fl=n:=QAn h3 (fun f hf=>by
   rw [←hz] at hf
   obtain ⟨z,hz1,rfl⟩:=List.mem_map.1 hf
   obtain ⟨k,hk,rfl⟩:=List.getElem_of_mem hz1
   exact h4 k (hall k (by rw [List.length_map];exact hk)) _ (List.getElem?_eq_getElem hk)) h5
  rw [hm]
  (repeat' ((fail_if_success (refine Qbf ?_));(first | refine sp_ ?_ | exact ex0 | exact re0 [])))
  refine QCj (1000,16) (90,1) (zsB zs) (zsK zs) (fl.map fun f=>(.int .i64 f.id,.box (flT f))) (by rw [List.map_map,List.map_map];rfl) ⟨by rw [←hz,List.map_map,List.map_map,List.map_map];rfl,by rw [←hz,List.map_map,List.map_map,List.map_map];rfl⟩ ⟨by simp (decide:=true) (disch:=omega) only [go_sem,↓reduceIte,↓Qad];(try rfl),?_⟩
  repeat' first | refine sp_ ?_ | exact ex0 | exact re0 []
end Go.Proofs.YthfocmakkeonoaaGreatDoor
