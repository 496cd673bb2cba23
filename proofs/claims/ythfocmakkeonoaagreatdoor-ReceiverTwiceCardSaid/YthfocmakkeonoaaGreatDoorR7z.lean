/- Rows that grow. Built values, indexes, slices, lengths. Indexes, slices, lengths, conversions. -/
import Derived.Test.YthfocmakkeonoaaGreatDoorR4z
set_option linter.unusedVariables false
set_option linter.unusedSimpArgs false
set_option maxRecDepth 100000
set_option maxHeartbeats 16000000
namespace Go.Proofs.YthfocmakkeonoaaGreatDoor
open Go.RowKit
section
variable {P:Program} {ops:Array Oper} {C:Ctx} {E:Env} {σ:St} {a:Act} {w:World}
theorem Qjq {m:Mem} {e:TypeId} {sz n:Nat} {v:Value} {xs:List Value} {es:List (List V)} (hown:w.ownsRow 0 e sz v n xs) (hes:es.length=n) (hsz:∀ i (h:i<es.length),es[i].length=sz)
  (hm:∀ b i u,v.ownBlock=some b→xs[i]? = some u→m b i=some u) (hr:∀ i j (hi:i<es.length) (hj:j<es[i].length),∃ u,xs[i * sz+j]? = some u∧Rd m (es[i][j]) u):Rd m (.lst sz es) v:=by
 rcases hown.2 with ⟨rfl,h⟩ | ⟨g,cap,cur,rfl,_,hh,hc,_⟩
 ·have h0:es=[]:=List.eq_nil_of_length_eq_zero (by omega)
  subst h0
  exact Rd.nil0 sz
 ·subst hes
  have hex:∀ i j,i<es.length→j<sz→∃ u,xs[i * sz+j]? = some u∧(∀ (hi:i<es.length) (hj:j<es[i].length),Rd m (es[i][j]) u):=fun i j hi hj=>by
   obtain ⟨u,h1,h2⟩:=hr i j hi (by rw [hsz i hi];exact hj)
   exact ⟨u,h1,fun _ _=>h2⟩
  obtain ⟨f,hf⟩:∃ f:Nat→Nat→Value,∀ i j,i<es.length→j<sz→xs[i * sz+j]? = some (f i j)∧(∀ (hi:i<es.length) (hj:j<es[i].length),Rd m (es[i][j]) (f i j)):=
   ⟨fun i j=>if h:i<es.length∧j<sz then (hex i j h.1 h.2).choose else undef,fun i j h1 h2=>by simp only [dif_pos (And.intro h1 h2)];exact (hex i j h1 h2).choose_spec⟩
  refine Rd.lst sz es g 0 cap f hc hsz (fun i j hi hj=>?_) (fun i j hi hj=>(hf i j hi (by rw [←hsz i hi];exact hj)).2 hi hj)
  rw [Nat.zero_add]
  exact hm g _ _ rfl (hf i j hi hj).1
theorem QdA {m:Mem} {sz:Nat} {es:List (List V)} {v:Value} (h:Rd m (.lst sz es) v):∃ A cap,v=.slice A es.length cap∧es.length≤cap∧(A=none→cap=0)∧(∀ i (h:i<es.length),es[i].length=sz) ∧
  ∃ xs:List Value,xs.length=es.length * sz∧(∀ i j (hi:i<es.length) (hj:j<es[i].length),∃ u,xs[i * sz+j]? = some u∧Rd m (es[i][j]) u) ∧
  (∀ t u,xs[t]? = some u→∃ b o,A=some ⟨b,o,none⟩∧m b (o+t)=some u):=by
 cases h with
 | nil _ A c hA=>exact ⟨A,c,rfl,Nat.zero_le _,hA,(fun i h=>by simp at h),[],by simp,(fun i j hi=>by simp at hi),(fun t u h=>by simp at h)⟩
 | lst _ _ b o cap f hc hsz hm hr=>
  have hdiv:∀ i j,j<sz→(i * sz+j) / sz=i∧(i * sz+j) % sz=j:=fun i j hj=>by
   have h0:0<sz:=by omega
   rw [Nat.mul_comm,Nat.mul_add_div h0,Nat.mul_add_mod,Nat.div_eq_of_lt hj,Nat.mod_eq_of_lt hj]
   exact ⟨rfl,rfl⟩
  refine ⟨some ⟨b,o,none⟩,cap,rfl,hc,(fun h=>by cases h),hsz,(List.range (es.length * sz)).map fun t=>f (t / sz) (t % sz),by simp,fun i j hi hj=>?_,fun t u h=>?_⟩
  ·have hj':j<sz:=by rw [←hsz i hi];exact hj
   have hlt:i * sz+j<es.length * sz:=by
    calc i * sz+j<i * sz+sz:=by omega
     _=(i+1) * sz:=by rw [Nat.add_mul,Nat.one_mul]
     _≤es.length * sz:=Nat.mul_le_mul_right _ hi
   refine ⟨f i j,?_,hr i j hi hj⟩
   simp [hlt,hdiv i j hj']
  ·have ht:t<es.length * sz:=by have:=(List.getElem?_eq_some_iff.1 h).1;simpa using this
   simp [ht] at h
   have h0:0<sz:=by rcases Nat.eq_zero_or_pos sz with h | h;subst h;simp at ht;exact h
   have h1:t / sz<es.length:=Nat.div_lt_of_lt_mul (by rw [Nat.mul_comm];exact ht)
   have h2:=hm (t / sz) (t % sz) h1 (Nat.mod_lt _ h0)
   refine ⟨b,o,rfl,?_⟩
   rw [←h,←h2,Nat.add_assoc,Nat.mul_comm,Nat.div_add_mod]
theorem Gm.row (h:Gm C E σ a w) (k:Id) (G G':Nat) (hG:gq σ k=G) (e:TypeId) (sz n:Nat) (v':Value) (w':World) (xs:List Value)
  (hgg:(G'=G∧∃ T,σ (.k k)=.row e sz T∧T≤n∧(T=n→v'=E.rv k))∨G'=G+1)
  (hb:∀ b,v'.ownBlock=some b→w.heap.size≤b∨(∃ e' sz' T,σ (.k k)=.row e' sz' T∧(E.rv k).ownBlock=some b∧∀ i,i<(E.rx k).length→xs[i]? = (E.rx k)[i]?))
  (hown:w'.ownsRow 0 e sz v' n xs) (hf:Chg (fun b=>v'.ownBlock=some b) w w') :
  ∃ E',Gm C E' (Qaf σ [(.q k,.num G'),(.k k,.row e sz n)]) a w'∧Mo E σ E' (Qaf σ [(.q k,.num G'),(.k k,.row e sz n)])∧E'.m.le E'.m∧(∀ b i u,v'.ownBlock=some b→xs[i]? = some u→E'.m b i=some u)∧E.m.le E'.m ∧
   ∀ es:List (List V),es.length=n→Rd E'.m (.lst sz es) v'→RdA E' (Qaf σ [(.q k,.num G'),(.k k,.row e sz n)]) (.own k G' e sz es) v':=by
 obtain ⟨σ',hσ'⟩:∃ s,s=Qaf σ [(.q k,.num G'),(.k k,.row e sz n)]:=⟨_,rfl⟩
 have qq:∀ k',σ' (.q k')=if k'=k then .num G' else σ (.q k'):=by
  intro k';rw [hσ'];show put (put σ (.q k) (.num G')) (.k k) (.row e sz n) (.q k')=_
  rw [Qag _ _ (by simp)];by_cases hk:k'=k
  ·subst hk;simp [put]
  ·simp [put,hk]
 have qk:∀ k',σ' (.k k')=if k'=k then .row e sz n else σ (.k k'):=by
  intro k';rw [hσ'];show put (put σ (.q k) (.num G')) (.k k) (.row e sz n) (.k k')=_
  by_cases hk:k'=k
  ·subst hk;simp [put]
  ·simp [put,hk]
 have qg:∀ o,σ' (.g o)=σ (.g o):=by intro o;rw [hσ'];simp [Qaf,put]
 have qo:∀ o,σ' (.o o)=σ (.o o):=by intro o;rw [hσ'];simp [Qaf,put]
 have qs:∀ o,σ' (.s o)=σ (.s o):=by intro o;rw [hσ'];simp [Qaf,put]
 have qc:∀ o i,σ' (.c o i)=σ (.c o i):=by intro o i;rw [hσ'];simp [Qaf,put]
 have qh:∀ o,σ' (.h o)=σ (.h o):=by intro o;rw [hσ'];simp [Qaf,put]
 have qr:∀ o,σ' (.r o)=σ (.r o):=by intro o;rw [hσ'];simp [Qaf,put]
 have ql:∀ o,σ' (.l o)=σ (.l o):=by intro o;rw [hσ'];simp [Qaf,put]
 rw [←hσ']
 clear hσ'
 have hfresh:∀ b i,w.heap.size≤b→E.m b i=none:=by
  intro b i hb
  cases hc:E.m b i with
  | none=>rfl
  | some u=>have:=h.ms _ _ _ hc;have h2:w.heap[b]? = none:=Array.getElem?_eq_none hb;simp [World.cell?,h2] at this
 obtain ⟨E',hE'⟩:∃ E':Env,E' = { E with m:=fun b i=>if v'.ownBlock=some b then xs[i]? else E.m b i,rv:=fun k'=>if k'=k then v' else E.rv k',rx:=fun k'=>if k'=k then xs else E.rx k' }:=⟨_,rfl⟩
 have em:∀ b i,E'.m b i=if v'.ownBlock=some b then xs[i]? else E.m b i:=by intro b i;rw [hE']
 have eloc:E'.loc=E.loc:=by rw [hE']
 have erv:∀ k',E'.rv k'=if k'=k then v' else E.rv k':=by intro k';rw [hE']
 have erx:∀ k',E'.rx k'=if k'=k then xs else E.rx k':=by intro k';rw [hE']
 have ebv:E'.bv=E.bv:=by rw [hE']
 have ebf:E'.bf=E.bf:=by rw [hE']
 clear hE'
 have hmle:E.m.le E'.m:=by
  intro b i u hu
  rw [em]
  by_cases hbb:v'.ownBlock=some b
  ·rw [if_pos hbb]
   rcases hb b hbb with h1 | ⟨e',sz',T,h1,h2,h3⟩
   ·rw [hfresh b i h1] at hu;cases hu
   ·have h4:=((h.ro k e' sz' T h1).2 b h2).1 i
    rw [hu] at h4
    have hi:i<(E.rx k).length:=by
     rcases Nat.lt_or_ge i (E.rx k).length with hi | hi
     ·exact hi
     ·rw [List.getElem?_eq_none hi] at h4;cases h4
    rw [h3 i hi];exact h4.symm
  ·rw [if_neg hbb];exact hu
 have hmo:Mo E σ E' σ':=by
  refine ⟨hmle,fun o=>⟨Nat.le_of_eq (Qaz (qg o)).symm,fun _=>by rw [eloc]⟩,fun k'=>?_,fun k'=>⟨Nat.le_of_eq (QaL (qh k')).symm,fun _=>by rw [ebv]⟩⟩
  by_cases hk:k'=k
  ·subst hk
   have hq':gq σ' k'=G':=Qk1 (by rw [qq,if_pos rfl])
   refine ⟨by rcases hgg with ⟨h2,_⟩ | h2 <;> omega,fun he e1 sz1 T1 h2=>?_⟩
   rw [qk,if_pos rfl] at h2
   cases h2
   rcases hgg with ⟨_,T,h3,h4,h5⟩ | h3
   ·exact ⟨T,h3,h4,fun he=>by rw [erv,if_pos rfl];exact h5 he⟩
   ·omega
  ·have hq':gq σ' k'=gq σ k':=Qda (by rw [qq,if_neg hk])
   refine ⟨by omega,fun _ e1 sz1 T1 h2=>?_⟩
   rw [qk,if_neg hk] at h2
   exact ⟨T1,h2,Nat.le_refl _,fun _=>by rw [erv,if_neg hk]⟩
 have htree:∀ k' x b,σ (.r k')=.tree x→b∈E.bf k'→b<w.heap.size→v'.ownBlock≠some b:=by
  intro k' x b h1 h2 h3 he
  rcases hb b he with h4 | ⟨e',sz',T,h4,h5,_⟩
  ·omega
  ·exact h.tr.tk k e' sz' T k' x b h4 h1 h2 h5
 have hnlt:∀ o n,σ (.o o)=.num n→E.loc o<w.heap.size:=by
  intro o n h1
  obtain ⟨⟨c1,t1,h2,_⟩,_⟩:=h.ob o n h1
  exact (Array.getElem?_eq_some_iff.1 h2).1
 have hobj:∀ o n,σ (.o o)=.num n→v'.ownBlock≠some (E.loc o):=by
  intro o n h1 he
  rcases hb _ he with h2 | ⟨e',sz',T,h2,h3,_⟩
  ·have:=hnlt o n h1;omega
  ·exact h.or o n k e' sz' T h1 h2 h3
 have hrow:∀ k' e' sz' T b,σ (.k k')=.row e' sz' T→k'≠k→(E.rv k').ownBlock=some b→v'.ownBlock≠some b:=by
  intro k' e' sz' T b h1 hk h2 he
  rcases hb _ he with h3 | ⟨e1,sz1,T1,h3,h4,_⟩
  ·have:=((h.ro k' e' sz' T h1).1.lt b h2).2;omega
  ·exact hk (h.rr k' k e' sz' T e1 sz1 T1 b h1 h3 h2 h4)
 have hkeep:∀ b,b<w.heap.size→v'.ownBlock≠some b→w'.heap[b]? = w.heap[b]?:=fun b h1 h2=>hf.block b h1 h2
 have hD:∀ b,v'.ownBlock=some b→C.D b∨C.w0.heap.size≤b:=by
  intro b hbb
  rcases hb b hbb with h1 | ⟨e',sz',T,h1,h2,h3⟩
  ·have:=h.fr.size;exact .inr (by omega)
  ·exact ((h.ro k e' sz' T h1).2 b h2).2
 refine ⟨E',⟨h.sz,h.df,fun b i u hu=>?_,h.fr.step hf (fun i hi he=>by rcases hD i he with h1 | h1;exact h1;omega),fun t x h1=>(h.sl t x (by rw [←qs];exact h1)).mo hmo,fun o i x n h1 h2 h3=>?_,fun o n h1=>?_,fun k' e1 s1 T1 h1=>?_,fun o o' n n' h1 h2 h3=>?_,fun k1 k2 e1 s1 T1 e2 s2 T2 b h1 h2 h3 h4=>?_,fun o n k' e1 s1 T1 h1 h2=>?_,fun o b h1=>by rw [eloc];exact h.pi o b h1,Mem.le_trans h.ml hmle,fun b i h1 h2=>by rw [em,if_neg (fun hb=>by rcases hD b hb with h3 | h3;exact h2 h3;omega)];exact h.mx b i h1 h2,
  h.tr.step hmo ebv ebf (fun k x hx=>by rw [←qr];exact hx) (fun k i y hy=>by rw [←ql];exact hy) (fun _ _ _ _=>by rw [eloc]) (fun k' x b h1 h2 h3 h4=>⟨hf.block b h3 (htree k' x b h1 h2 h3),fun i=>by rw [em,if_neg (htree k' x b h1 h2 h3)];exact h4 i⟩)
   (fun o n k' x h1 _ _ _=>⟨n,by rw [←qo];exact h1,by rw [eloc]⟩)
   (fun k1 e1 s1 T1 b k' x h1 h2 h3 h4 h5=>by
    by_cases hk:k1=k
    ·subst hk;rw [erv,if_pos rfl] at h4;exact absurd h4 (htree k' x b h2 h3 h5)
    ·rw [qk,if_neg hk] at h1;rw [erv,if_neg hk] at h4;exact ⟨e1,s1,T1,h1,h4⟩)
   (fun o k' g s h1=>⟨by rw [←qo];exact h1,by rw [eloc]⟩)
   (fun b mb c bs l h1=>hf.block b (Array.getElem?_eq_some_iff.1 h1).1 (fun he=>by
    rcases hb b he with h2 | ⟨e',sz',T,h2,h3,_⟩
    ·have:=(Array.getElem?_eq_some_iff.1 h1).1;omega
    ·obtain ⟨cur,h4⟩:=Qd1 (h.ro k e' sz' T h2).1 h3
     rw [h4] at h1;cases h1))⟩,hmo,Mem.le_refl _,fun b i u h1 h2=>by rw [em,if_pos h1];exact h2,hmle,fun es hes hrd=>⟨hrd,?_⟩⟩
 ·rw [em] at hu
  by_cases hbb:v'.ownBlock=some b
  ·rw [if_pos hbb] at hu
   have:=hown.cells hbb i u hu
   rwa [QaF,Nat.zero_add] at this
  ·rw [if_neg hbb] at hu
   have h1:=h.ms b i u hu
   have hlt:b<w.heap.size:=by
    rcases Nat.lt_or_ge b w.heap.size with hl | hl
    ·exact hl
    ·rw [hfresh b i hl] at hu;cases hu
   rw [World.cell?_of_block (w:=w) (a:=⟨b,i,none⟩) (hkeep b hlt hbb)];exact h1
 ·rw [qc] at h1
  rw [qo] at h2
  obtain ⟨u,hu,hr⟩:=h.ce o i x n h1 h2 h3
  refine ⟨u,?_,hr.mo hmo⟩
  rw [eloc,World.cell?_of_block (w:=w) (a:=⟨E.loc o,i,none⟩) (hkeep _ (hnlt o n h2) (hobj o n h2))];exact hu
 ·rw [qo] at h1
  obtain ⟨⟨cs,ty,h2,h3⟩,h4,h5⟩:=h.ob o n h1
  rw [eloc]
  exact ⟨⟨cs,ty,by rw [hkeep _ (hnlt o n h1) (hobj o n h1)];exact h2,h3⟩,fun i=>by rw [em,if_neg (hobj o n h1)];exact h4 i,h5⟩
 ·rw [qk] at h1
  by_cases hk:k'=k
  ·subst hk
   rw [if_pos rfl] at h1
   cases h1
   rw [erv,erx,if_pos rfl,if_pos rfl]
   exact ⟨hown,fun b h1=>⟨fun i=>by rw [em,if_pos h1],hD b h1⟩⟩
  ·rw [if_neg hk] at h1
   rw [erv,erx,if_neg hk,if_neg hk]
   obtain ⟨h2,h3⟩:=h.ro k' e1 s1 T1 h1
   exact ⟨QcG h2 fun b hb=>hkeep b (h2.lt b hb).2 (hrow k' e1 s1 T1 b h1 hk hb),fun b hb=>⟨fun i=>by rw [em,if_neg (hrow k' e1 s1 T1 b h1 hk hb)];exact (h3 b hb).1 i,(h3 b hb).2⟩⟩
 ·rw [qo] at h1 h2
  rw [eloc] at h3
  exact h.oo o o' n n' h1 h2 h3
 ·rw [qk] at h1 h2
  rw [erv] at h3 h4
  by_cases hk1:k1=k
  ·by_cases hk2:k2=k
   ·rw [hk1,hk2]
   ·rw [if_pos hk1] at h3
    rw [if_neg hk2] at h2 h4
    exact absurd h3 (hrow k2 e2 s2 T2 b h2 hk2 h4)
  ·rw [if_neg hk1] at h1 h3
   by_cases hk2:k2=k
   ·rw [if_pos hk2] at h4
    exact absurd h4 (hrow k1 e1 s1 T1 b h1 hk1 h3)
   ·rw [if_neg hk2] at h2 h4
    exact h.rr k1 k2 e1 s1 T1 e2 s2 T2 b h1 h2 h3 h4
 ·rw [qo] at h1
  rw [qk] at h2
  rw [erv,eloc]
  by_cases hk:k'=k
  ·rw [if_pos hk];exact hobj o n h1
  ·rw [if_neg hk] at h2 ⊢
   exact h.or o n k' e1 s1 T1 h1 h2
 ·have hq':gq σ' k=G':=Qk1 (by rw [qq,if_pos rfl])
  refine ⟨by omega,fun _ e1 sz1 T1 h2=>?_⟩
  rw [qk,if_pos rfl] at h2
  cases h2
  exact ⟨by omega,fun _=>⟨rfl,rfl,by rw [erv,if_pos rfl]⟩⟩
theorem Qce (w:World) (t tx ty e:TypeId) (i:TypeInfo) (z:Value) (size bytes:Nat) (ht:P.underlying t=some (.slice e)) (hi:P.info? e=some i) (hz:i.zero=some z)
  (hsize:i.size=size) (hby:i.bytes=bytes) (hzs:z.cells.size=size) (hsz:0<size)
  (v:Value) (n:Nat) (xs:List Value) (hown:w.ownsRow 0 e size v n xs) (x:Value) (m:Nat) (news:List Value) (hs:Src P size tx x m news w)
  (h63:n+m≤maxLen) (hbytes:(n+m) * bytes≤140737488355328) :
  ∃ v' w',(Builtin.append_ #[t,tx] ty #[v,x]).run P w=.ok v' w'∧w'.ownsRow 0 e size v' (n+m) (xs++news)∧Chg (fun b=>v'.ownBlock=some b) w w' ∧
   (∀ b,v'.ownBlock=some b→w.heap.size≤b∨v.ownBlock=some b)∧(m=0→v'=v):=by
 subst hsize
 subst hby
 have hsmall:n+m≤9223372036854775807:=by simp only [maxLen] at h63;omega
 have hlen:(xs++news).length=(n+m) * i.size:=by rw [List.length_append,hown.1,hs.newsLen,Nat.add_mul]
 have grown:∀ (old:Nat),old<n+m →
   (w.drew.alloc (.cells ((xs++news).toArray++Builtin.zeroCells z.cells (grownCap w (n+m) old e-(n+m))) e)).ownsRow 0 e i.size
    (.slice (some ⟨w.heap.size,0,none⟩) (n+m) (grownCap w (n+m) old e)) (n+m) (xs++news):=by
  intro old ho
  have hge:=grownCap_ge w (n+m) old e
  have hcm:grownCap w (n+m) old e≤maxLen:=grownCap_le_maxLen w (n+m) old e h63
  refine ⟨hlen,.inr ⟨w.heap.size,_,_,rfl,Nat.zero_le _,heap_alloc_new w.drew _,hge,hcm,?_,?_⟩⟩
  ·simp only [Array.size_append,List.size_toArray,size_zeroCells,hzs,hlen,←Nat.add_mul]
   congr 1
   omega
  ·simp only [Array.toList_append]
   rw [←hlen]
   exact List.take_left
 rcases hown.2 with ⟨rfl,hn0⟩ | ⟨g,cap,cur,rfl,_,hg,hnc,hcm,hcs,htake⟩
 ·subst hn0
  have hx:xs=[]:=List.eq_nil_of_length_eq_zero (by simpa using hown.1)
  subst hx
  by_cases hm:m=0
  ·subst hm
   have hn:news=[]:=List.eq_nil_of_length_eq_zero (by simpa using hs.newsLen)
   subst hn
   refine ⟨.slice none 0 0,w,?_,World.ownsRow_nil w 0 e i.size,Chg.refl _ _,(fun b h=>by cases h),fun _=>rfl⟩
   rcases hs.kind with ⟨e',hk⟩ | hk <;> simp [Builtin.append_,run_underlying ht,run_underlying hk,sizeOf,typeInfo,hi,hs.len,hs.cells]
  ·have hr:=run_append_grow_src (P:=P) w t tx ty e i z ht hi hz none 0 0 [] (by simp [Builtin.firstCells,loadCells,loadCellsFrom]) x m news hs (by omega) (by omega)
    (growslice_fits (by omega) (by simpa using hbytes))
   exact ⟨_,_,hr,grown 0 (by omega),((Chg.refl _ _).drew).alloc _,(fun b h=>.inl (by cases h;exact Nat.le_refl _)),fun h=>absurd h hm⟩
 ·by_cases hroom:n+m≤cap
  ·have hfit:n * i.size+news.length≤cur.size:=by rw [hs.newsLen,hcs,←Nat.add_mul];exact Nat.mul_le_mul_right _ hroom
   have hr:(Builtin.append_ #[t,tx] ty #[.slice (some ⟨g,0,none⟩) n cap,x]).run P w =
     .ok (.slice (some ⟨g,0,none⟩) (n+m) cap) (w.setRow g (cur.toList.take (n * i.size)++news++cur.toList.drop (n * i.size+news.length)).toArray):=by
    have hst:=run_storeCells_at P g (n * i.size) e news 0 cur w hg (by simpa using hfit) hs.one
    simp only [Nat.add_zero] at hst
    rcases hs.kind with ⟨e',hk⟩ | hk <;> simp [Builtin.append_,run_underlying ht,run_underlying hk,sizeOf,typeInfo,hi,hs.len,hroom,hs.cells,Addr.add_lit,hst]
   refine ⟨_,_,hr,⟨hlen,.inr ⟨g,cap,_,rfl,Nat.zero_le _,setRow_heap w g cur _ e _ hg,hroom,hcm,?_,?_⟩⟩,⟨rfl,rfl,rfl,by simp,fun k _ hk=>setRow_other w g k _ (fun e=>hk (by simp [Value.ownBlock,e]))⟩,fun b h=>.inr h,fun h=>by subst h;rfl⟩
   ·simp only [List.size_toArray,List.length_append,List.length_take,List.length_drop,Array.length_toList]
    omega
   ·rw [htake,←hlen]
    exact List.take_left
  ·have holds:∀ j u,xs[j]? = some u→w.cell? ((⟨g,0,none⟩:Addr).add j)=some u:=hown.cells (g:=g) rfl
   have hr:=run_append_grow_src (P:=P) w t tx ty e i z ht hi hz (some ⟨g,0,none⟩) n cap xs
    (run_firstCells_some w.drew i.size n ⟨g,0,none⟩ n cap xs hown.1 (by simpa using holds)) x m news hs (by omega) (by omega) (growslice_fits (by omega) hbytes)
   exact ⟨_,_,hr,grown cap (by omega),((Chg.refl _ _).drew).alloc _,(fun b h=>.inl (by cases h;exact Nat.le_refl _)),fun h=>by subst h;exact absurd hnc hroom⟩
def QaG (b:UInt8):List V:=[.sc (.int .u8 b.toNat)]
def QaW:AV→Option (List (List V))
 | .val (.lst _ es) | .own _ _ _ _ es=>some es
 | .val (.sc (.slice none 0 0))=>some []
 | .val (.sc (.string s))=>some (s.data.toList.map QaG)
 | _=>none
def Qba:AV→Bool
 | .val (.sc (.string _))=>false
 | _=>true
theorem Qla (hg:Gm C E σ a w) {x:AV} {v:Value} {es:List (List V)} {sz:Nat} {tx:TypeId} (hx:RdA E σ x v) (he:QaW x=some es) (hsz:∀ r∈es,r.length=sz) (hone:∀ r∈es,∀ y∈r,Qfn y=true)
  (hk:if Qba x then ∃ e',P.underlying tx=some (.slice e') else P.underlying tx=some .string∧sz=1) :
  ∃ news,Src P sz tx v es.length news w∧∀ i j (hi:i<es.length) (hj:j<es[i].length),∃ u,news[i * sz+j]? = some u∧Rd E.m (es[i][j]) u:=by
 have hlist:∀ sz0,Rd E.m (.lst sz0 es) v→(∃ e',P.underlying tx=some (.slice e'))→∃ news,Src P sz tx v es.length news w∧∀ i j (hi:i<es.length) (hj:j<es[i].length),∃ u,news[i * sz+j]? = some u∧Rd E.m (es[i][j]) u:=by
  intro sz0 hr ⟨e',hk0⟩
  obtain ⟨A,cap,rfl,hc,hA,hs0,xs,hxl,hxr,hxm⟩:=QdA hr
  by_cases hes:es=[]
  ·subst hes
   have hx0:xs=[]:=List.eq_nil_of_length_eq_zero (by simpa using hxl)
   refine ⟨[],?_,fun i j hi=>by simp at hi⟩
   cases A with
   | none=>obtain rfl:=hA rfl;exact Src.ofNil w hk0 0
   | some A=>exact Src.ofSlice w hk0 A 0 cap [] (by simp) (fun j u h=>by simp at h) (fun u h=>by cases h)
  ·have hsz0:sz0=sz:=by
    have hp:0<es.length:=List.length_pos_iff.2 hes
    have h1:=hs0 0 hp
    have h2:=hsz es[0] (by simp)
    omega
   subst hsz0
   cases A with
   | none=>
    have:=hA rfl
    have hp:0<es.length:=List.length_pos_iff.2 hes
    omega
   | some A=>
    refine ⟨xs,Src.ofSlice w hk0 A es.length cap xs hxl (fun j u h=>?_) (fun u hu=>?_),hxr⟩
    ·obtain ⟨b,o,h1,h2⟩:=hxm j u h
     cases h1
     rw [QaF];exact hg.ms _ _ _ h2
    ·obtain ⟨t,ht,rfl⟩:=List.getElem_of_mem hu
     have h0:0<sz0:=by rcases Nat.eq_zero_or_pos sz0 with h | h;subst h;rw [hxl] at ht;simp at ht;exact h
     have h1:t / sz0<es.length:=Nat.div_lt_of_lt_mul (by rw [Nat.mul_comm];omega)
     obtain ⟨u,hu1,hu2⟩:=hxr (t / sz0) (t % sz0) h1 (by rw [hs0 _ h1];exact Nat.mod_lt _ h0)
     rw [Nat.mul_comm,Nat.div_add_mod] at hu1
     have:xs[t]=u:=by rw [List.getElem?_eq_getElem ht] at hu1;exact Option.some.inj hu1
     rw [this]
     exact Qcu hu2 (hone (es[t / sz0]) (List.getElem_mem h1) _ (List.getElem_mem _))
 cases x with
 | ptr=>simp [QaW] at he
 | ref=>simp [QaW] at he
 | elp=>simp [QaW] at he
 | vw=>simp [QaW] at he
 | cp=>simp [QaW] at he
 | pv=>simp [QaW] at he
 | nv=>simp [QaW] at he
 | ag=>simp [QaW] at he
 | fn=>simp [QaW] at he
 | own k g e sz0 es0=>
  simp [QaW] at he
  subst he
  exact hlist sz0 hx.1 (by simpa [Qba] using hk)
 | val y=>
  cases y with
  | lst sz0 es0=>
   simp [QaW] at he
   subst he
   exact hlist sz0 hx (by simpa [Qba] using hk)
  | sc u=>
   have hv:v=u:=Rd.sc_eq hx
   subst hv
   cases v with
   | slice A n c=>
    cases A with
    | some A=>simp [QaW] at he
    | none=>
     cases n with
     | succ n=>simp [QaW] at he
     | zero=>
      cases c with
      | succ c=>simp [QaW] at he
      | zero=>
       simp [QaW] at he
       subst he
       exact hlist sz (Rd.nil0 sz) (by simpa [Qba] using hk)
   | string s=>
    simp [QaW] at he
    subst he
    simp only [Qba,Bool.false_eq_true,if_false] at hk
    obtain ⟨hk,rfl⟩:=hk
    refine ⟨byteCells s,by rw [show (List.map QaG s.data.toList).length=s.size by rw [List.length_map];rfl];exact Src.ofString (P:=P) w hk s,fun i j hi hj=>?_⟩
    simp only [List.length_map] at hi
    have hj0:j=0:=by simp [QaG] at hj;exact hj
    subst hj0
    refine ⟨.int .u8 ((s.data.toList[i]'hi).toNat),?_,?_⟩
    ·have he:(byteCells s)[i * 1+0]? = (s.data.toList[i]?).map (fun b=>Value.int .u8 b.toNat):=by rw [Nat.mul_one,Nat.add_zero,byteCells,List.getElem?_map]
     rw [he,List.getElem?_eq_getElem hi];rfl
    ·simp [QaG];exact Rd.sc _
   | _=>simp [QaW] at he
  | _=>simp [QaW] at he
def Qfu (P:Program) (σ:St) (d:Tmp) (t tx:TypeId) (s x:Operand):Stp:=
 match Qao P t with
 | some { sh:=.slice,elem:=e,.. }=>match Qao P e,QaW (ev σ x) with
  | some { size:=sz,bytes:=by_,zero:=z,zok:=true,.. },some new=>
   let c0:Nat→Prop:=fun n=>(n+new.length) * by_≤140737488355328∧n+new.length≤9223372036854775807∧z.length=sz∧0<sz∧(∀ r∈new,r.length=sz)∧(∀ r∈new,∀ y∈r,Qfn y=true) ∧
    (if Qba (ev σ x) then (Qao P tx).map (·.sh)=some .slice else (Qao P tx).map (·.sh)=some .str∧sz=1)
   match ev σ s with
   | .val (.sc (.slice none 0 0))=>some (c0 0,.q (d,0)::(rdl s++rdl x),[(.q (d,0),.num (gq σ (d,0)+1)),(.k (d,0),.row e sz new.length)]++[(.s d,.av (.own (d,0) (gq σ (d,0)+1) e sz new))])
   | .own k g e' sz' old=>some (c0 old.length∧e'=e∧sz'=sz∧gq σ k=g∧σ (.k k)=.row e sz old.length,.q k :: .k k::(rdl s++rdl x),[(.q k,.num g),(.k k,.row e sz (old.length+new.length))]++[(.s d,.av (.own k g e sz (old++new)))])
   | _=>none
  | _,_=>none
 | _=>none
theorem QbM {t:TypeId} (h:(Qao P t).map (·.sh)=some .slice):∃ e,P.underlying t=some (.slice e):=by
 cases ht:Qao P t with
 | none=>rw [ht] at h;cases h
 | some T=>rw [ht] at h;simp at h;obtain ⟨i,d,_,h2,_,_,_,h3,_⟩:=Qak ht;exact ⟨T.elem,by rw [h2,h3 h]⟩
theorem QeU {t:TypeId} (h:(Qao P t).map (·.sh)=some .str):P.underlying t=some .string:=by
 cases ht:Qao P t with
 | none=>rw [ht] at h;cases h
 | some T=>rw [ht] at h;simp at h;obtain ⟨i,d,_,h2,_,_,_,_,_,h3,_⟩:=Qak ht;rw [h2,h3 h]
theorem Qck {m:Mem} {old new:List (List V)} {xs news:List Value} {sz:Nat} (hxl:xs.length=old.length * sz) (hso:∀ i (h:i<old.length),old[i].length=sz)
  (h1:∀ i j (hi:i<old.length) (hj:j<old[i].length),∃ u,xs[i * sz+j]? = some u∧Rd m (old[i][j]) u) (h2:∀ i j (hi:i<new.length) (hj:j<new[i].length),∃ u,news[i * sz+j]? = some u∧Rd m (new[i][j]) u) :
  ∀ i j (hi:i<(old++new).length) (hj:j<(old++new)[i].length),∃ u,(xs++news)[i * sz+j]? = some u∧Rd m ((old++new)[i][j]) u:=by
 intro i j hi hj
 by_cases hlt:i<old.length
 ·have e1:(old++new)[i]=old[i]:=List.getElem_append_left hlt
  have hj':j<old[i].length:=by rw [←e1];exact hj
  obtain ⟨u,h3,h4⟩:=h1 i j hlt hj'
  refine ⟨u,?_,by simp only [e1];exact h4⟩
  rw [List.getElem?_append_left (List.getElem?_eq_some_iff.1 h3).1];exact h3
 ·have hge:old.length≤i:=Nat.le_of_not_lt hlt
  have e1:(old++new)[i]=new[i-old.length]'(by rw [List.length_append] at hi;omega):=List.getElem_append_right hge
  have hj':j<(new[i-old.length]'(by rw [List.length_append] at hi;omega)).length:=by rw [←e1];exact hj
  obtain ⟨u,h3,h4⟩:=h2 (i-old.length) j (by rw [List.length_append] at hi;omega) hj'
  refine ⟨u,?_,by simp only [e1];exact h4⟩
  have hmul:old.length * sz≤i * sz:=Nat.mul_le_mul_right _ hge
  rw [List.getElem?_append_right (by omega),hxl,show i * sz+j-old.length * sz=(i-old.length) * sz+j by rw [Nat.sub_mul];omega]
  exact h3
theorem Qrq (d:Tmp) (t tx:TypeId) (s x:Operand):Qbl P C σ (some d) (.call { callee:=.builtin .append,args:=#[s,x],argTypes:=#[t,tx] }) (Qfu P σ d t tx s x):=by
 unfold Qfu
 split
 ·rename_i ag0 sz0 by0 z0 e f0 fk0 zk0 ht
  obtain ⟨it,dt,_,hdt,_,_,_,hsl,_⟩:=Qak ht
  have hsl:dt=.slice e:=hsl rfl
  subst hsl
  split
  ·rename_i sh0 ag1 sz by_ z el fs fk new hte hnew
   obtain ⟨ie,de,hie,hde,hsz,hby,_,_,_,_,_,_,_,hz,_,_,_,hzk⟩:=Qak hte
   obtain ⟨zv,hzv⟩:=Option.isSome_iff_exists.1 hzk.symm
   have hz:z=zv.cells.toList:=by rw [hzv] at hz;exact hz
   -- the run,whatever the first operand is
   have main:∀ (E:Env) (σ':St) (a:Act) (w:World) (v:Value) (n:Nat) (xs:List Value),Gm C E σ' a w→(∀ l∈rdl x,σ' l=σ l)→w.ownsRow 0 e sz v n xs→a.eval s=v →
     ((n+new.length) * by_≤140737488355328∧n+new.length≤9223372036854775807∧z.length=sz∧0<sz∧(∀ r∈new,r.length=sz)∧(∀ r∈new,∀ y∈r,Qfn y=true) ∧
      (if Qba (ev σ x) then (Qao P tx).map (·.sh)=some .slice else (Qao P tx).map (·.sh)=some .str∧sz=1)) →
     ∃ v' w' news,(∀ ty pos af,(execOp a.eval ⟨some d,.call { callee:=.builtin .append,args:=#[s,x],argTypes:=#[t,tx] },ty,pos,af,none⟩).run P w=.ok (.value v') w')∧w'.ownsRow 0 e sz v' (n+new.length) (xs++news) ∧
      Chg (fun b=>v'.ownBlock=some b) w w'∧(∀ b,v'.ownBlock=some b→w.heap.size≤b∨v.ownBlock=some b)∧(new.length=0→v'=v) ∧
      (∀ i j (hi:i<new.length) (hj:j<new[i].length),∃ u,news[i * sz+j]? = some u∧Rd E.m (new[i][j]) u):=by
    intro E σ' a w v n xs hg hrx hown hv hc
    obtain ⟨c1,c2,c3,c4,c5,c6,c7⟩:=hc
    have hx:=Qax hg x
    rw [Qae hrx] at hx
    obtain ⟨news,hsrc,hnr⟩:=Qla (P:=P) (tx:=tx) hg hx hnew c5 c6 (by
     split
     ·rename_i hb;rw [if_pos hb] at c7;exact QbM c7
     ·rename_i hb;rw [if_neg hb] at c7;exact ⟨QeU c7.1,c7.2⟩)
    have hzs:zv.cells.size=sz:=by rw [←c3,hz];simp
    have hrunall:∀ ty,∃ v' w',(Builtin.append_ #[t,tx] ty #[v,a.eval x]).run P w=.ok v' w'∧w'.ownsRow 0 e sz v' (n+new.length) (xs++news)∧Chg (fun b=>v'.ownBlock=some b) w w' ∧
      (∀ b,v'.ownBlock=some b→w.heap.size≤b∨v.ownBlock=some b)∧(new.length=0→v'=v):=fun ty=>
     Qce w t tx ty e ie zv sz by_ hdt hie hzv hsz.symm hby.symm hzs c4 v n xs hown _ _ _ hsrc (by unfold maxLen;omega) c1
    obtain ⟨v',w',h1,h2⟩:=hrunall 0
    refine ⟨v',w',news,fun ty pos af=>?_,h2.1,h2.2.1,h2.2.2.1,h2.2.2.2,hnr⟩
    have hty:Builtin.append_ #[t,tx] ty #[v,a.eval x]=Builtin.append_ #[t,tx] 0 #[v,a.eval x]:=rfl
    simp [execOp,resolve,invoke,builtin,hv,hty,h1]
   dsimp only
   split
   ·rename_i hs
    ·obtain ⟨G,hG⟩:∃ G,gq σ (d,0)=G:=⟨_,rfl⟩
     rw [hG]
     refine QaV (W0:=[(.q (d,0),.num (G+1)),(.k (d,0),.row e sz new.length)]) fun hc ty pos af E σ' a w hr hg hd=>?_
     have hr1:∀ l∈rdl s++rdl x,σ' l=σ l:=fun l hl=>hr l (List.mem_cons_of_mem _ hl)
     obtain ⟨hr2,hr3⟩:=Qaq hr1
     have hsv:a.eval s=.slice none 0 0:=QaS (by unfold Qhq;rw [hs]) hr2 hg
     obtain ⟨v',w',news,h1,h2,h3,h4,h5,h6⟩:=main E σ' a w (.slice none 0 0) 0 [] hg hr3 (World.ownsRow_nil _ _ _ _) hsv hc
     simp only [Nat.zero_add,List.nil_append] at h2
     obtain ⟨E',g1,g2,_,g3,g4,g5⟩:=hg.row (d,0) G (G+1) (by rw [Qda (hr _ (by simp))];exact hG) e sz new.length v' w' news (.inr rfl) (fun b hb=>(h4 b hb).imp id (fun h=>by cases h)) h2 h3
     obtain ⟨c1,c2,c3,c4,c5,c6,c7⟩:=hc
     exact ⟨v',w',E',h1 ty pos af,g1,g5 new rfl (Qjq h2 rfl (fun i h=>c5 _ (by simp)) g3 (fun i j hi hj=>by
      obtain ⟨u,h7,h8⟩:=h6 i j hi hj
      exact ⟨u,h7,h8.mono g4⟩))⟩
   ·rename_i k g e' sz' old hs
    refine QaV (W0:=[(.q k,.num g),(.k k,.row e sz (old.length+new.length))]) fun hc ty pos af E σ' a w hr hg hd=>?_
    obtain ⟨hc0,rfl,rfl,hcq,hck⟩:=hc
    have hr1:∀ l∈rdl s++rdl x,σ' l=σ l:=fun l hl=>hr l (List.mem_cons_of_mem _ (List.mem_cons_of_mem _ hl))
    obtain ⟨hr2,hr3⟩:=Qaq hr1
    have hq:gq σ' k=g:=by rw [Qda (hr _ (by simp))];exact hcq
    have hk:σ' (.k k)=.row e' sz' old.length:=by rw [hr _ (by simp)];exact hck
    have hx:=Qax hg s
    rw [Qae hr2,hs] at hx
    obtain ⟨hx1,hx2⟩:=hx
    have hrv:=(hx2.2 hq.symm e' sz' old.length hk).2 rfl
    obtain ⟨_,_,hrv⟩:=hrv
    obtain ⟨hown,hmm⟩:=hg.ro k e' sz' old.length hk
    obtain ⟨v',w',news,h1,h2,h3,h4,h5,h6⟩:=main E σ' a w (E.rv k) old.length (E.rx k) hg hr3 hown hrv hc0
    obtain ⟨E',g1,g2,_,g3,g4,g5⟩:=hg.row k g g hq e' sz' (old.length+new.length) v' w' (E.rx k++news) (.inl ⟨rfl,old.length,hk,by omega,fun h=>h5 (by omega)⟩)
     (fun b hb=>(h4 b hb).imp id (fun h=>⟨e',sz',old.length,hk,h,fun i hi=>List.getElem?_append_left hi⟩)) h2 h3
    have hold:∀ i j (hi:i<old.length) (hj:j<old[i].length),∃ u,(E.rx k)[i * sz'+j]? = some u∧Rd E.m (old[i][j]) u:=by
     intro i j hi hj
     rw [hrv] at hx1
     obtain ⟨A,cap,hA,_,_,hs0,ys,hyl,hyr,hym⟩:=QdA hx1
     obtain ⟨u,h7,h8⟩:=hyr i j hi hj
     refine ⟨u,?_,h8⟩
     obtain ⟨b,o,h9,h10⟩:=hym _ _ h7
     have hblk:(E.rv k).ownBlock=some b:=by rw [hA,h9];rfl
     have ho:o=0:=by
      rcases hown.2 with ⟨h11,_⟩ | ⟨gg,cap',cur,h11,_⟩
      ·rw [h11] at hA;injection hA with hA1;rw [←hA1] at h9;cases h9
      ·rw [h11] at hA;injection hA with hA1;rw [←hA1] at h9;cases h9;rfl
     subst ho
     rw [←((hmm b hblk).1 _),←h10];simp
    obtain ⟨c1,c2,c3,c4,c5,c6,c7⟩:=hc0
    have hso:∀ i (h:i<old.length),old[i].length=sz':=by
     obtain ⟨A,cap,hA,_,_,hs0,_⟩:=QdA hx1
     exact hs0
    refine ⟨v',w',E',h1 ty pos af,g1,g5 (old++new) (by simp) (Qjq h2 (by simp) (fun i h=>?_) g3 ?_)⟩
    ·by_cases hlt:i<old.length
     ·rw [List.getElem_append_left hlt];exact hso i hlt
     ·rw [List.getElem_append_right (by omega)];exact c5 _ (by simp)
    ·intro i j hi hj
     obtain ⟨u,h7,h8⟩:=Qck hown.1 hso hold h6 i j hi hj
     exact ⟨u,h7,h8.mono g4⟩
   ·intro _ _ _ h;cases h
  ·intro _ _ _ h;cases h
 ·intro _ _ _ h;cases h
end
end Go.Proofs.YthfocmakkeonoaaGreatDoor
namespace Go.Proofs.YthfocmakkeonoaaGreatDoor
open Go.RowKit
def Qbs:AV→Option (List V)
 | .val (.agg xs)=>some xs
 | .val (.sc v)=>if v.oneCell' then some [.sc v] else none
 | .val (.lst sz es) | .own _ _ _ sz es=>some [.lst sz es]
 | .val (.ep xs)=>some [.ep xs]
 | .val (.ifc t x)=>some [.ifc t x]
 | _=>none
def QaN (cs:List V) (off:Nat) (vs:List V):List V:=cs.take off++vs++cs.drop (off+vs.length)
def Qi7 (place:Nat→Option (Nat × Nat)):List V→List (Nat × AV)→Option (List V)
 | cs,[]=>some cs
 | cs,(i,x)::rest=>match place i,Qbs x with
  | some (off,size),some vs=>if vs.length=size∧off+size≤cs.length then Qi7 place (QaN cs off vs) rest else none
  | _,_=>none
section
variable {P:Program} {ops:Array Oper} {C:Ctx} {E:Env} {σ:St} {a:Act} {w:World}
theorem Qj2 {x:AV} {v:Value} {vs:List V} (h:RdA E σ x v) (hp:Qbs x=some vs):v.cells.size=vs.length∧∀ i (hi:i<vs.length),∃ u,v.cells[i]? = some u∧Rd E.m vs[i] u:=by
 have one:∀ y:V,Rd E.m y v→v.oneCell'=true→v.cells.size=[y].length∧∀ i (hi:i < [y].length),∃ u,v.cells[i]? = some u∧Rd E.m [y][i] u:=fun y hy ho=>by
  rw [Qfs ho]
  refine ⟨rfl,fun i hi=>?_⟩
  obtain rfl:i=0:=by simpa using hi
  exact ⟨v,rfl,hy⟩
 cases x with
 | ptr=>simp [Qbs] at hp
 | ref=>simp [Qbs] at hp
 | elp=>simp [Qbs] at hp
 | vw=>simp [Qbs] at hp
 | cp=>simp [Qbs] at hp
 | pv=>simp [Qbs] at hp
 | nv=>simp [Qbs] at hp
 | ag=>simp [Qbs] at hp
 | fn=>simp [Qbs] at hp
 | own k g e sz es=>simp [Qbs] at hp;subst hp;exact one _ h.1 (Qcu h.1 rfl)
 | val y=>
  have h:Rd E.m y v:=h
  cases y with
  | sc u=>
   simp only [Qbs] at hp
   split at hp
   ·cases hp
    rename_i ho
    have:=Rd.sc_eq h
    subst this
    exact one _ h ho
   ·cases hp
  | lst sz es=>simp [Qbs] at hp;subst hp;exact one _ h (Qcu h rfl)
  | ep xs=>simp [Qbs] at hp;subst hp;exact one _ h (Qcu h rfl)
  | ifc t x=>simp [Qbs] at hp;subst hp;exact one _ h (Qcu h rfl)
  | agg xs=>
   simp [Qbs] at hp
   subst hp
   cases h with
   | agg _ ys hl hr=>exact ⟨hl,fun i hi=>⟨ys[i]'(hl ▸ hi),by simp [Value.cells,hl ▸ hi],hr i hi⟩⟩
  | tup=>simp [Qbs] at hp
  | any=>simp [Qbs] at hp
theorem Qe6 (off:Nat):∀ (l:List Value) (k:Nat) (cs:Array Value),off+k+l.length≤cs.size →
  ((l.zipIdx k).foldl (fun cs (c:Value × Nat)=>cs.setIfInBounds (off+c.2) c.1) cs).toList=cs.toList.take (off+k)++l++cs.toList.drop (off+k+l.length)
 | [],k,cs,_=>by simp
 | x::l,k,cs,h=>by
  rw [List.zipIdx_cons,List.foldl_cons,Qe6 off l (k+1) _ (by simp at h ⊢;omega)]
  simp only [Array.toList_setIfInBounds]
  have hlt:off+k<cs.toList.length:=by simp at h ⊢;omega
  have e1:(cs.toList.set (off+k) x).take (off+(k+1))=cs.toList.take (off+k)++[x]:=by
   rw [show off+(k+1)=off+k+1 by omega,List.take_succ_eq_append_getElem (by simpa using hlt),List.take_set_of_le (Nat.le_refl _)]
   simp
  have e2:(cs.toList.set (off+k) x).drop (off+(k+1)+l.length)=cs.toList.drop (off+k+(x::l).length):=by
   rw [List.drop_set_of_lt (by omega)]
   congr 1
   simp;omega
  rw [e1,e2]
  simp
theorem QmB (hg:Gm C E σ a w) (place:Nat→Option (Nat × Nat)):∀ (parts:List (Nat × Operand)) (cs cs':List V) (cells:Array Value),cells.size=cs.length→(∀ i (hi:i<cs.length),∃ u,cells[i]? = some u∧Rd E.m cs[i] u) →
  Qi7 place cs (parts.map fun p=>(p.1,ev σ p.2))=some cs'→∃ cells',Instr.fill place cells (parts.map fun p=>(p.1,a.eval p.2))=some cells'∧cells'.size=cs'.length∧∀ i (hi:i<cs'.length),∃ u,cells'[i]? = some u∧Rd E.m cs'[i] u
 | [],cs,cs',cells,hl,hr,h=>by simp [Qi7] at h;subst h;exact ⟨cells,rfl,hl,hr⟩
 | (i,x)::rest,cs,cs',cells,hl,hr,h=>by
  simp only [List.map_cons,Qi7] at h
  split at h
  ·rename_i off size vs hp hv
   split at h
   ·rename_i hc
    obtain ⟨h1,h2⟩:=Qj2 (Qax hg x) hv
    obtain ⟨Qc1,hcells1⟩:∃ c,c=(a.eval x).cells.zipIdx.foldl (fun cs (c,j)=>cs.setIfInBounds (off+j) c) cells:=⟨_,rfl⟩
    have htl:Qc1.toList=cells.toList.take off++(a.eval x).cells.toList++cells.toList.drop (off+(a.eval x).cells.toList.length):=by
     have h3:=Qe6 off (a.eval x).cells.toList 0 cells (by simp;omega)
     rw [Nat.add_zero] at h3
     rw [hcells1,←h3,←Array.foldl_toList,Array.toList_zipIdx]
    have hlen:Qc1.size=(QaN cs off vs).length:=by
     rw [←Array.length_toList,htl]
     simp [QaN];omega
    have hrest:∀ j (hj:j<(QaN cs off vs).length),∃ u,Qc1[j]? = some u∧Rd E.m (QaN cs off vs)[j] u:=by
     intro j hj
     have hcl:∀ j:Nat,Qc1[j]? = Qc1.toList[j]?:=fun j=>by rw [Array.getElem?_toList]
     rw [hcl,htl]
     simp only [QaN] at hj ⊢
     by_cases c1:j<off
     ·obtain ⟨u,hu,hru⟩:=hr j (by omega)
      refine ⟨u,?_,?_⟩
      ·rw [List.append_assoc,List.getElem?_append_left (by simp;omega),List.getElem?_take_of_lt c1];simpa using hu
      ·rw [List.getElem_append_left (by simp;omega),List.getElem_append_left (by simp;omega),List.getElem_take];exact hru
     ·by_cases c2:j<off+vs.length
      ·obtain ⟨u,hu,hru⟩:=h2 (j-off) (by omega)
       refine ⟨u,?_,?_⟩
       ·rw [List.getElem?_append_left (by simp;omega),List.getElem?_append_right (by simp;omega),show j-(cells.toList.take off).length=j-off by simp;omega];simpa using hu
       ·rw [List.getElem_append_left (by simp;omega),List.getElem_append_right (by simp;omega)]
        have:j-(cs.take off).length=j-off:=by simp;omega
        simp only [this];exact hru
      ·have hj':j<cs.length:=by simp at hj;omega
       obtain ⟨u,hu,hru⟩:=hr j hj'
       refine ⟨u,?_,?_⟩
       ·rw [List.getElem?_append_right (by simp;omega),List.getElem?_drop]
        rw [show off+(a.eval x).cells.toList.length+(j-(cells.toList.take off++(a.eval x).cells.toList).length)=j by simp;omega]
        simpa using hu
       ·rw [List.getElem_append_right (by simp;omega),List.getElem_drop]
        have:off+vs.length+(j-(cs.take off++vs).length)=j:=by simp;omega
        simp only [this];exact hru
    obtain ⟨cells',h4,h5,h6⟩:=QmB hg place rest (QaN cs off vs) cs' Qc1 hlen hrest h
    refine ⟨cells',?_,h5,h6⟩
    simp only [List.map_cons,Instr.fill,hp]
    rw [if_neg (by simp;omega),←hcells1]
    exact h4
   ·cases h
  ·cases h
def Qu2:List (Nat × Operand)→List Pl
 | []=>[]
 | p::l=>rdl p.2++Qu2 l
def evs (σ:St):List (Nat × Operand)→List (Nat × AV)
 | []=>[]
 | p::l=>(p.1,ev σ p.2)::evs σ l
theorem Qj3 {σ σ':St}:∀ {l:List (Nat × Operand)},(∀ x∈Qu2 l,σ' x=σ x)→l.map (fun p=>(p.1,ev σ' p.2))=evs σ l
 | [],_=>rfl
 | p::l,h=>by
  obtain ⟨h1,h2⟩:=Qaq (L:=rdl p.2) (M:=Qu2 l) h
  simp only [List.map_cons,evs,Qae h1,Qj3 h2]
def Qfv (fs:List (Nat × Nat × Bool)) (i:Nat):Option (Nat × Nat):=(fs[i]?).map fun f=>(f.1,f.2.1)
def QhS (P:Program) (σ:St) (d:Tmp) (t:TypeId) (parts:List (Nat × Operand)):Stp:=
 match Qao P t with
 | some { sh:=.strct,fields:=fs,fok:=true,zero:=z,zok:=true,.. }=>match Qi7 (Qfv fs) (z.map .sc) (evs σ parts) with
  | some cs=>some (True,Qu2 parts,[(.s d,.av (.val (.agg cs)))])
  | none=>none
 | _=>none
theorem Qe7 (w:World):∀ (fs:List Field),(∀ f∈fs,(P.info? f.type).isSome=true)→(fs.mapM fun f=>(do pure (f.offset,←sizeOf f.type):Sem (Nat × Nat))).run P w=.ok (fs.map fun f=>(f.offset,((P.info? f.type).map (·.size)).getD 0)) w
 | [],_=>by simp
 | f::fs,h=>by
  obtain ⟨i,hi⟩:=Option.isSome_iff_exists.1 (h f (by simp))
  rw [List.mapM_cons]
  have h1:(do pure (f.offset,←sizeOf f.type):Sem (Nat × Nat)).run P w=.ok (f.offset,i.size) w:=by simp [sizeOf,typeInfo,hi]
  simp only [Sem.run_bind,h1,Result.andThen_ok,Qe7 w fs (fun g hg=>h g (by simp [hg])),Sem.run_pure,List.map_cons,hi,Option.map_some,Option.getD_some]
theorem QBk {m:Mem} {cs:List V} {cells:Array Value} (h1:cells.size=cs.length) (h2:∀ i (hi:i<cs.length),∃ u,cells[i]? = some u∧Rd m cs[i] u):Rd m (.agg cs) (.agg cells):=
 Rd.agg _ _ h1 fun i hi=>by
  obtain ⟨u,hu,hr⟩:=h2 i hi
  have:cells[i]'(h1 ▸ hi)=u:=by rw [Array.getElem?_eq_getElem (h1 ▸ hi)] at hu;exact Option.some.inj hu
  rw [this];exact hr
theorem Qvk (d:Tmp) (t:TypeId) (parts:List (Nat × Operand)):Qbl P C σ (some d) (.build t parts.toArray) (QhS P σ d t parts):=by
 unfold QhS
 split
 ·rename_i z e0 fs ht
  split
  ·rename_i cs hcs
   refine Qar fun hc ty pos af E σ' a w hr hg=>?_
   obtain ⟨it,dt,hit,hdt,_,_,_,_,_,_,_,_,hst,_,_,_,hfok,_⟩:=Qak ht
   obtain ⟨F,rfl,hF⟩:=hst rfl
   have hF:fs=_:=hF
   have hfok:=hfok.symm
   simp only at hfok
   obtain ⟨zv,hzv,hz⟩:=Qhr ht rfl w
   have hz:zv.cells.toList=z:=hz
   have hall:∀ f∈F.toList,(P.info? f.type).isSome=true:=fun f hf=>by simpa using List.all_eq_true.1 hfok f hf
   have hpl:(F.mapM fun f=>(do pure (f.offset,←sizeOf f.type):Sem (Nat × Nat))).run P w=.ok (F.toList.map fun f=>(f.offset,((P.info? f.type).map (·.size)).getD 0)).toArray w:=by
    have hmp:=Qe7 (P:=P) w F.toList hall
    rw [Array.mapM_eq_mapM_toList,Sem.run_map,hmp]
    rfl
   rw [←Qj3 hr] at hcs
   obtain ⟨cells',h1,h2,h3⟩:=QmB hg (Qfv fs) parts (z.map .sc) cs zv.cells (by rw [←hz];simp) (fun i hi=>by
    simp at hi
    rw [←hz] at hi
    refine ⟨zv.cells[i]'(by simpa using hi),by simp at hi;simp [hi],?_⟩
    simp [←hz];exact Rd.sc _) hcs
   refine ⟨.agg cells',?_,QBk h2 h3⟩
   have hpf:(fun i=>(F.toList.map fun f=>(f.offset,((P.info? f.type).map (·.size)).getD 0)).toArray[i]?)=Qfv fs:=by
    funext i
    simp only [Qfv,hF,List.getElem?_toArray,List.getElem?_map,Option.map_map]
    rfl
   have hmap:(List.map (fun p=>(p.1,a.eval p.2)) parts).toArray.toList=parts.map fun p=>(p.1,a.eval p.2):=by simp
   have hb:(Instr.build t (List.map (fun p=>(p.1,a.eval p.2)) parts).toArray).run P w=.ok (.agg cells') w:=by
    unfold Instr.build
    simp only [Sem.run_bind,hzv,run_underlying hdt,Result.andThen_ok,hpl,hpf,hmap,h1,Sem.run_pure]
   simp only [execOp,List.map_toArray,Sem.run_bind,hb,Result.andThen_ok,Sem.run_pure]
  ·intro _ _ _ h;cases h
 ·intro _ _ _ h;cases h
def QhT (sz:Nat):Nat→List V→List (List V)
 | 0,_=>[]
 | n+1,cs=>cs.take sz::QhT sz n (cs.drop sz)
theorem Qc4 (sz:Nat):∀ (n:Nat) (cs:List V),(QhT sz n cs).length=n
 | 0,_=>rfl
 | n+1,cs=>by simp [QhT,Qc4 sz n]
theorem Qfw (sz:Nat):∀ (n:Nat) (cs:List V) (i:Nat) (hi:i<(QhT sz n cs).length),(QhT sz n cs)[i]=(cs.drop (i * sz)).take sz
 | n+1,cs,0,hi=>by simp [QhT]
 | n+1,cs,i+1,hi=>by
  show (QhT sz n (cs.drop sz))[i]'_=_
  rw [Qfw sz n (cs.drop sz) i,List.drop_drop,Nat.add_mul,Nat.one_mul,Nat.add_comm]
def Qfx (P:Program) (σ:St) (d:Tmp) (t:TypeId) (len:Nat) (parts:List (Nat × Operand)):Stp:=
 match Qao P t with
 | some { sh:=.slice,elem:=e,.. }=>match Qao P e with
  | some { size:=s,zok:=true,.. }=>match Qi7 (fun i=>some (i * s,s)) (List.replicate (len * s) .any) (evs σ parts) with
   | some cs=>some (len * s≤16777216∧len≤16777216,.q (d,0)::Qu2 parts,[(.q (d,0),.num (gq σ (d,0)+1)),(.k (d,0),.row e s len)]++[(.s d,.av (.own (d,0) (gq σ (d,0)+1) e s (QhT s len cs)))])
   | none=>none
  | _=>none
 | _=>none
theorem QgW (place:Nat→Option (Nat × Nat)):∀ (parts:List (Nat × AV)) (cs cs':List V),Qi7 place cs parts=some cs'→cs'.length=cs.length
 | [],cs,cs',h=>by simp [Qi7] at h;rw [h]
 | (i,x)::rest,cs,cs',h=>by
  simp only [Qi7] at h
  split at h
  ·split at h
   ·rename_i hc
    rw [QgW place rest _ _ h]
    simp [QaN];omega
   ·cases h
  ·cases h
theorem Qrr (d:Tmp) (t:TypeId) (len:Nat) (parts:List (Nat × Operand)):Qbl P C σ (some d) (.buildSlice t len parts.toArray) (Qfx P σ d t len parts):=by
 unfold Qfx
 split
 ·rename_i e _ _ _ ht
  split
  ·rename_i s by_ z el fs fk hte
   split
   ·rename_i cs hcs
    obtain ⟨G,hG⟩:∃ G,gq σ (d,0)=G:=⟨_,rfl⟩
    rw [hG]
    refine QaV (W0:=[(.q (d,0),.num (G+1)),(.k (d,0),.row _ _ _)]) fun hc ty pos af E σ' a w hr hg hd=>?_
    have hr1:∀ l∈Qu2 parts,σ' l=σ l:=fun l hl=>hr l (List.mem_cons_of_mem _ hl)
    have hq:=hr (.q (d,0)) (by simp)
    rw [←Qj3 hr1] at hcs
    obtain ⟨it,dt,_,hdt,_,_,_,hsl,_⟩:=Qak ht
    have hsl:dt=.slice e:=hsl rfl
    subst hsl
    have hso:=QaH (P:=P) hte w
    obtain ⟨zv,hzv,_⟩:=Qhr hte rfl w
    obtain ⟨zero,hz0,hz1⟩:∃ zero:Array Value,(len * s=0→zero = #[])∧(¬len * s=0→zero=zv.cells):=by
     by_cases h0:len * s=0
     ·exact ⟨#[],fun _=>rfl,fun h=>absurd h0 h⟩
     ·exact ⟨zv.cells,fun h=>absurd h h0,fun _=>rfl⟩
    have hcl:=QgW _ _ _ _ hcs
    rw [List.length_replicate] at hcl
    obtain ⟨cells',h1,h2,h3⟩:=QmB hg (fun i=>some (i * s,s)) parts (List.replicate (len * s) .any) cs ((Array.range (len * s)).map (zero[· % zero.size]!)) (by simp) (fun i hi=>by
     simp at hi
     exact ⟨_,by simp [hi];rfl,by rw [List.getElem_replicate];exact Rd.any _⟩) hcs
    have hown:(w.alloc (.cells cells' e)).ownsRow 0 e s (.slice (some ⟨w.heap.size,0,none⟩) len len) len cells'.toList:=by
     refine ⟨by simp;omega,.inr ⟨w.heap.size,len,cells',rfl,Nat.zero_le _,heap_alloc_new w _,Nat.le_refl _,by unfold maxLen;omega,by omega,?_⟩⟩
     rw [List.take_of_length_le (by simp;omega)]
    obtain ⟨E',g1,g2,_,g3,g4,g5⟩:=hg.row (d,0) G (G+1) (by rw [Qda hq];exact hG) e s len (.slice (some ⟨w.heap.size,0,none⟩) len len) (w.alloc (.cells cells' e)) cells'.toList (.inr rfl)
     (fun b hb=>.inl (by cases hb;exact Nat.le_refl _)) hown ((Chg.refl _ _).alloc _)
    have hmap:(List.map (fun p=>(p.1,a.eval p.2)) parts).toArray.toList=parts.map fun p=>(p.1,a.eval p.2):=by simp
    have hb:(Instr.buildSlice t len (List.map (fun p=>(p.1,a.eval p.2)) parts).toArray).run P w=.ok (.slice (some ⟨w.heap.size,0,none⟩) len len) (w.alloc (.cells cells' e)):=by
     unfold Instr.buildSlice
     have hbig:¬len * s > 2 ^ 24:=by omega
     simp only [Sem.run_bind,run_underlying hdt,hso,Result.andThen_ok,if_neg hbig,Sem.run_pure,hmap]
     by_cases h0:len * s=0
     ·obtain rfl:=hz0 h0
      simp only [if_pos h0,Sem.run_bind,Sem.run_pure,Result.andThen_ok,h1]
      rfl
     ·obtain rfl:=hz1 h0
      simp only [if_neg h0,Sem.run_bind,hzv,Sem.run_pure,Result.andThen_ok,h1]
      rfl
    refine ⟨_,_,E',?_,g1,g5 (QhT s len cs) (Qc4 _ _ _) (Qjq hown (Qc4 _ _ _) (fun i hi=>?_) g3 (fun i j hi hj=>?_))⟩
    ·simp only [execOp,List.map_toArray,Sem.run_bind,hb,Result.andThen_ok,Sem.run_pure]
    ·rw [Qfw,List.length_take,List.length_drop]
     rw [Qc4] at hi
     have:(i+1) * s≤len * s:=Nat.mul_le_mul_right _ hi
     rw [Nat.add_mul,Nat.one_mul] at this
     omega
    ·have hj0:=hj
     rw [Qfw,List.length_take,List.length_drop] at hj
     have hlt:i * s+j<cs.length:=by omega
     obtain ⟨u,hu,hru⟩:=h3 (i * s+j) hlt
     refine ⟨u,by simpa using hu,?_⟩
     have he:(QhT s len cs)[i][j]=cs[i * s+j]:=by
      simp only [Qfw,List.getElem_take,List.getElem_drop]
     rw [he];exact hru.mono g4
   ·intro _ _ _ h;cases h
  ·intro _ _ _ h;cases h
 ·intro _ _ _ h;cases h
end
end Go.Proofs.YthfocmakkeonoaaGreatDoor
namespace Go.Proofs.YthfocmakkeonoaaGreatDoor
open Go.RowKit
section
variable {P:Program} {ops:Array Oper} {C:Ctx} {E:Env} {σ:St} {a:Act} {w:World}
theorem QBl {t:TypeId} (h:(Qao P t).map (·.sh)=some .str):P.underlying t=some .string:=QeU h
def Qlb (s:ByteArray) (n:Int):Int:=((s.data.toList.getD n.toNat 0).toNat:Int)
def QhU (P:Program) (σ:St) (d:Tmp) (t:TypeId) (x y:Operand):Stp:=
 match Qhq σ x,Qhq σ y with
 | some (.string s),some (.int _ n)=>some ((Qao P t).map (·.sh)=some .str∧0≤n∧n<s.size,rdl x++rdl y,[(.s d,.av (.val (.sc (.int .u8 (Qlb s n)))))])
 | _,_=>none
theorem Qvl (d:Tmp) (t:TypeId) (x y:Operand):Qbl P C σ (some d) (.index t x y) (QhU P σ d t x y):=by
 unfold QhU
 split
 ·rename_i s k n hx hy
  refine Qar fun hc ty pos af E σ' a w hr hg=>?_
  obtain ⟨h1,h2⟩:=Qaq hr
  obtain ⟨c1,c2,c3⟩:=hc
  refine ⟨_,?_,Rd.sc _⟩
  have hlt:n.toNat<s.size:=by omega
  have hb:s[n.toNat]? = some s[n.toNat]:=by simp [hlt]
  have hv:((s[n.toNat]).toNat:Int)=Qlb s n:=by
   unfold Qlb
   have:s.data.toList.getD n.toNat 0=s[n.toNat]:=by
    have hl:n.toNat<s.data.toList.length:=by rw [Array.length_toList];exact hlt
    rw [List.getD_eq_getElem?_getD,List.getElem?_eq_getElem hl];rfl
   rw [this]
  simp [execOp,QaS hx h1 hg,QaS hy h2 hg,Instr.index,asIntOf,run_underlying (QBl c1),if_pos c2,hb,hv]
 ·intro _ _ _ h;cases h
def Qe8:AV→Option (Nat × List (List V))
 | .val (.lst sz es) | .own _ _ _ sz es=>some (sz,es)
 | _=>none
theorem QnU {x:AV} {v:Value} {sz:Nat} {es:List (List V)} (h:RdA E σ x v) (hl:Qe8 x=some (sz,es)):Rd E.m (.lst sz es) v:=by
 cases x with
 | ptr=>simp [Qe8] at hl
 | ref=>simp [Qe8] at hl
 | elp=>simp [Qe8] at hl
 | vw=>simp [Qe8] at hl
 | cp=>simp [Qe8] at hl
 | pv=>simp [Qe8] at hl
 | nv=>simp [Qe8] at hl
 | ag=>simp [Qe8] at hl
 | fn=>simp [Qe8] at hl
 | own k g e s es'=>simp [Qe8] at hl;obtain ⟨rfl,rfl⟩:=hl;exact h.1
 | val y=>cases y <;> simp [Qe8] at hl;obtain ⟨rfl,rfl⟩:=hl;exact h
def Qfy (P:Program) (σ:St) (d:Tmp) (t:TypeId) (x y:Operand):Stp:=
 match Qao P t,Qe8 (ev σ x),Qhq σ y with
 | some { sh:=.slice,elem:=e,.. },some (sz,es),some (.int _ n)=>some ((Qao P e).map (·.size)=some sz∧0≤n∧n<es.length,rdl x++rdl y,[(.s d,.av (.val (.ep (es.getD n.toNat []))))])
 | _,_,_=>none
theorem Qrs (d:Tmp) (t:TypeId) (x y:Operand):Qbl P C σ (some d) (.indexAddr t x y) (Qfy P σ d t x y):=by
 unfold Qfy
 split
 ·rename_i e _ _ _ sz es k n ht hx hy
  refine Qar fun hc ty pos af E σ' a w hr hg=>?_
  obtain ⟨h1,h2⟩:=Qaq hr
  obtain ⟨c1,c2,c3⟩:=hc
  obtain ⟨it,dt,_,hdt,_,_,_,hsl,_⟩:=Qak ht
  have hsl:dt=.slice e:=hsl rfl
  subst hsl
  have hse:(sizeOf e).run P w=.ok sz w:=by
   cases hte:Qao P e with
   | none=>rw [hte] at c1;cases c1
   | some T=>rw [hte] at c1;simp at c1;rw [QaH hte,c1]
  have hv:=Qax hg x
  rw [Qae h1] at hv
  have hv:=QnU hv hx
  generalize hav:a.eval x=v at hv
  cases hv with
  | nil=>simp at c3;omega
  | lst _ _ b o cap f hcp hsz hm hrd=>
   have hlt:n.toNat<es.length:=by omega
   refine ⟨.pointer (some ⟨b,o+n.toNat * sz,none⟩),?_,?_⟩
   ·simp [execOp,hav,QaS hy h2 hg,Instr.indexAt,asIntOf,run_underlying hdt,hse,QaF,c2,c3]
   ·have he:es.getD n.toNat []=es[n.toNat]:=by simp [List.getD_eq_getElem?_getD,hlt]
    rw [he]
    refine Rd.ep _ b _ (fun j=>f n.toNat j) (fun j hj=>?_) (fun j hj=>hrd _ _ hlt hj)
    rw [hsz _ hlt] at hj
    exact hm _ _ hlt hj
 ·intro _ _ _ h;cases h
def QbN (σ:St):Option Operand→Option (Option Int)
 | none=>some none
 | some x=>match Qhq σ x with | some (.int _ n)=>some (some n) | _=>none
def bl:Option Operand→List Pl
 | none=>[]
 | some x=>rdl x
theorem Qa9 {σ':St} {o:Option Operand} {b:Option Int} (h:QbN σ o=some b) (hr:∀ l∈bl o,σ' l=σ l) (hg:Gm C E σ' a w):∃ k,o.map a.eval=b.map (Value.int k):=by
 cases o with
 | none=>simp [QbN] at h;subst h;exact ⟨.i64,rfl⟩
 | some x=>
  simp only [QbN] at h
  split at h
  ·rename_i k n hx
   cases h
   exact ⟨k,by simp [QaS hx hr hg]⟩
  ·cases h
theorem Qbc {k:IntKind} {n:Int} {y:Nat} {c:BoundsCode} (h:0≤n∧n≤y) (w:World):(Instr.sliceBound (.int k n) y c).run P w=.ok n.toNat w:=by
 simp [Instr.sliceBound,asIntOf,h]
def Qdz (lo:Option Int):Int:=lo.getD 0
def Qdl (n:Nat) (hi:Option Int):Int:=hi.getD n
def Qpr (cap:Nat):Option Int→Nat
 | some m=>m.toNat
 | none=>cap
theorem QbX {b:Bool} {n cap:Nat} {k k' k'':IntKind} {lo hi mx:Option Int} (hnc:n≤cap) (h0:0≤Qdz lo) (h1:Qdz lo≤Qdl n hi) (h2:Qdl n hi≤n) (h3:∀ m,mx=some m→hi≠none∧Qdl n hi≤m∧m≤n) (w:World) :
  (Instr.sliceBounds b n cap (lo.map (.int k)) (hi.map (.int k')) (mx.map (.int k''))).run P w=.ok ((Qdz lo).toNat,(Qdl n hi).toNat,Qpr cap mx) w:=by
 unfold Instr.sliceBounds
 cases mx with
 | none=>
  cases hi with
  | none=>
   cases lo with
   | none=>simp [Qpr,Qdz,Qdl]
   | some l=>simp only [Qdz,Qdl,Option.getD_some,Option.getD_none] at h0 h1 h2;simp [Qpr,Qdz,Qdl,Qbc (P:=P) (k:=k) (n:=l) (y:=n) ⟨h0,h1⟩]
  | some h=>
   simp only [Qdl,Option.getD_some] at h1 h2
   have hh:∀ c w,(Instr.sliceBound (.int k' h) cap c).run P w=.ok h.toNat w:=fun c w=>Qbc ⟨by omega,by omega⟩ w
   cases lo with
   | none=>simp [Qpr,Qdz,Qdl,hh]
   | some l=>
    simp only [Qdz,Option.getD_some] at h0 h1
    have hl:∀ c w,(Instr.sliceBound (.int k l) h.toNat c).run P w=.ok l.toNat w:=fun c w=>Qbc ⟨by omega,by omega⟩ w
    simp [Qpr,Qdz,Qdl,hh,hl]
 | some m=>
  obtain ⟨h4,h5,h6⟩:=h3 m rfl
  cases hi with
  | none=>exact absurd rfl h4
  | some h=>
   simp only [Qdl,Option.getD_some] at h1 h2 h5
   have hm:∀ c w,(Instr.sliceBound (.int k'' m) cap c).run P w=.ok m.toNat w:=fun c w=>Qbc ⟨by omega,by omega⟩ w
   have hh:∀ c w,(Instr.sliceBound (.int k' h) m.toNat c).run P w=.ok h.toNat w:=fun c w=>Qbc ⟨by omega,by omega⟩ w
   cases lo with
   | none=>simp [Qpr,Qdz,Qdl,hh,hm]
   | some l=>
    simp only [Qdz,Option.getD_some] at h0 h1
    have hl:∀ c w,(Instr.sliceBound (.int k l) h.toNat c).run P w=.ok l.toNat w:=fun c w=>Qbc ⟨by omega,by omega⟩ w
    simp [Qpr,Qdz,Qdl,hh,hl,hm]
def QhV (P:Program) (σ:St) (d:Tmp) (t:TypeId) (x:Operand) (lo hi mx:Option Operand):Stp:=
 match QbN σ lo,QbN σ hi,QbN σ mx with
 | some l,some h,some m=>
  match Qao P t,ev σ x with
  | some { sh:=.str,.. },.val (.sc (.string s))=>some (m=none∧0≤Qdz l∧Qdz l≤Qdl s.size h∧Qdl s.size h≤s.size,rdl x++(bl lo++(bl hi++bl mx)),[(.s d,.av (.val (.sc (.string (s.extract (Qdz l).toNat (Qdl s.size h).toNat)))))])
  | some { sh:=.slice,elem:=e,.. },y=>match Qe8 y with
   | some (sz,es)=>some ((Qao P e).map (·.size)=some sz∧0≤Qdz l∧Qdz l≤Qdl es.length h∧Qdl es.length h≤es.length∧(∀ q,m=some q→h≠none∧Qdl es.length h≤q∧q≤es.length),rdl x++(bl lo++(bl hi++bl mx)),
    [(.s d,.av (.val (.lst sz ((es.drop (Qdz l).toNat).take ((Qdl es.length h).toNat-(Qdz l).toNat)))))])
   | none=>none
  | _,_=>none
 | _,_,_=>none
theorem Qvm (d:Tmp) (t:TypeId) (x:Operand) (lo hi mx:Option Operand):Qbl P C σ (some d) (.slice t x lo hi mx) (QhV P σ d t x lo hi mx):=by
 unfold QhV
 split
 ·rename_i l h m hl hh hm
  split
  ·rename_i _ _ _ _ _ _ _ _ s ht hx
   refine Qar fun hc ty pos af E σ' a w hr hg=>?_
   obtain ⟨h1,h2⟩:=Qaq hr
   obtain ⟨h2,h3⟩:=Qaq h2
   obtain ⟨h3,h4⟩:=Qaq h3
   obtain ⟨rfl,c1,c2,c3⟩:=hc
   obtain ⟨k1,e1⟩:=Qa9 hl h2 hg
   obtain ⟨k2,e2⟩:=Qa9 hh h3 hg
   obtain ⟨k3,e3⟩:=Qa9 hm h4 hg
   obtain ⟨it,dt,_,hdt,_,_,_,_,_,hst,_⟩:=Qak ht
   have hst:dt=.string:=hst rfl
   subst hst
   have hs:a.eval x=.string s:=QaS (by unfold Qhq;rw [hx]) h1 hg
   have hb:=QbX (P:=P) (b:=false) (n:=s.size) (cap:=s.size) (k:=k1) (k':=k2) (k'':=k3) (lo:=l) (hi:=h) (mx:=none) (Nat.le_refl _) c1 c2 c3 (fun m h=>by cases h) w
   refine ⟨_,?_,Rd.sc _⟩
   simp only [Option.map_none] at hb e3
   simp [execOp,hs,e1,e2,e3,Instr.sliceAt,Instr.slice,run_underlying hdt,hb]
  ·rename_i _ _ _ _ e _ _ _ ht
   split
   ·rename_i sz es hx
    refine Qar fun hc ty pos af E σ' a w hr hg=>?_
    obtain ⟨h1,h2⟩:=Qaq hr
    obtain ⟨h2,h3⟩:=Qaq h2
    obtain ⟨h3,h4⟩:=Qaq h3
    obtain ⟨c0,c1,c2,c3,c4⟩:=hc
    obtain ⟨k1,e1⟩:=Qa9 hl h2 hg
    obtain ⟨k2,e2⟩:=Qa9 hh h3 hg
    obtain ⟨k3,e3⟩:=Qa9 hm h4 hg
    obtain ⟨it,dt,_,hdt,_,_,_,hsl,_⟩:=Qak ht
    have hsl:dt=.slice e:=hsl rfl
    subst hsl
    have hse:(sizeOf e).run P w=.ok sz w:=by
     cases hte:Qao P e with
     | none=>rw [hte] at c0;cases c0
     | some T=>rw [hte] at c0;simp at c0;rw [QaH hte,c0]
    have hv:=Qax hg x
    rw [Qae h1] at hv
    have hv:=QnU hv hx
    obtain ⟨lz,hlz⟩:∃ z,z=(Qdz l).toNat:=⟨_,rfl⟩
    obtain ⟨hz,hhz⟩:∃ z,z=(Qdl es.length h).toNat:=⟨_,rfl⟩
    rw [←hlz,←hhz]
    have hle:lz≤hz:=by omega
    have hhe:hz≤es.length:=by omega
    generalize hav:a.eval x=v at hv
    cases hv with
    | nil _ A cap hA=>
     have hb:=QbX (P:=P) (b:=true) (n:=0) (cap:=cap) (k:=k1) (k':=k2) (k'':=k3) (lo:=l) (hi:=h) (mx:=m) (Nat.zero_le _) c1 c2 c3 c4 w
     obtain ⟨mz,hmz⟩:∃ z,z=Qpr cap m:=⟨_,rfl⟩
     have hm0:A=none→mz=0:=fun h0=>by
      have:=hA h0
      subst this
      cases m with
      | none=>exact hmz
      | some q=>have:=c4 q rfl;simp at this;rw [hmz];simp [Qpr];omega
     simp only [List.length_nil] at hhz hhe
     have hz0:hz=0:=by omega
     have lz0:lz=0:=by omega
     rw [←hlz,←hhz,←hmz,hz0,lz0] at hb
     refine ⟨.slice (if mz=0 then A else A.map (·.add 0)) 0 mz,?_,by
      rw [hz0,lz0]
      refine Rd.nil sz _ _ fun h0=>hm0 ?_
      by_cases hq:mz=0
      ·rwa [if_pos hq] at h0
      ·rw [if_neg hq] at h0;exact Option.map_eq_none_iff.1 h0⟩
     simp [execOp,hav,e1,e2,e3,Instr.sliceAt,Instr.slice,run_underlying hdt,hb,hse]
    | lst _ _ b o cap f hcp hsz hmm hrd=>
     have hb:=QbX (P:=P) (b:=true) (n:=es.length) (cap:=cap) (k:=k1) (k':=k2) (k'':=k3) (lo:=l) (hi:=h) (mx:=m) hcp c1 c2 c3 c4 w
     obtain ⟨mz,hmz⟩:∃ z,z=Qpr cap m:=⟨_,rfl⟩
     have hmge:hz≤mz:=by
      cases m with
      | none=>simp [Qpr] at hmz;omega
      | some q=>have:=(c4 q rfl).2;simp [Qpr] at hmz;omega
     rw [←hlz,←hhz,←hmz] at hb
     have hrun:∀ A,(if mz=lz then (some (⟨b,o,none⟩:Addr)) else (some (⟨b,o,none⟩:Addr)).map (·.add (lz * sz)))=A→(execOp a.eval ⟨some d,.slice t x lo hi mx,ty,pos,af,none⟩).run P w=.ok (.value (.slice A (hz-lz) (mz-lz))) w:=by
      intro A hA
      subst hA
      simp [execOp,hav,e1,e2,e3,Instr.sliceAt,Instr.slice,run_underlying hdt,hb,hse]
     have hlen:((es.drop lz).take (hz-lz)).length=hz-lz:=by simp;omega
     by_cases hml:mz=lz
     ·have hzl:hz-lz=0:=by omega
      have hnil:(es.drop lz).take (hz-lz)=[]:=by rw [hzl];rfl
      refine ⟨_,hrun _ (if_pos hml),?_⟩
      have e0:mz-lz=0:=by omega
      rw [hnil,hzl,e0]
      exact Rd.lst sz [] b o 0 f (Nat.le_refl _) (fun i h=>by simp at h) (fun i j h=>by simp at h) (fun i j h=>by simp at h)
     ·refine ⟨_,hrun _ (if_neg hml),?_⟩
      have hR:=Rd.lst sz ((es.drop lz).take (hz-lz)) b (o+lz * sz) (mz-lz) (fun i j=>f (lz+i) j) (m:=E.m) (by rw [hlen];omega) (fun i hi=>by
        simp only [List.getElem_take,List.getElem_drop];exact hsz _ _) (fun i j hi hj=>by
         rw [hlen] at hi
         have:=hmm (lz+i) j (by omega) hj
         rwa [Nat.add_mul,←Nat.add_assoc] at this) (fun i j hi hj=>by
         simp only [List.getElem_take,List.getElem_drop] at hj ⊢
         exact hrd _ _ _ hj)
      rw [hlen] at hR
      show Rd E.m _ (.slice ((some (⟨b,o,none⟩:Addr)).map (·.add (lz * sz))) (hz-lz) (mz-lz))
      simpa [QaF] using hR
   ·intro _ _ _ h;cases h
  ·intro _ _ _ h;cases h
 ·intro _ _ _ h;cases h
def Qrt (σ:St) (d:Tmp) (x:Operand):Stp:=
 match ev σ x with
 | .ptr o g i=>some (gg σ o=g,rdl x++[.g o],[(.s d,.av (.ptr o g i))])
 | .val (.ep xs)=>some (True,rdl x,[(.s d,.av (.val (.ep xs)))])
 | _=>none
theorem QBm (d:Tmp) (x:Operand):Qbl P C σ (some d) (.nilCheck x) (Qrt σ d x):=by
 unfold Qrt
 split
 ·rename_i o g i hx
  refine Qar fun hc ty pos af E σ' a w hr hg=>?_
  obtain ⟨h1,h2⟩:=Qaq hr
  have h3:=Qax hg x
  rw [Qae h1,hx] at h3
  have h4:=h3.2 (by rw [Qaz (h2 (.g o) (by simp))];exact hc.symm)
  exact ⟨_,by simp [execOp,h4],h3.1,fun _=>rfl⟩
 ·rename_i xs hx
  refine Qar fun hc ty pos af E σ' a w hr hg=>?_
  have h3:=Qax hg x
  rw [Qae hr,hx] at h3
  have h3:Rd E.m (.ep xs) (a.eval x):=h3
  generalize hv:a.eval x=v at h3
  cases h3 with
  | ep _ b i f hm hrd=>exact ⟨.pointer (some ⟨b,i,none⟩),by simp [execOp,hv],Rd.ep _ b i f hm hrd⟩
 ·intro _ _ _ h;cases h
theorem Qps (l:List UInt8) (s:List UInt8):(l.map fun b=>(b.toNat:Int)).foldl (fun r n=>r.push (UInt8.ofNat n.toNat)) (⟨s.toArray⟩:ByteArray)=⟨(s++l).toArray⟩:=by
 induction l generalizing s with
 | nil=>simp
 | cons b l ih=>
  have e:(ByteArray.push ⟨s.toArray⟩ (UInt8.ofNat ((b.toNat:Int)).toNat))=(⟨(s++[b]).toArray⟩:ByteArray):=by
   simp [ByteArray.push]
  rw [List.map_cons,List.foldl_cons,e,ih]
  simp
theorem Qru {d:Tmp} {s t:TypeId} {x:Operand} {l:List UInt8} (h:QaW (ev σ x)=some (l.map QaG)) (hl:Qba (ev σ x)=true) :
  Qbl P C σ (some d) (.convert s t x) (some (((Qao P s).map (·.sh)=some .slice∧((Qao P s).bind fun T=>Qao P T.elem).map (·.sh)=some (.int .u8)∧(Qao P t).map (·.sh)=some .str),rdl x,[(.s d,.av (.val (.sc (str l))))])):=by
 refine Qar fun hc ty pos af E σ' a w hr hg=>⟨_,?_,Rd.sc _⟩
 obtain ⟨c1,c2,c3⟩:=hc
 cases hs:Qao P s with
 | none=>rw [hs] at c1;cases c1
 | some T=>
  rw [hs] at c1 c2
  simp at c1 c2
  obtain ⟨it,dt,_,hdt,_,_,_,hsl,_⟩:=Qak hs
  have hsl:=hsl c1
  subst hsl
  have hel:P.underlying T.elem=some (.int .u8):=by
   obtain ⟨U,hU,hsh⟩:=c2
   obtain ⟨iu,du,_,hdu,_,_,_,_,_,_,hk,_⟩:=Qak hU
   rw [hdu,hk _ hsh]
  have hv:=Qax hg x
  rw [Qae hr] at hv
  have key:(∃ A n c,a.eval x=.slice A n c)∧(Conv.bytesToString (a.eval x)).run P w=.ok (str l) w:=by
   have hlst:∀ sz,Rd E.m (.lst sz (l.map QaG)) (a.eval x)→(∃ A n c,a.eval x=.slice A n c)∧(Conv.bytesToString (a.eval x)).run P w=.ok (str l) w:=by
    intro sz h1
    obtain ⟨A,cap,h2,h3,h4,h5,xs,h6,h7,h8⟩:=QdA h1
    rw [h2]
    refine ⟨⟨_,_,_,rfl⟩,?_⟩
    cases A with
    | none=>
     have hn:l=[]:=by
      have:=h4 rfl
      simp at h3
      exact List.eq_nil_of_length_eq_zero (by omega)
     subst hn
     simp [Conv.bytesToString];rfl
    | some A=>
     have hxs:xs=l.map fun b=>Value.int .u8 b.toNat:=by
      apply List.ext_getElem?
      intro i
      by_cases hi:i<l.length
      ·have hsz:sz=1:=by have:=h5 i (by simpa using hi);simp [QaG] at this;exact this.symm
       subst hsz
       obtain ⟨u,hu,hru⟩:=h7 i 0 (by simpa using hi) (by simp [QaG])
       simp at hu
       have he:((l.map QaG)[i]'(by simpa using hi))[0]'(by simp [QaG])=V.sc (.int .u8 (l[i]).toNat):=by simp [QaG]
       rw [he] at hru
       rw [hu,Rd.sc_eq hru]
       simp [hi]
      ·have hl0:xs.length≤i:=by
        rw [h6]
        by_cases hz:l=[]
        ·subst hz;simp
        ·have hsz:sz=1:=by have:=h5 0 (by simpa using List.length_pos_iff.2 hz);simp [QaG] at this;exact this.symm
         subst hsz;simp;omega
       rw [List.getElem?_eq_none hl0,List.getElem?_eq_none (by simpa using Nat.le_of_not_lt hi)]
     have hll:xs.length=l.length:=by rw [hxs];simp
     have hload:=run_loadCells_list (P:=P) w A xs (fun j v hj=>by
      obtain ⟨b,o,q1,q2⟩:=h8 j v hj
      cases q1
      rw [QaF];exact hg.ms _ _ _ q2)
     rw [hll] at hload
     rw [List.length_map]
     rw [run_bytesToString w _ _ _ (l.map fun b=>(b.toNat:Int)) (by rw [hload,hxs,List.map_map];rfl)]
     have:=Qps l []
     rw [List.nil_append] at this
     exact congrArg (fun s=>Result.ok (Value.string s) w) this
   cases hy:ev σ x with
   | ptr=>rw [hy] at h;simp [QaW] at h
   | ref=>rw [hy] at h;simp [QaW] at h
   | elp=>rw [hy] at h;simp [QaW] at h
   | vw=>rw [hy] at h;simp [QaW] at h
   | cp=>rw [hy] at h;simp [QaW] at h
   | pv=>rw [hy] at h;simp [QaW] at h
   | nv=>rw [hy] at h;simp [QaW] at h
   | ag=>rw [hy] at h;simp [QaW] at h
   | fn=>rw [hy] at h;simp [QaW] at h
   | own k g e sz es=>rw [hy] at h hv;simp [QaW] at h;subst h;exact hlst sz hv.1
   | val y=>
    rw [hy] at h hv hl
    have hv:Rd E.m y (a.eval x):=hv
    cases y with
    | lst sz es=>simp [QaW] at h;subst h;exact hlst sz hv
    | sc u=>
     cases u with
     | string q=>simp [Qba] at hl
     | slice A n c=>
      cases A with
      | some A=>simp [QaW] at h
      | none=>
       cases n with
       | succ n=>simp [QaW] at h
       | zero=>
        cases c with
        | succ c=>simp [QaW] at h
        | zero=>
         simp [QaW] at h
         have hu:=Rd.sc_eq hv
         rw [h,hu]
         refine ⟨⟨_,_,_,rfl⟩,?_⟩
         simp [Conv.bytesToString];rfl
     | _=>simp [QaW] at h
    | _=>simp [QaW] at h
  obtain ⟨⟨A,n,c,hA⟩,key⟩:=key
  rw [hA] at key
  simp [execOp,hA,convert,run_underlying hdt,run_underlying hel,run_underlying (QeU c3),key]
def Qjr:AV→Option (Sh × Int)
 | .val (.lst _ es) | .own _ _ _ _ es=>some (.slice,es.length)
 | .val (.sc (.slice none 0 0))=>some (.slice,0)
 | .val (.sc (.string s))=>some (.str,s.size)
 | _=>none
def Qrv (P:Program) (σ:St) (d:Tmp) (t:TypeId) (x:Operand):Stp:=
 match Qjr (ev σ x) with
 | some (s,n)=>some ((Qao P t).map (·.sh)=some s,rdl x,[(.s d,.av (.val (.sc (.int .i64 n))))])
 | none=>none
theorem QBn (d:Tmp) (t:TypeId) (x:Operand):Qbl P C σ (some d) (.call { callee:=.builtin .len,args:=#[x],argTypes:=#[t] }) (Qrv P σ d t x):=by
 unfold Qrv
 split
 ·rename_i s n hx
  refine Qar fun hc ty pos af E σ' a w hr hg=>⟨_,?_,Rd.sc _⟩
  have hv:=Qax hg x
  rw [Qae hr] at hv
  have hlst:∀ sz es,Rd E.m (.lst sz es) (a.eval x)→s=.slice→n=es.length→(execOp a.eval ⟨some d,.call { callee:=.builtin .len,args:=#[x],argTypes:=#[t] },ty,pos,af,none⟩).run P w=.ok (.value (.int .i64 n)) w:=by
   intro sz es h1 h2 h3
   subst h2
   subst h3
   obtain ⟨e,he⟩:=QbM hc
   obtain ⟨A,cap,h4,_⟩:=QdA h1
   simp [execOp,resolve,invoke,builtin,h4,Builtin.len_,run_underlying he,goInt]
  cases hy:ev σ x with
  | ptr=>rw [hy] at hx;simp [Qjr] at hx
  | ref=>rw [hy] at hx;simp [Qjr] at hx
  | elp=>rw [hy] at hx;simp [Qjr] at hx
  | vw=>rw [hy] at hx;simp [Qjr] at hx
  | cp=>rw [hy] at hx;simp [Qjr] at hx
  | pv=>rw [hy] at hx;simp [Qjr] at hx
  | nv=>rw [hy] at hx;simp [Qjr] at hx
  | ag=>rw [hy] at hx;simp [Qjr] at hx
  | fn=>rw [hy] at hx;simp [Qjr] at hx
  | own k g e sz es=>rw [hy] at hx hv;simp [Qjr] at hx;exact hlst _ _ hv.1 hx.1.symm hx.2.symm
  | val y=>
   rw [hy] at hx hv
   have hv:Rd E.m y (a.eval x):=hv
   cases y with
   | lst sz es=>simp [Qjr] at hx;exact hlst _ _ hv hx.1.symm hx.2.symm
   | sc u=>
    have hu:=Rd.sc_eq hv
    cases u with
    | string q=>
     simp [Qjr] at hx
     obtain ⟨rfl,rfl⟩:=hx
     simp [execOp,resolve,invoke,builtin,hu,Builtin.len_,run_underlying (QeU hc),goInt]
    | slice A n' c=>
     cases A with
     | some A=>simp [Qjr] at hx
     | none=>
      cases n' with
      | succ n=>simp [Qjr] at hx
      | zero=>
       cases c with
       | succ c=>simp [Qjr] at hx
       | zero=>simp [Qjr] at hx;exact hlst 1 [] (by rw [hu];exact Rd.nil0 1) hx.1.symm hx.2.symm
    | _=>simp [Qjr] at hx
   | _=>simp [Qjr] at hx
 ·intro _ _ _ h;cases h
def Qvn (σ:St) (d:Tmp) (mx:Bool) (x y:Operand):Stp:=
 match Qhq σ x,Qhq σ y with
 | some (.int k m),some (.int _ n)=>some (True,rdl x++rdl y,[(.s d,.av (.val (.sc (.int k (if mx then max m n else min m n)))))])
 | _,_=>none
theorem QBo (d:Tmp) (t t':TypeId) (x y:Operand):Qbl P C σ (some d) (.call { callee:=.builtin .max,args:=#[x,y],argTypes:=#[t,t'] }) (Qvn σ d true x y):=by
 unfold Qvn
 split
 ·rename_i k m k' n hx hy
  refine Qar fun hc ty pos af E σ' a w hr hg=>⟨_,?_,Rd.sc _⟩
  obtain ⟨h1,h2⟩:=Qaq hr
  have he:(if n > m then n else m)=max m n:=by rw [Int.max_def];split <;> split <;> omega
  simp [execOp,resolve,invoke,builtin,QaS hx h1 hg,QaS hy h2 hg,Builtin.max_,Builtin.max2,he]
 ·intro _ _ _ h;cases h
theorem QBp (d:Tmp) (t t':TypeId) (x y:Operand):Qbl P C σ (some d) (.call { callee:=.builtin .min,args:=#[x,y],argTypes:=#[t,t'] }) (Qvn σ d false x y):=by
 unfold Qvn
 split
 ·rename_i k m k' n hx hy
  refine Qar fun hc ty pos af E σ' a w hr hg=>⟨_,?_,Rd.sc _⟩
  obtain ⟨h1,h2⟩:=Qaq hr
  have he:(if n<m then n else m)=min m n:=by rw [Int.min_def];split <;> split <;> omega
  simp [execOp,resolve,invoke,builtin,QaS hx h1 hg,QaS hy h2 hg,Builtin.min_,Builtin.min2,he]
 ·intro _ _ _ h;cases h
end
end Go.Proofs.YthfocmakkeonoaaGreatDoor
