/- The program logic: rows that are only read from now on (frozen); one row several times in a row of rows. The program logic: what is left of a region whose order -/
import Derived.Test.YtgcmopfhafoabaaGreatDoorK1
import Derived.Laws.Cover3
import Derived.Test.YtgcmopfhafoabaaGreatDoorProg
set_option linter.unusedVariables false
set_option linter.unusedSimpArgs false
set_option maxRecDepth 100000
set_option maxHeartbeats 4000000
namespace Go.Proofs.YtgcmopfhafoabaaGreatDoor.X
noncomputable section
variable {P : Program} {n : Nat} {ops : Array Oper} {o : Oper} {rest : List Oper} {E E' : Env} {W W' w w0 : World} {a : Act} {v u v2 : Value} {K : Env → World → Prop} {M T S : Nat → Prop} {L L0 L1 : List Ent}
variable {t e : TypeId} {ag : Bool} {z : Option Value} {zv : Value} {size bytes : Nat} {α β : Type} {enc : α → D} {l l2 r : List α} {i : Int} {x y : α} {d : D} {ds xs ys : List D} {cs c1 : List Value}
variable {rs : List (Value × Nat × Nat × List D)} {ls : List (Value × Nat × Value)}
def Frz (rs : List (Value × Nat × Nat × List D)) (ls : List (Value × Nat × Value)) (W : World) (S : Nat → Prop) : Prop:=
 (∀ r ∈ rs,D.rd W (.row r.2.1 r.2.2.1 r.2.2.2) S [r.1]) ∧ ∀ q ∈ ls,∃ ad,adr q.1 = some ad ∧ S ad.block ∧ W.cell? (ad.add q.2.1) = some q.2.2
theorem uw (ad : Addr) (j : Nat) : (ad.add j).block = ad.block:=by unfold Addr.add; split <;> rfl
theorem Frz.agree (h : Frz rs ls W S) (ha : eO S W W') : Frz rs ls W' S:=
 ⟨fun r hr=>D.rd_agree (h.1 r hr) ha,fun q hq=>by
  obtain ⟨ad,h1,h2,h3⟩:=h.2 q hq
  refine ⟨ad,h1,h2,?_⟩
  rw [World.cell?_of_block (w:=W) (w':=W') (by rw [uw]; exact ha _ h2)]
  exact h3⟩
theorem Frz.mono (h : Frz rs ls W S) (hs : ∀ b,S b → T b) : Frz rs ls W T:=
 ⟨fun r hr=>D.rd_mono (h.1 r hr) hs,fun q hq=>let ⟨ad,h1,h2,h3⟩:=h.2 q hq; ⟨ad,h1,hs _ h2,h3⟩⟩
abbrev po (rs : List (Value × Nat × Nat × List D)) (ls : List (Value × Nat × Value)) : Ent:=.any (Frz rs ls) Frz.agree Frz.mono
theorem Sep.frz (h : Sep M w0 W (ae v e size enc l :: L)) : Sep M w0 W (po [(v,e,size,l.map enc)] [] :: L):=by
 obtain ⟨S,hS,h1,hrest⟩:=h.own
 refine Sep.of_parts (L':=[po [(v,e,size,l.map enc)] []]) h.frame hS hrest (dP.refl _ _) ⟨S,fun b hb=>.inl hb,⟨fun r hr=>?_,fun q hq=>by simp at hq⟩,trivial⟩
 simp only [List.mem_singleton] at hr
 subst hr
 exact D.own_rd (d:=.row e size (l.map enc)) h1
theorem Sep.lendz (h : Sep M w0 W (po rs ls :: L)) (j : Nat) (hj : rs[j]? = some (v,e,size,l.map enc)) : RV W (Old No W) v e size enc l:=by
 obtain ⟨S,hS,h1,_⟩:=h.own
 exact D.rd_mono (h1.1 _ (List.mem_of_getElem? hj)) fun b hb=>⟨(hS b hb).2,id⟩
theorem Sep.cellz {k : Nat} (h : Sep M w0 W (po rs ls :: L)) (j : Nat) (hj : ls[j]? = some (v,k,u)) : ∀ i u',[u][i]? = some u' → W.cell? (cT (adr v) (k + i)) = some u':=by
 obtain ⟨S,hS,h1,_⟩:=h.own
 obtain ⟨ad,k1,k2,k3⟩:=h1.2 _ (List.mem_of_getElem? hj)
 intro i u' hi
 match i,hi with
 | 0,hi =>
  have : u = u':=by simpa using hi
  subst this
  have k1' : adr v = some ad:=k1
  rw [k1']
  exact k3
 | i + 1,hi=>simp at hi
def Mul (v : Value) (e size : Nat) (xs : List D) (j : Nat) (cs : List Value) (d : D) (W : World) (S : Nat → Prop) : Prop:=bO W [.dat [d] cs,.hole v e size xs j cs] S
theorem Mul.agree {j : Nat} (h : Mul v e size xs j cs d W S) (ha : eO S W W') : Mul v e size xs j cs d W' S:=bO.agree h ha
theorem Mul.mono {j : Nat} (h : Mul v e size xs j cs d W S) (hs : ∀ b,S b → T b) : Mul v e size xs j cs d W T:=bO.mono h hs
abbrev AF (v : Value) (e size : Nat) (xs : List D) (j : Nat) (cs : List Value) (d : D) : Ent:=.any (Mul v e size xs j cs d) Mul.agree Mul.mono
theorem Sep.mul {j : Nat} (h : Sep M w0 W (.dat [d] cs :: .hole v e size xs j cs :: L)) : Sep M w0 W (AF v e size xs j cs d :: L):=by
 obtain ⟨S,h1,h2,h3⟩:=bO.split (L1:=[.dat [d] cs,.hole v e size xs j cs]) h.own
 exact ⟨h.frame,S,h1,h2,h3⟩
theorem Mul.parts {j : Nat} (h : Mul v e size xs j cs d W S) : ∃ (c1 c2 : List Value) (S1 : Nat → Prop),W.ownsRow 0 e size v xs.length (c1 ++ (cs ++ c2)) ∧ (∀ g,v.ownBlock = some g → S g) ∧ (∀ b,S1 b → S b ∧ v.ownBlock ≠ some b) ∧ c1.length = j * size ∧ cs.length = size ∧ j < xs.length ∧
  (∀ x ∈ xs,x.sz = size) ∧ d.sz = size ∧ D.rds W (xs.set j d) S1 (c1 ++ (cs ++ c2)) ∧ D.rd W d S1 cs ∧ ∀ u ∈ cs,u.oneCell' = true:=by
 obtain ⟨Sa,hSa,⟨S3,d1,d2,g1,g2,g3,g4,g5⟩,Sb,hSb,⟨c1,c2,r1,k2,k3,k4,s1,S',p1,o1⟩,_⟩:=h
 have g5' : d2 = []:=g5
 subst g5'
 rw [List.append_nil] at g1
 subst g1
 have hdown:=D.own_mono g4 g3
 have hin:=uK (S1:=Sa) o1 s1 k2 k4 hdown (fun b hb hb'=>(hSb b (p1 b hb').1).2 hb)
 refine ⟨c1,c2,fun b=>Sa b ∨ S' b,r1.1,fun g hg=>(hSb g (r1.2 g hg)).1,fun b hb=>⟨hb.elim (hSa b) fun hb=>(hSb b (p1 b hb).1).1,fun hv=>?_⟩,k2,k3,k4,s1,by rw [← D.own_length g4,k3],D.owns_rds hin,D.rd_mono (D.own_rd hdown) fun b hb=>.inl hb,D.own_one g4⟩
 rcases hb with hb | hb
 ·exact (hSb b (r1.2 b hv)).2 hb
 ·exact (p1 b hb).2 hv
theorem vC {n j : Nat} (h : W.ownsRow 0 e size v n cs) (hj : cs[j]? = some u) : ∃ g,adr v = some ⟨g,0,none⟩ ∧ v.ownBlock = some g ∧ W.cell? ((⟨g,0,none⟩ : Addr).add j) = some u:=by
 rcases h.2 with ⟨hv,hn⟩ | ⟨g,cap,cur,hv,_,hg,hnc,hcm,hcs,htake⟩
 ·have:=h.1
  rw [hn,Nat.zero_mul] at this
  have:=List.eq_nil_of_length_eq_zero this
  subst this
  simp at hj
 ·subst hv
  refine ⟨g,rfl,rfl,?_⟩
  have hadd : (⟨g,0,none⟩ : Addr).add j = ⟨g,j,none⟩:=by unfold Addr.add; split <;> simp_all
  rw [hadd,cell_of_row W g j cur e (0,0) hg]
  rw [← htake,List.getElem?_take] at hj
  split at hj
  ·simpa using hj
  ·cases hj
theorem yR {ys : List D} {S1 : Nat → Prop} (h : W.ownsRow 0 e size v ys.length cs) (h2 : ∀ g,v.ownBlock = some g → S g) (hs : ∀ y ∈ ys,y.sz = size) (hr : D.rds W ys S1 cs) (h1 : ∀ b,S1 b → S b) : D.rd W (.row e size ys) S [v]:=by
 have hc:=fun j u (hj : cs[j]? = some u)=>vC (j:=j) h hj
 rcases h.2 with ⟨hv,hn⟩ | ⟨g,cap,cur,hv,_,hg,hnc,hcm,hcs,htake⟩
 ·have : ys = []:=List.eq_nil_of_length_eq_zero hn
  subst this hv
  exact ⟨none,0,cs,rfl,Nat.le_refl _,by simp [maxLen],hs,fun hne=>absurd rfl hne,D.rds_mono hr h1⟩
 ·subst hv
  refine ⟨some ⟨g,0,none⟩,cap,cs,rfl,hnc,Nat.le_trans hnc hcm,hs,fun _=>⟨_,rfl,h2 g rfl,fun j u hj=>?_⟩,D.rds_mono hr h1⟩
  obtain ⟨g',e1,_,e3⟩:=hc j u hj
  have e1' : some (⟨g,0,none⟩ : Addr) = some ⟨g',0,none⟩:=e1
  injection e1' with e1'
  rw [e1']
  exact e3
theorem xn {enc : α → D} (hx : nth l i = some x) : (l.map enc).set i.toNat (enc x) = l.map enc:=by rw [← List.map_set,vz hx]
theorem Sep.mulz {e2 s2 : Nat} {enc2 : β → D} {y : List β} (hx : nth l i = some x) (hf : enc x = .row e2 s2 (y.map enc2)) (h : Sep M w0 W (AF v e 1 (l.map enc) i.toNat [u] (enc x) :: L)) : Sep M w0 W (po [(v,e,1,l.map enc),(u,e2,s2,y.map enc2)] [(v,i.toNat * 1,u)] :: L):=by
 obtain ⟨S,hS,hm,hrest⟩:=h.own
 obtain ⟨c1,c2,S1,p1,p2,p3,p4,p5,p6,p7,p8,p9,p10,p11⟩:=Mul.parts hm
 rw [xn hx] at p9
 refine Sep.of_parts (L':=[_]) h.frame hS hrest (dP.refl _ _) ⟨S,fun b hb=>.inl hb,⟨fun r hr=>?_,fun q hq=>?_⟩,trivial⟩
 ·simp only [List.mem_cons,List.not_mem_nil,or_false] at hr
  rcases hr with rfl | rfl
  ·exact yR p1 p2 p7 p9 fun b hb=>(p3 b hb).1
  ·have : D.rd W (.row e2 s2 (y.map enc2)) S1 [u]:=by rw [← hf]; exact p10
   exact D.rd_mono this fun b hb=>(p3 b hb).1
 ·simp only [List.mem_cons,List.not_mem_nil,or_false] at hq
  subst hq
  obtain ⟨g,e1,e2,e3⟩:=vC (j:=i.toNat * 1) (u:=u) p1 (by rw [List.getElem?_append_right (by omega),p4,Nat.sub_self]; rfl)
  exact ⟨⟨g,0,none⟩,e1,p2 g e2,e3⟩
def Raw (lit : Value) (cs : List Value) (k : Nat) (W : World) (S : Nat → Prop) : Prop:=∃ g,lit = .slice (some ⟨g,0,none⟩) k k ∧ S g ∧ ∀ j u,(List.replicate k cs).flatten[j]? = some u → W.cell? ((⟨g,0,none⟩ : Addr).add j) = some u
theorem Raw.agree {lit : Value} {k : Nat} (h : Raw lit cs k W S) (ha : eO S W W') : Raw lit cs k W' S:=by
 obtain ⟨g,h10,h11,h12⟩:=h
 refine ⟨g,h10,h11,fun j u hj=>?_⟩
 rw [World.cell?_of_block (w:=W) (w':=W') (by rw [uw]; exact ha _ h11)]
 exact h12 j u hj
theorem Raw.mono {lit : Value} {k : Nat} (h : Raw lit cs k W S) (hs : ∀ b,S b → T b) : Raw lit cs k W T:=let ⟨g,h10,h11,h12⟩:=h; ⟨g,h10,hs g h11,h12⟩
abbrev B5 (lit : Value) (cs : List Value) (k : Nat) : Ent:=.any (Raw lit cs k) Raw.agree Raw.mono
theorem rM {uv : Value} : ∀ {k : Nat},dt (List.replicate k uv) = (List.replicate k uv.cells.toList).flatten
 | 0=>rfl
 | k + 1=>by rw [List.replicate_succ,List.replicate_succ,dt,rM]; rfl
theorem OpW.lir {k : Nat} {parts : Array (Nat × Operand)} {uv : Value} (hS : Sep M w0 W L) (hu : P.underlying t = some (.slice e)) (ht : br P e = some (ag,some zv,size,bytes)) (ho : o.op = .buildSlice t k parts)
  (hp : lH 0 parts.toList E = some (List.replicate k uv)) (hc : uv.cells.toList = cs) (hl : cs.length = size) (h : ∀ (lit : Hd) W',Sep M w0 W' (B5 (sv lit) cs k :: L) → K (put E o.dst (sv lit)) W')
  (hle : Nat.ble (k * size) 16777216 = true:=by exact rfl) (hg : o.guard = none:=by exact rfl) (hd : okD n o.dst = true:=by exact rfl) : OpW P n ops o E W K:=by
 have hvs : ∀ v ∈ List.replicate k uv,v.cells.toList.length = size:=fun v hv=>by rw [(List.mem_replicate.1 hv).2,hc,hl]
 refine .runs (W':=W.alloc (.cells (dt (List.replicate k uv)).toArray e)) (v:=.slice (some ⟨W.heap.size,0,none⟩) k k) (fun a ha=>?_) hg hd (h ⟨some ⟨W.heap.size,0,none⟩,k,k⟩ _ ?_)
 ·have h1:=mj ha hp
  have h2 : parts.map (fun p=>(p.1,a.eval p.2)) = (d6 0 (List.replicate k uv)).toArray:=by rw [← h1]; apply Array.ext'; simp
  unfold execOp
  simp only [ho,Sem.run_bind]
  rw [show (parts.map fun (x : Nat × Operand)=>match x with | (i,x)=>(i,a.eval x)) = (d6 0 (List.replicate k uv)).toArray from h2,lJ hu ht (List.length_replicate ..) hvs (Nat.le_of_ble_eq_true hle)]
  rfl
 ·refine hS.new (L':=[B5 (sv ⟨some ⟨W.heap.size,0,none⟩,k,k⟩) cs k]) dB ⟨fun b=>b = W.heap.size,fun b hb=>by subst hb; simp,⟨W.heap.size,rfl,rfl,fun j' u hj=>?_⟩,trivial⟩
  have hadd : (⟨W.heap.size,0,none⟩ : Addr).add j' = ⟨W.heap.size,j',none⟩:=by unfold Addr.add; split <;> simp_all
  rw [hadd,cell_of_row _ _ j' (dt (List.replicate k uv)).toArray e (0,0) (heap_alloc_new W _),rM,hc]
  simpa using hj
theorem xo {cu : List Value} (hd : D.rd W d T cu) (hl : cu.length = d.sz) : ∀ {k : Nat},D.rds W (List.replicate k d) T (List.replicate k cu).flatten
 | 0=>rfl
 | k + 1=>by rw [List.replicate_succ,List.replicate_succ]; exact ⟨cu,_,rfl,hl,hd,xo hd hl⟩
theorem OpW.apm {p q : Operand} {k : Nat} {lit : Value} (hr : X.app bytes l (List.replicate k x) = some r) (hx : nth l i = some x) (hS : Sep M w0 W (B5 lit cs k :: AF v e size (l.map enc) i.toNat cs (enc x) :: L)) (hu : P.underlying t = some (.slice e)) (ht : br P e = some (ag,some zv,size,bytes))
  (ho : o.op = .call { callee:=.builtin .append,args:=#[p,q],argTypes:=#[t,t] }) (hp : ev E p = some v) (hq : ev E q = some lit)
  (h : ∀ (v : Hd) W',Sep M w0 W' (po [(sv v,e,size,r.map enc)] [] :: L) → K (put E o.dst (sv v)) W')
  (hz : zv.cells.size = size:=by exact rfl) (h0 : Nat.blt 0 size = true:=by exact rfl) (hb0 : Nat.blt 0 bytes = true:=by exact rfl) (hg : o.guard = none:=by exact rfl) (hd : okD n o.dst = true:=by exact rfl) : OpW P n ops o E W K:=by
 obtain ⟨rfl,hroom⟩:=pH hr
 obtain ⟨Sl,hSl,⟨g,rfl,h11,h12⟩,S,hSo,hm,hrest⟩:=hS.own
 obtain ⟨c1,c2,S1,p1,p2,p3,p4,h8,p6,h4,h5,p9,p10,h9⟩:=Mul.parts hm
 rw [xn hx] at p9
 generalize hcc : c1 ++ (cs ++ c2) = cc at *
 obtain ⟨i0,hi,hz0,hz1,hz2⟩:=jb ht
 have hbpos : 0 < bytes:=by simpa [Nat.blt_eq] using hb0
 rw [List.length_map] at p1
 rw [List.length_replicate] at hroom
 have hmaxl : l.length + k ≤ 140737488355328:=Nat.le_trans (Nat.le_mul_of_pos_right _ hbpos) hroom
 have hone : ∀ u ∈ (List.replicate k cs).flatten,u.oneCell' = true:=fun u hu=>by
  obtain ⟨c,hc,hu⟩:=List.mem_flatten.1 hu
  rw [(List.mem_replicate.1 hc).2] at hu
  exact h9 u hu
 obtain ⟨v',W',hrun,hown,hgrow,hn0,hat⟩:=run_append_own_at (P:=P) W 0 t o.type e i0 zv size bytes hu hi hz0 hz1 hz2 hz (by simpa [Nat.blt_eq] using h0) _ _ _ p1 ⟨g,0,none⟩ k k (List.replicate k cs).flatten (by simp [h8]) h12 hone (by simp only [maxLen]; omega) hroom (Nat.zero_le _)
 have hlen : ((l ++ List.replicate k x).map enc).length = l.length + k:=by simp
 obtain ⟨vh,rfl⟩ : ∃ vh : Hd,v' = sv vh:=by
  rcases hown.2 with ⟨h1,h2⟩ | ⟨g,cap,cur,h1,_⟩
  ·exact ⟨aP,h1⟩
  ·exact ⟨⟨_,_,_⟩,h1⟩
 have hrd : D.rds W' ((l ++ List.replicate k x).map enc) S1 (cc ++ (List.replicate k cs).flatten):=by
  have hag : eO S1 W W':=fun b hb=>hgrow.block b (hSo b (p3 b hb).1).1.2 fun he=>(p3 b hb).2 he.symm
  rw [List.map_append,List.map_replicate]
  exact sJ (D.rds_agree p9 hag) (xo (D.rd_agree p10 hag) (by rw [h8,h5]))
 have hsz : ∀ y ∈ (l ++ List.replicate k x).map enc,y.sz = size:=fun y hy=>by
  rw [List.map_append] at hy
  rcases List.mem_append.1 hy with hy | hy
  ·exact h4 y hy
  ·obtain ⟨y',hy',rfl⟩:=List.mem_map.1 hy
   rw [(List.mem_replicate.1 hy').2]
   exact h5
 rw [← hlen] at hown
 refine .runs (W':=W') (v:=sv vh) (fun a ha=>?_) hg hd (h vh _ (Sep.of_parts (L':=[_]) hS.frame (S:=fun b=>Sl b ∨ S b) (fun b hb=>hb.elim (hSl b) fun hb=>(hSo b hb).1) (hrest.mono fun b hb=>⟨hb.1.1,fun hh=>hh.elim hb.1.2 hb.2⟩) (dP.of_grown hgrow fun b hb=>.inr (p2 b hb))
  ⟨fun b=>(Sl b ∨ S b) ∨ (W.heap.size ≤ b ∧ b < W'.heap.size),fun b hb=>hb,⟨fun r hr'=>?_,fun q hq=>by simp at hq⟩,trivial⟩))
 ·unfold execOp
  simp only [ho,resolve,Deferred.ofValue,invoke,builtin,Sem.run_bind,Sem.run_pure,Result.andThen_ok]
  simp [ha.ev hp,ha.ev hq,hrun]
 ·simp only [List.mem_singleton] at hr'
  subst hr'
  refine yR hown (fun g' hg'=>?_) hsz hrd fun b hb=>.inl (.inr (p3 b hb).1)
  rcases hat with hat | hat
  ·exact .inl (.inr (p2 g' (hat ▸ hg')))
  ·have : g' = W.heap.size:=by rw [hat] at hg'; injection hg' with hg'; exact hg'.symm
   subst this
   rcases hown.lt W.heap.size hat with ⟨_,h2⟩
   exact .inr ⟨Nat.le_refl _,h2⟩
variable {Q : Exit → Act → World → Prop} {SW : World → Prop} {k : Nat}
def wpM (P : Program) (ops : Array Oper) (Q : Exit → Act → World → Prop) (SW : World → Prop) (k : Nat) : Nat → Array Bool → Act → World → Prop
 | 0,l,a,w=>Region.ready .any ops l = [] ∧ Q .normal a w
 | f + 1,l,a,w=>(Region.ready .any ops l = [] → Q .normal a w) ∧ ∀ i ∈ Region.ready .any ops l,wpOp P ops Q i (fun a' w'=>((l.setIfInBounds i true).getD k true = false → SW w') ∧ wpM P ops Q SW k f (l.setIfInBounds i true) a' w') a w
theorem xp : ∀ (f : Nat) (l : Array Bool) (a : Act) (w : World),wpM P ops Q SW k f l a w → wpAny P .any ops Q f l a w
 | 0,_,_,_,h=>h
 | f + 1,_,_,_,h=>⟨h.1,fun i hi=>wpOp_mono (fun a' w' h'=>xp f _ a' w' h'.2) (h.2 i hi)⟩
theorem ye {i m : Nat} {oi : Oper} {v : Value} (hi : ops[i]? = some oi) (hs : Region.noSelect ops = true) (hQ : ∀ c a w,Q (.panic c) (a.put oi.dst v) w → Q (.panic c) a w) (hkm : m = k ∨ j0 ops k m = true) (hmi : j0 ops m i = true) (hik : i ≠ k) :
  ∀ {f : Nat} {l : Array Bool} {a : Act} {w : World},l.getD m true = false → l.getD k true = false → qu ops i oi l → i ∈ Region.ready .any ops l → YieldsIf P ops SW oi v a → SW w → wpM P ops Q SW k f (l.setIfInBounds i true) (a.put oi.dst v) w → wpM P ops Q SW k (f + 1) l a w:=by
 intro f
 induction f with
 | zero =>
  intro l a w hm hk hL hr hy hS H
  refine ⟨fun h=>absurd (h ▸ hr) (by simp),fun j hj=>?_⟩
  rcases Nat.decEq j i with hji | hji
  ·exact absurd (ready_mono hj hji) (by rw [H.1]; simp)
  ·subst hji
   exact hy.wpOp hi hS ⟨fun _=>hS,H⟩
 | succ f ih =>
  intro l a w hm hk hL hr hy hS H
  have hl:=(mem_ready.1 hr).1
  refine ⟨fun h=>absurd (h ▸ hr) (by simp),fun j hj=>?_⟩
  rcases Nat.decEq j i with hji | hji
  ·obtain ⟨hjl,oj,hoj,_⟩:=mem_ready.1 hj
   have hjm : j ≠ m:=fun h=>m7 hmi hl (h ▸ hj)
   have hjk : j ≠ k:=fun h=>by
    rcases hkm with hkm | hkm
    ·exact hjm (h.trans hkm.symm)
    ·exact m7 hkm hm (h ▸ hj)
   have hm' : (l.setIfInBounds j true).getD m true = false:=by rw [getD_set_ne true hjm]; exact hm
   have hk' : (l.setIfInBounds j true).getD k true = false:=by rw [getD_set_ne true hjk]; exact hk
   have hsel:=Region.noSelect_spec hs
   refine wpOp_mono (fun a' w' ⟨hy',hS',H'⟩=>⟨fun _=>hS' ?_,ih hm' hk' (hL.set hjl) (ready_mono hr fun h=>hji h.symm) hy' (hS' ?_) ?_⟩)
    (wpOp_putIf hoj (hL j oj hoj hji hjl (qt hl hj)) (fun cs b=>hsel i oi cs b hi) (fun cs b=>hsel j oj cs b hoj) hQ hy (H.2 j (ready_mono hj hji)))
   ·rw [Array.setIfInBounds_comm _ _ fun h=>hji h.symm,getD_set_ne true hik]; exact hk'
   ·rw [Array.setIfInBounds_comm _ _ fun h=>hji h.symm,getD_set_ne true hik]; exact hk'
   ·rwa [Array.setIfInBounds_comm _ _ hji]
  ·subst hji
   exact hy.wpOp hi hS ⟨fun _=>hS,H⟩
theorem wD {i : Nat} {oi : Oper} {v : Value} (hi : ops[i]? = some oi) (hs : Region.noSelect ops = true) (hQ : ∀ c a w,Q (.panic c) (a.put oi.dst v) w → Q (.panic c) a w) (hik : i ≠ k) :
  ∀ {f : Nat} {l : Array Bool} {a : Act} {w : World},qu ops i oi l → i ∈ Region.ready .any ops l → YieldsIf P ops (fun _=>True) oi v a → (l.getD k true = false → SW w) → wpM P ops Q SW k f (l.setIfInBounds i true) (a.put oi.dst v) w → wpM P ops Q SW k (f + 1) l a w:=by
 intro f
 induction f with
 | zero =>
  intro l a w hL hr hy hS H
  refine ⟨fun h=>absurd (h ▸ hr) (by simp),fun j hj=>?_⟩
  rcases Nat.decEq j i with hji | hji
  ·exact absurd (ready_mono hj hji) (by rw [H.1]; simp)
  ·subst hji
   exact hy.wpOp hi trivial ⟨fun h=>hS (by rwa [getD_set_ne true hik] at h),H⟩
 | succ f ih =>
  intro l a w hL hr hy hS H
  refine ⟨fun h=>absurd (h ▸ hr) (by simp),fun j hj=>?_⟩
  rcases Nat.decEq j i with hji | hji
  ·obtain ⟨hjl,oj,hoj,_⟩:=mem_ready.1 hj
   have hsel:=Region.noSelect_spec hs
   have hl:=(mem_ready.1 hr).1
   refine wpOp_mono (fun a' w' ⟨hy',hS',H'⟩=>⟨fun h=>hS' ?_,ih (hL.set hjl) (ready_mono hr fun h=>hji h.symm) hy' (fun h=>hS' ?_) ?_⟩)
    (wpOp_putIf hoj (hL j oj hoj hji hjl (qt hl hj)) (fun cs b=>hsel i oi cs b hi) (fun cs b=>hsel j oj cs b hoj) hQ hy (H.2 j (ready_mono hj hji)))
   ·rw [Array.setIfInBounds_comm _ _ fun h=>hji h.symm,getD_set_ne true hik]; exact h
   ·rw [Array.setIfInBounds_comm _ _ fun h=>hji h.symm,getD_set_ne true hik]; exact h
   ·rwa [Array.setIfInBounds_comm _ _ hji]
  ·subst hji
   exact hy.wpOp hi trivial ⟨fun h=>hS (by rwa [getD_set_ne true hik] at h),H⟩
def RM (P : Program) (n : Nat) (ops : Array Oper) (SW : World → Prop) (k : Nat) (f : Nat) (l : Array Bool) (E : Env) (W : World) (K : Env → World → Prop) : Prop:=
 ∀ a Q,f9 n E a → (∀ a' E' W',f9 n E' a' → K E' W' → Q .normal a' W') → wpM P ops (NoPanic Q) SW k f l a W
theorem CW.rm {R : Exit → Env → World → Prop} {id : Nat} (k : Nat) (SW : World → Prop) (hS : Sep M w0 W L) (hm : P.follows .mixedOrders = true) (h : ∀ W,Sep M w0 W L → RM P n ops SW k ops.size (Array.replicate ops.size false) E W (R .normal)) : CW P n (.region id ops true) E W R:=by
 intro a ha
 refine wp_region_noPanic (wp_region_any hm (xp _ _ _ _ (h _ (hS.drewN _) a _ ha fun a' E' W' ha' hr=>⟨E',ha',hr⟩)))
theorem RM.done {f : Nat} {l : Array Bool} (h : K E W) (hr : yN (Region.ready .any ops l) = true:=by kernel_rfl) : RM P n ops SW k f l E W K:=by
 intro a Q ha hk
 have h0 : Region.ready .any ops l = []:=by
  cases hq : Region.ready .any ops l with
  | nil=>rfl
  | cons x y=>rw [hq] at hr; cases hr
 have h1 : NoPanic Q .normal a W:=hk _ _ _ ha h
 cases f with
 | zero=>exact ⟨h0,h1⟩
 | succ f=>exact ⟨fun _=>h1,by rw [h0]; simp⟩
theorem RM.t1 {f : Nat} {l : Array Bool} (i m : Nat) (ho : ops[i]? = some o) (hv : ∀ W,SW W → ez P n E o W v W) (hS : SW W) (h : RM P n ops SW k f (l.setIfInBounds i true) (put E o.dst v) W K)
  (hs : (Region.noSelect ops && Region.free .any ops l i && (Region.ready .any ops l).contains i && (Nat.beq m k || j0 ops k m) && j0 ops m i && !(Nat.beq i k) && !(l.getD m true) && !(l.getD k true)) = true) (hg : o.guard = none) (hd : okD n o.dst = true) : RM P n ops SW k (f + 1) l E W K:=by
 intro a Q ha hk
 simp only [Bool.and_eq_true,Bool.not_eq_true',Bool.or_eq_true] at hs
 obtain ⟨⟨⟨⟨⟨⟨⟨h1,h2⟩,h3⟩,h4⟩,h5⟩,h6⟩,h7⟩,h8⟩:=hs
 exact ye ho h1 (fun c a w h=>h) (h4.imp Nat.eq_of_beq_eq_true id) h5 (by rintro rfl; rw [Nat.beq_refl] at h6; cases h6) h7 h8 (qu.of ho h2) (by simpa using h3) (.inl ⟨by simp [Region.wanted,hg],fun w hw=>hv w hw a ha⟩) hS (h _ Q (ha.put hd v) hk)
theorem RM.tp {f : Nat} {l : Array Bool} (i : Nat) (ho : ops[i]? = some o) (hv : ∀ W,ez P n E o W v W) (hS : SW W) (h : RM P n ops SW k f (l.setIfInBounds i true) (put E o.dst v) W K)
  (hs : (Region.noSelect ops && Region.free .any ops l i && (Region.ready .any ops l).contains i && !(Nat.beq i k)) = true) (hg : o.guard = none) (hd : okD n o.dst = true) : RM P n ops SW k (f + 1) l E W K:=by
 intro a Q ha hk
 simp only [Bool.and_eq_true,Bool.not_eq_true'] at hs
 obtain ⟨⟨⟨h1,h2⟩,h3⟩,h4⟩:=hs
 exact wD ho h1 (fun c a w h=>h) (by rintro rfl; rw [Nat.beq_refl] at h4; cases h4) (qu.of ho h2) (by simpa using h3) (.inl ⟨by simp [Region.wanted,hg],fun w _=>hv w a ha⟩) (fun _=>hS) (h _ Q (ha.put hd v) hk)
theorem RM.by1 {f : Nat} {l : Array Bool} (i : Nat) (ho : ops[i]? = some o) (h : OpW P n ops o E W fun E' W'=>((l.setIfInBounds i true).getD k true = false → SW W') ∧ RM P n ops SW k f (l.setIfInBounds i true) E' W' K)
  (hr : ta (Region.ready .any ops l) [i] = true:=by kernel_rfl) : RM P n ops SW k (f + 1) l E W K:=by
 intro a Q ha hk
 have hq:=tf hr
 refine ⟨fun h0=>?_,fun j hj=>?_⟩
 ·rw [hq] at h0; cases h0
 ·rw [hq] at hj
  obtain rfl:=List.mem_singleton.1 hj
  unfold wpOp
  simp only [ho]
  have:=h a (NoPanic Q) (fun a' w'=>((l.setIfInBounds j true).getD k true = false → SW w') ∧ wpM P ops (NoPanic Q) SW k f (l.setIfInBounds j true) a' w') ha (fun a' E' W' ha' ⟨h1,h2⟩=>⟨h1,h2 a' Q ha' hk⟩)
  split
  ·rename_i hw
   rw [if_pos hw] at this
   exact .inl this
  ·rename_i hw
   rw [if_neg hw] at this
   exact this
theorem RM.byd {f : Nat} {l : Array Bool} (i : Nat) (ho : ops[i]? = some o) (h : OpW P n ops o E W fun E' W'=>RM P n ops SW k f (l.setIfInBounds i true) E' W' K)
  (hr : ta (Region.ready .any ops l) [i] = true:=by kernel_rfl) (hk : (Nat.beq i k || l.getD k true) = true:=by kernel_rfl) : RM P n ops SW k (f + 1) l E W K:=by
 refine .by1 i ho (fun a Q Kc ha hk'=>h a Q Kc ha fun a' E' W' ha' h'=>hk' a' E' W' ha' ⟨fun hh=>?_,h'⟩) hr
 rcases Nat.decEq i k with hik | hik
 ·rw [getD_set_ne true hik] at hh
  have : Nat.beq i k = false:=by
   cases hb : Nat.beq i k
   ·rfl
   ·exact absurd (Nat.eq_of_beq_eq_true hb) hik
  rw [this,Bool.false_or] at hk
  rw [hk] at hh
  cases hh
 ·subst hik
  have : (l.setIfInBounds i true).getD i true = true:=by
   simp only [Array.getD_eq_getD_getElem?,Array.getElem?_setIfInBounds,if_true]
   split <;> rfl
  rw [this] at hh
  cases hh
end
noncomputable section
variable {P : Program} {n : Nat} {ops : Array Oper} {E E' : Env} {W : World} {K : Env → World → Prop} {SW : World → Prop} {k : Nat}
def pM (n : Nat) (is : List Nat) : Array Bool:=is.foldl (fun l i=>l.setIfInBounds i true) (Array.replicate n false)
def nS : List Bool → List Bool → Bool
 | [],[]=>true
 | true :: r,true :: q=>nS r q
 | false :: r,false :: q=>nS r q
 | _,_=>false
theorem qx : ∀ {l q : List Bool},nS l q = true → l = q
 | [],[],_=>rfl
 | true :: r,true :: q,h=>by rw [qx (l:=r) (q:=q) h]
 | false :: r,false :: q,h=>by rw [qx (l:=r) (q:=q) h]
 | [],_ :: _,h=>by simp [nS] at h
 | _ :: _,[],h=>by simp [nS] at h
 | true :: _,false :: _,h=>by simp [nS] at h
 | false :: _,true :: _,h=>by simp [nS] at h
theorem RK.sub {f : Nat} {l : Array Bool} (hs : aD E E') (h : RK P n ops SW k f l E' W K) : RK P n ops SW k f l E W K:=fun a Q ha hk=>h a Q (ha.sub hs.sub) hk
theorem RK.atl {f : Nat} {l l' : Array Bool} (h : RK P n ops SW k f l' E W K) (hl : nS l.toList l'.toList = true) : RK P n ops SW k f l E W K:=by
 have : l = l':=Array.ext' (qx hl)
 exact this ▸ h
theorem RK.memo {f : Nat} {l : Array Bool} (X : Env → World → Prop) (f' : Nat) (l' : Array Bool) (hJ : ∀ E W,X E W → RK P n ops SW k f' l' E W K) (h : (∀ E W,X E W → RK P n ops SW k f' l' E W K) → RK P n ops SW k f l E W K) : RK P n ops SW k f l E W K:=h hJ
end
end Go.Proofs.YtgcmopfhafoabaaGreatDoor.X
namespace Go.Proofs.YtgcmopfhafoabaaGreatDoor.N
open Go.Proofs.YtgcmopfhafoabaaGreatDoor.X
noncomputable section
structure kO where
 name : ByteArray
 opcode : Int
 funct3 : Int
 funct7 : Int
structure aH where
 b : List Int
 p : Int
structure ah where
 Op : Int
 Dst : Int
 A : Int
 B : Int
 N : Int
def aK (x : ah) : D:=.agg [.int .i64 x.Op,.int .i64 x.Dst,.int .i64 x.A,.int .i64 x.B,.int .i64 x.N]
structure Expr where
 Op : Int
 N : Int
 Args : List Expr
mutual
def aX : Expr → D
 | ⟨x0,x1,x2⟩=>.agg [.int .i64 x0,.int .i64 x1,.row 204 3 (uM x2)]
def uM : List Expr → List D
 | []=>[]
 | x :: r=>aX x :: uM r
end
theorem th : ∀ l,uM l = l.map aX
 | []=>rfl
 | x :: r=>by rw [uM,th r,List.map]
theorem eA (x : Expr) : aX x = .agg [.int .i64 x.Op,.int .i64 x.N,.row 204 3 (x.Args.map aX)]:=by
 cases x; simp only [aX,th]
theorem yS (x : Expr) : (aX x).sz = 3:=by simp only [eA,D.sz,D.szs]
structure au where
 Kind : Int
 Var : Int
 Box : Int
 Expr : Expr
 Body : List au
 Else : List au
mutual
def aA : au → D
 | ⟨x0,x1,x2,x3,x4,x5⟩=>.agg [.int .i64 x0,.int .i64 x1,.int .i64 x2,aX x3,.row 206 8 (ti x4),.row 206 8 (ti x5)]
def ti : List au → List D
 | []=>[]
 | x :: r=>aA x :: ti r
end
theorem tj : ∀ l,ti l = l.map aA
 | []=>rfl
 | x :: r=>by rw [ti,tj r,List.map]
theorem ga (x : au) : aA x = .agg [.int .i64 x.Kind,.int .i64 x.Var,.int .i64 x.Box,aX x.Expr,.row 206 8 (x.Body.map aA),.row 206 8 (x.Else.map aA)]:=by
 cases x; simp only [aA,tj]
theorem j3 (x : au) : (aA x).sz = 8:=by simp only [ga,D.sz,D.szs,yS]
structure aY where
 Kind : Int
 N : Int
def bK (x : aY) : D:=.agg [.int .i64 x.Kind,.int .i64 x.N]
structure Instr where
 Op : Int
 Rd : Int
 Rs : Int
 Rt : Int
 Imm : Int
def aw (x : Instr) : D:=.agg [.int .i64 x.Op,.int .i64 x.Rd,.int .i64 x.Rs,.int .i64 x.Rt,.int .i64 x.Imm]
structure ai where
 Regs : List Int
 Pc : Int
 Mem : List Int
structure Box where
 Room : Int
 Items : List Int
def j4 : List Int:=[1,2,8,9,18,19,20,21,22,23,10,11,17]
def j5 : List kO:=[⟨⟨#[97,100,100]⟩,51,0,0⟩,⟨⟨#[115,117,98]⟩,51,0,32⟩,⟨⟨#[109,117,108]⟩,51,0,1⟩,⟨⟨#[100,105,118]⟩,51,4,1⟩,⟨⟨#[114,101,109]⟩,51,6,1⟩,⟨⟨#[97,110,100]⟩,51,7,0⟩,⟨⟨#[111,114]⟩,51,6,0⟩,⟨⟨#[120,111,114]⟩,51,4,0⟩,⟨⟨#[115,108,108]⟩,51,1,0⟩,⟨⟨#[115,114,97]⟩,51,5,32⟩,⟨⟨#[115,108,116]⟩,51,2,0⟩,⟨⟨#[97,100,100,105]⟩,19,0,0⟩,⟨⟨#[115,108,116,105,117]⟩,19,3,0⟩,⟨⟨#[108,119]⟩,3,2,0⟩,⟨⟨#[106,97,108,114]⟩,103,0,0⟩,⟨⟨#[115,119]⟩,35,2,0⟩,⟨⟨#[98,101,113]⟩,99,0,0⟩,⟨⟨#[98,110,101]⟩,99,1,0⟩,⟨⟨#[108,117,105]⟩,55,0,0⟩,⟨⟨#[106,97,108]⟩,111,0,0⟩,⟨⟨#[101,99,97,108,108]⟩,115,0,0⟩]
def lK : List Int:=[8,9,10,11,12,3,1,2,6,7,5]
def mD : List Int:=[7,8,6,8,11,9,10,1,2,3,4,5]
def qy : List Int:=[8,9,18,19,20,21,22,23]
def NGl : Nat:=3
def Gl (w : World) : Prop:=wC 0 (j4.map (Value.int .i64)) w ∧ Tab 1 4 (fun x : kO=>[.string x.name,.int .i64 x.opcode,.int .i64 x.funct3,.int .i64 x.funct7]) j5 w ∧ Tab 2 1 (fun x : Int=>[.int .i64 x]) lK w ∧ True ∧ True
theorem Gl.at {w W : World} {M : Nat → Prop} {L : List Ent} (h : Gl w) (hS : Sep M w W L) (hM : ∀ g,g < NGl → ¬ M g) : Gl W:=⟨wC.at h.1 hS (hM 0 (by decide)),Tab.at h.2.1 hS (hM 1 (by decide)),Tab.at h.2.2.1 hS (hM 2 (by decide)),trivial,trivial⟩
theorem Gl.noS {w W : World} {M S : Nat → Prop} (h : Gl w) (hM : ∀ g,g < NGl → ¬ M g) (h1 : ∀ b,S b → OkS M w W b) : ∀ g,g < NGl → ¬ S g:=fun g hg hs=>by
 have h3 : 2 < w.heap.size:=h.2.2.1.1
 have hg' : g < 3:=hg
 rcases (h1 g hs).1 with h4 | h4
 ·omega
 ·exact hM g hg h4
theorem T.u22 : Tryz.prog.underlying 22 = some (.slice 5):=by kernel_rfl
theorem T.t5 : br Tryz.prog 5 = some (false,some (.int .u8 0),1,1):=by kernel_rfl
theorem T.s117 : nP Tryz.prog 117 = some ([(0,1),(1,1)],[.slice none 0 0,.int .i64 0]):=by kernel_rfl
theorem T.f117_1 : gD Tryz.prog 117 1 = some (1,1,false):=by kernel_rfl
theorem T.t3 : br Tryz.prog 3 = some (false,some (.int .i64 0),1,8):=by kernel_rfl
theorem T.f117_0 : gD Tryz.prog 117 0 = some (0,1,false):=by kernel_rfl
theorem T.t22 : br Tryz.prog 22 = some (false,some (.slice none 0 0),1,24):=by kernel_rfl
theorem T.u5 : Tryz.prog.underlying 5 = some (.int .u8):=by kernel_rfl
theorem T.u3 : Tryz.prog.underlying 3 = some (.int .i64):=by kernel_rfl
theorem T.mix : Tryz.prog.follows .mixedOrders = true:=by kernel_rfl
theorem T.u23 : Tryz.prog.underlying 23 = some (.slice 3):=by kernel_rfl
theorem T.t102 : br Tryz.prog 102 = some (true,some (.agg #[.int .i64 0,.int .i64 0,.int .i64 0,.int .i64 0,.int .i64 0]),5,40):=by kernel_rfl
theorem T.s102 : nP Tryz.prog 102 = some ([(0,1),(1,1),(2,1),(3,1),(4,1)],[.int .i64 0,.int .i64 0,.int .i64 0,.int .i64 0,.int .i64 0]):=by kernel_rfl
theorem T.u78 : Tryz.prog.underlying 78 = some (.slice 102):=by kernel_rfl
theorem T.u162 : Tryz.prog.underlying 162 = some (.slice 206):=by kernel_rfl
theorem T.t206 : br Tryz.prog 206 = some (true,some (.agg #[.int .i64 0,.int .i64 0,.int .i64 0,.int .i64 0,.int .i64 0,.slice none 0 0,.slice none 0 0,.slice none 0 0]),8,112):=by kernel_rfl
theorem T.f206_4 : gD Tryz.prog 206 4 = some (6,1,false):=by kernel_rfl
theorem T.t162 : br Tryz.prog 162 = some (false,some (.slice none 0 0),1,24):=by kernel_rfl
theorem T.f206_5 : gD Tryz.prog 206 5 = some (7,1,false):=by kernel_rfl
theorem T.f206_1 : gD Tryz.prog 206 1 = some (1,1,false):=by kernel_rfl
theorem T.f206_2 : gD Tryz.prog 206 2 = some (2,1,false):=by kernel_rfl
theorem T.f204_0 : gD Tryz.prog 204 0 = some (0,1,false):=by kernel_rfl
theorem T.f204_1 : gD Tryz.prog 204 1 = some (1,1,false):=by kernel_rfl
theorem T.f204_2 : gD Tryz.prog 204 2 = some (2,1,false):=by kernel_rfl
theorem T.t202 : br Tryz.prog 202 = some (false,some (.slice none 0 0),1,24):=by kernel_rfl
theorem T.u202 : Tryz.prog.underlying 202 = some (.slice 204):=by kernel_rfl
theorem T.t204 : br Tryz.prog 204 = some (true,some (.agg #[.int .i64 0,.int .i64 0,.slice none 0 0]),3,40):=by kernel_rfl
theorem T.f206_0 : gD Tryz.prog 206 0 = some (0,1,false):=by kernel_rfl
theorem T.f206_3 : gD Tryz.prog 206 3 = some (3,3,true):=by kernel_rfl
theorem T.s204 : nP Tryz.prog 204 = some ([(0,1),(1,1),(2,1)],[.int .i64 0,.int .i64 0,.slice none 0 0]):=by kernel_rfl
theorem T.s206 : nP Tryz.prog 206 = some ([(0,1),(1,1),(2,1),(3,3),(6,1),(7,1)],[.int .i64 0,.int .i64 0,.int .i64 0,.int .i64 0,.int .i64 0,.slice none 0 0,.slice none 0 0,.slice none 0 0]):=by kernel_rfl
theorem T.f102_1 : gD Tryz.prog 102 1 = some (1,1,false):=by kernel_rfl
theorem T.f102_2 : gD Tryz.prog 102 2 = some (2,1,false):=by kernel_rfl
theorem T.f102_3 : gD Tryz.prog 102 3 = some (3,1,false):=by kernel_rfl
theorem T.f102_0 : gD Tryz.prog 102 0 = some (0,1,false):=by kernel_rfl
theorem T.f102_4 : gD Tryz.prog 102 4 = some (4,1,false):=by kernel_rfl
theorem T.u220 : Tryz.prog.underlying 220 = some (.slice 238):=by kernel_rfl
theorem T.t238 : br Tryz.prog 238 = some (true,some (.agg #[.int .i64 0,.int .i64 0]),2,16):=by kernel_rfl
theorem T.f238_0 : gD Tryz.prog 238 0 = some (0,1,false):=by kernel_rfl
theorem T.f238_1 : gD Tryz.prog 238 1 = some (1,1,false):=by kernel_rfl
theorem T.s238 : nP Tryz.prog 238 = some ([(0,1),(1,1)],[.int .i64 0,.int .i64 0]):=by kernel_rfl
theorem T.e238 : rJ Tryz.prog 238 = some [(0,.int .i64),(1,.int .i64)]:=by kernel_rfl
theorem T.u217 : Tryz.prog.underlying 217 = some (.slice 220):=by kernel_rfl
theorem T.t220 : br Tryz.prog 220 = some (false,some (.slice none 0 0),1,24):=by kernel_rfl
theorem T.u47 : Tryz.prog.underlying 47 = some (.slice 23):=by kernel_rfl
theorem T.t23 : br Tryz.prog 23 = some (false,some (.slice none 0 0),1,24):=by kernel_rfl
theorem T.u48 : Tryz.prog.underlying 48 = some (.slice 4):=by kernel_rfl
theorem T.t4 : br Tryz.prog 4 = some (false,some (.bool false),1,1):=by kernel_rfl
theorem T.u224 : Tryz.prog.underlying 224 = some (.slice 48):=by kernel_rfl
theorem T.t48 : br Tryz.prog 48 = some (false,some (.slice none 0 0),1,24):=by kernel_rfl
theorem T.u4 : Tryz.prog.underlying 4 = some (.bool):=by kernel_rfl
theorem T.u36 : Tryz.prog.underlying 36 = some (.slice 78):=by kernel_rfl
theorem T.t78 : br Tryz.prog 78 = some (false,some (.slice none 0 0),1,24):=by kernel_rfl
theorem T.s105 : nP Tryz.prog 105 = some ([(0,1),(1,1),(2,1),(3,1),(4,1)],[.int .i64 0,.int .i64 0,.int .i64 0,.int .i64 0,.int .i64 0]):=by kernel_rfl
theorem T.u66 : Tryz.prog.underlying 66 = some (.slice 105):=by kernel_rfl
theorem T.t105 : br Tryz.prog 105 = some (true,some (.agg #[.int .i64 0,.int .i64 0,.int .i64 0,.int .i64 0,.int .i64 0]),5,40):=by kernel_rfl
theorem T.u24 : Tryz.prog.underlying 24 = some (.slice 66):=by kernel_rfl
theorem T.t66 : br Tryz.prog 66 = some (false,some (.slice none 0 0),1,24):=by kernel_rfl
theorem T.f105_1 : gD Tryz.prog 105 1 = some (1,1,false):=by kernel_rfl
theorem T.f105_2 : gD Tryz.prog 105 2 = some (2,1,false):=by kernel_rfl
theorem T.f105_3 : gD Tryz.prog 105 3 = some (3,1,false):=by kernel_rfl
theorem T.f105_4 : gD Tryz.prog 105 4 = some (4,1,false):=by kernel_rfl
theorem T.f105_0 : gD Tryz.prog 105 0 = some (0,1,false):=by kernel_rfl
theorem T.e105 : rJ Tryz.prog 105 = some [(0,.int .i64),(1,.int .i64),(2,.int .i64),(3,.int .i64),(4,.int .i64)]:=by kernel_rfl
theorem T.u183 : Tryz.prog.underlying 183 = some (.int .u32):=by kernel_rfl
theorem T.u147 : Tryz.prog.underlying 147 = some (.array 21 146):=by kernel_rfl
theorem T.t146 : br Tryz.prog 146 = some (true,some (.agg #[.string ⟨#[]⟩,.int .i64 0,.int .i64 0,.int .i64 0]),4,40):=by kernel_rfl
theorem T.f146_2 : gD Tryz.prog 146 2 = some (2,1,false):=by kernel_rfl
theorem T.f146_1 : gD Tryz.prog 146 1 = some (1,1,false):=by kernel_rfl
theorem T.f146_3 : gD Tryz.prog 146 3 = some (3,1,false):=by kernel_rfl
theorem T.u21 : Tryz.prog.underlying 21 = some (.int .i32):=by kernel_rfl
theorem T.t113 : br Tryz.prog 113 = some (true,some (.agg #[.int .i64 0,.int .i64 0,.int .i64 0,.int .i64 0,.int .i64 0,.int .i64 0,.int .i64 0,.int .i64 0,.int .i64 0,.int .i64 0,.int .i64 0,.int .i64 0,.int .i64 0]),13,104):=by kernel_rfl
theorem T.u113 : Tryz.prog.underlying 113 = some (.array 13 3):=by kernel_rfl
theorem T.t28 : br Tryz.prog 28 = some (true,some (.agg #[.slice none 0 0,.int .i64 0,.slice none 0 0]),3,56):=by kernel_rfl
theorem T.s28 : nP Tryz.prog 28 = some ([(0,1),(1,1),(2,1)],[.slice none 0 0,.int .i64 0,.slice none 0 0]):=by kernel_rfl
theorem T.f28_0 : gD Tryz.prog 28 0 = some (0,1,false):=by kernel_rfl
theorem T.f28_1 : gD Tryz.prog 28 1 = some (1,1,false):=by kernel_rfl
theorem T.f28_2 : gD Tryz.prog 28 2 = some (2,1,false):=by kernel_rfl
theorem T.u153 : Tryz.prog.underlying 153 = some (.pointer 3):=by kernel_rfl
theorem T.u159 : Tryz.prog.underlying 159 = some (.array 11 3):=by kernel_rfl
def kP (a0 : List Int) : Option (aH):=
(sel (decide ((a0.length : Int) > 2000)) ((cut a0 0 2000).bind fun r1 =>
some r1) <|
some a0 : Option ((List Int))).bind fun y1 =>
some (aH.mk y1 0)
def ao (a0 : aH) (a1 : Int) : Option (Int × Int):=
sel ((decide (a1 < 1)) || ((a0.b.length : Int) == 0)) (some (0,w64 (a0.p + 1))) <|
sel (decide ((w64 ((w64 (a0.p + 1)) - 1)) < (a0.b.length : Int))) ((nth a0.b (w64 ((w64 (a0.p + 1)) - 1))).bind fun x1 =>
(nL (w64 (x1)) a1).bind fun d1 =>
some (d1,w64 (a0.p + 1))) <|
(nL (w64 ((w64 (a0.p + 1)) - 1)) (a0.b.length : Int)).bind fun d2 =>
(nth a0.b d2).bind fun x2 =>
(nL (w64 ((w64 ((w64 ((w64 (a0.p + 1)) - 1)) * 7)) + 3)) (a0.b.length : Int)).bind fun d3 =>
(nth a0.b d3).bind fun x3 =>
(pK .i64 (w64 ((w64 (a0.p + 1)) - 1)) (a0.b.length : Int)).bind fun d4 =>
(nL (aC .xor .i64 (w64 ((w64 ((w64 ((w64 ((w64 (x2)) * 131)) + (w64 ((w64 (x3)) * 1117)))) + (w64 ((w64 ((w64 (a0.p + 1)) - 1)) * 29)))) + (w64 (d4 * 53)))) (w64 (Int.tdiv (w64 ((w64 ((w64 ((w64 ((w64 (x2)) * 131)) + (w64 ((w64 (x3)) * 1117)))) + (w64 ((w64 ((w64 (a0.p + 1)) - 1)) * 29)))) + (w64 (d4 * 53)))) 64))) a1).bind fun d5 =>
some (d5,w64 (a0.p + 1))
def cF (a0 : aH) : Option (Int × Int):=
(ao (aH.mk a0.b a0.p) 6).bind fun y1 =>
some (y1.1,y1.2)
def bI (a0 : Int) : Option (Int):=
sel (decide ((Int.tmod a0 4294967296) > 2147483647)) (some (w64 ((Int.tmod a0 4294967296) - 4294967296))) <|
sel (decide ((Int.tmod a0 4294967296) < (-2147483648))) (some (w64 ((Int.tmod a0 4294967296) + 4294967296))) <|
some (Int.tmod a0 4294967296)
def jj (a0 : aH) : Option (Int × Int):=
(ao (aH.mk a0.b a0.p) 6).bind fun y1 =>
sel (y1.1 == 0) ((ao (aH.mk a0.b y1.2) 8).bind fun y2 =>
(nth [(-2147483648),2147483647,(-1),0,1,(-2147483647),65536,(-65536)] y2.1).bind fun x1 =>
some (x1,y2.2)) <|
sel (y1.1 == 1) ((ao (aH.mk a0.b y1.2) 256).bind fun y3 =>
(ao (aH.mk a0.b y3.2) 256).bind fun y4 =>
(ao (aH.mk a0.b y4.2) 256).bind fun y5 =>
(ao (aH.mk a0.b y5.2) 200).bind fun y6 =>
(bI (w64 ((w64 ((w64 ((w64 (y3.1 * 65536)) + (w64 (y4.1 * 256)))) + y5.1)) * (w64 (1 + y6.1))))).bind fun y7 =>
some (y7,y6.2)) <|
sel (y1.1 == 2) ((ao (aH.mk a0.b y1.2) 200).bind fun y8 =>
some (w64 (0 - y8.1),y8.2)) <|
(ao (aH.mk a0.b y1.2) 20).bind fun y9 =>
some (y9.1,y9.2)
def j6 (a0 : aH) : Option (Int × Int):=
(ao (aH.mk a0.b a0.p) 12).bind fun y1 =>
some (w64 (1 + y1.1),y1.2)
def jk (a0 : aH) (a1 : Int) : Option (ah × Int):=
(ao (aH.mk a0.b a0.p) 12).bind fun y1 =>
(sel (y1.1 == 0) (some (y1.1 == 0)) <|
some (y1.1 == 1) : Option (Bool)).bind fun y2 =>
sel y2 ((cF (aH.mk a0.b y1.2)).bind fun y3 =>
(jj (aH.mk a0.b y3.2)).bind fun y4 =>
(ao (aH.mk a0.b y4.2) 4).bind fun y5 =>
(nth [0,1,2,y4.1] y5.1).bind fun x1 =>
some ((ah.mk 1 y3.1 0 0 x1),y5.2)) <|
(sel (y1.1 == 2) (some (y1.1 == 2)) <|
some (y1.1 == 3) : Option (Bool)).bind fun y6 =>
sel y6 ((cF (aH.mk a0.b y1.2)).bind fun y7 =>
(cF (aH.mk a0.b y7.2)).bind fun y8 =>
some ((ah.mk 2 y7.1 y8.1 0 0),y8.2)) <|
(sel (y1.1 == 4) (some (y1.1 == 4)) <|
sel (y1.1 == 5) (some (y1.1 == 5)) <|
some (y1.1 == 6) : Option (Bool)).bind fun y9 =>
sel y9 ((cF (aH.mk a0.b y1.2)).bind fun y10 =>
(cF (aH.mk a0.b y10.2)).bind fun y11 =>
(cF (aH.mk a0.b y11.2)).bind fun y12 =>
(j6 (aH.mk a0.b y12.2)).bind fun y13 =>
some ((ah.mk 3 y10.1 y11.1 y12.1 y13.1),y13.2)) <|
sel (y1.1 == 7) ((ao (aH.mk a0.b y1.2) a1).bind fun y14 =>
some ((ah.mk 4 0 0 0 y14.1),y14.2)) <|
sel (y1.1 == 8) ((cF (aH.mk a0.b y1.2)).bind fun y15 =>
(ao (aH.mk a0.b y15.2) a1).bind fun y16 =>
some ((ah.mk 5 0 y15.1 0 y16.1),y16.2)) <|
sel (y1.1 == 9) ((cF (aH.mk a0.b y1.2)).bind fun y17 =>
(ao (aH.mk a0.b y17.2) 2).bind fun y18 =>
some ((ah.mk 6 0 y17.1 0 y18.1),y18.2)) <|
sel (y1.1 == 10) ((cF (aH.mk a0.b y1.2)).bind fun y19 =>
(ao (aH.mk a0.b y19.2) 2).bind fun y20 =>
some ((ah.mk 7 y19.1 0 0 y20.1),y20.2)) <|
(ao (aH.mk a0.b y1.2) 4).bind fun y21 =>
sel (y21.1 == 0) (some ((ah.mk 8 0 0 0 0),y21.2)) <|
(cF (aH.mk a0.b y21.2)).bind fun y22 =>
some ((ah.mk 9 0 y22.1 0 0),y22.2)
def jl (a0 : aH) (y1 : Int × Int) (s1 : (List ah) × Int × Int) : Option (((List ah) × Int × Int) ⊕ ((List ah) × Int)):=
sel (decide ((w64 (s1.2.1 + 1)) < (w64 (1 + y1.1)))) ((jk (aH.mk a0.b s1.2.2) (w64 (1 + y1.1))).bind fun y5 =>
(app 40 s1.1 [y5.1]).bind fun r1 =>
some (.inl (r1,w64 (s1.2.1 + 1),y5.2))) <|
some (.inr (s1.1,s1.2.2))
def eV (a0 : aH) : Option ((List ah) × Int):=
(ao (aH.mk a0.b a0.p) 14).bind fun y1 =>
(bH (jl a0 y1) ([],0,y1.2)).bind fun y2 =>
(ao (aH.mk a0.b y2.2) 3).bind fun y6 =>
sel (y6.1 == 0) ((ao (aH.mk a0.b y6.2) (w64 (1 + y1.1))).bind fun y7 =>
(app 40 y2.1 [(ah.mk 4 0 0 0 y7.1)]).bind fun r2 =>
some (r2,y7.2)) <|
(app 40 y2.1 [(ah.mk 10 0 0 0 0)]).bind fun r3 =>
some (r3,y6.2)
def gF (a0 : List au) (dH : List au → Option (Int)) (s1 : Int × Int) : Option ((Int × Int) ⊕ Int):=
sel (decide (s1.2 < (a0.length : Int))) ((nth a0 s1.2).bind fun x1 =>
(nth a0 s1.2).bind fun x2 =>
(dH x1.Body).bind fun y4 =>
(dH x2.Else).bind fun y5 =>
some (.inl (w64 ((w64 ((w64 (s1.1 + 1)) + y4)) + y5),w64 (s1.2 + 1)))) <|
some (.inr s1.1)
def dI (k : Nat) (dH : List au → Option (Int)) (a0 : List au) : Option (Int):=
(bH (gF a0 dH) (0,0)).bind fun y1 =>
some y1
def ml : Nat → (List au → Option (Int))
 | 0=>((fun _=>none))
 | k + 1=>(dI k (ml k))
def du (k : Nat) : List au → Option (Int):=(ml k)
def aJ (a0 : Int) (a1 : Int) (a2 : Int) : Option (Bool):=
some ((decide (a0 ≥ a1)) && (decide (a0 ≤ a2)))
def eB (a0 : au) (a1 : Bool) : Option (Bool):=
sel a1 ((aJ a0.Var 0 3).bind fun y1 =>
some y1) <|
some (a0.Var == 0)
def eC (a0 : au) (a1 : Bool) : Option (Bool):=
sel a1 ((aJ a0.Box 0 2).bind fun y1 =>
some y1) <|
some (a0.Box == 0)
def eD (a0 : Int) : Option (Bool):=
(aJ a0 1 12).bind fun y1 =>
some y1
def kQ (k : Nat) (kR : Expr → Int → Option (Bool)) (a0 : Expr) (a1 : Int) : Option (Bool):=
sel (decide (a1 < 1)) (some false) <|
sel (a0.Op == 0) ((aJ a0.N 0 99999).bind fun y1 =>
some (y1 && ((a0.Args.length : Int) == 0))) <|
sel (a0.Op == 13) ((aJ a0.N 0 3).bind fun y2 =>
some (y2 && ((a0.Args.length : Int) == 0))) <|
(eD a0.Op).bind fun y3 =>
(sel ((y3 && (a0.N == 0)) && ((a0.Args.length : Int) == 2)) ((nth a0.Args 0).bind fun x1=>(kR (Expr.mk x1.Op x1.N x1.Args) (w64 (a1 - 1))).bind fun y4=>some y4) (some false) : Option (Bool)).bind fun b1 =>
(sel b1 ((nth a0.Args 1).bind fun x2=>(kR (Expr.mk x2.Op x2.N x2.Args) (w64 (a1 - 1))).bind fun y5=>some y5) (some false) : Option (Bool)).bind fun b2 =>
some b2
def pb : Nat → (Expr → Int → Option (Bool))
 | 0=>((fun _ _=>none))
 | k + 1=>(kQ k (pb k))
def mE (k : Nat) : Expr → Int → Option (Bool):=(pb k)
def c6 (k : Nat) (a0 : Expr) : Option (Bool):=
(mE k (Expr.mk a0.Op a0.N a0.Args) 5).bind fun y1 =>
some y1
def fQ (a0 : Expr) : Option (Bool):=
some (((a0.Op == 0) && (a0.N == 0)) && ((a0.Args.length : Int) == 0))
def eW (k : Nat) (a0 : au) : Option (Bool):=
sel ((decide ((a0.Body.length : Int) > 0)) || (decide ((a0.Else.length : Int) > 0))) (some false) <|
sel (a0.Kind == 1) ((eB (au.mk a0.Kind a0.Var a0.Box (Expr.mk a0.Expr.Op a0.Expr.N a0.Expr.Args) a0.Body a0.Else) true).bind fun y1 =>
(sel y1 ((eC (au.mk a0.Kind a0.Var a0.Box (Expr.mk a0.Expr.Op a0.Expr.N a0.Expr.Args) a0.Body a0.Else) false).bind fun y2=>some y2) (some false) : Option (Bool)).bind fun b1 =>
(sel b1 ((c6 k (Expr.mk a0.Expr.Op a0.Expr.N a0.Expr.Args)).bind fun y3=>some y3) (some false) : Option (Bool)).bind fun b2 =>
some b2) <|
sel (a0.Kind == 4) ((eB (au.mk a0.Kind a0.Var a0.Box (Expr.mk a0.Expr.Op a0.Expr.N a0.Expr.Args) a0.Body a0.Else) false).bind fun y4 =>
(sel y4 ((eC (au.mk a0.Kind a0.Var a0.Box (Expr.mk a0.Expr.Op a0.Expr.N a0.Expr.Args) a0.Body a0.Else) true).bind fun y5=>some y5) (some false) : Option (Bool)).bind fun b3 =>
(sel b3 ((c6 k (Expr.mk a0.Expr.Op a0.Expr.N a0.Expr.Args)).bind fun y6=>some y6) (some false) : Option (Bool)).bind fun b4 =>
some b4) <|
sel (a0.Kind == 5) ((eB (au.mk a0.Kind a0.Var a0.Box (Expr.mk a0.Expr.Op a0.Expr.N a0.Expr.Args) a0.Body a0.Else) true).bind fun y7 =>
(sel y7 ((eC (au.mk a0.Kind a0.Var a0.Box (Expr.mk a0.Expr.Op a0.Expr.N a0.Expr.Args) a0.Body a0.Else) true).bind fun y8=>some y8) (some false) : Option (Bool)).bind fun b5 =>
(sel b5 ((fQ (Expr.mk a0.Expr.Op a0.Expr.N a0.Expr.Args)).bind fun y9=>some y9) (some false) : Option (Bool)).bind fun b6 =>
some b6) <|
sel (a0.Kind == 6) ((eB (au.mk a0.Kind a0.Var a0.Box (Expr.mk a0.Expr.Op a0.Expr.N a0.Expr.Args) a0.Body a0.Else) false).bind fun y10 =>
(sel y10 ((eC (au.mk a0.Kind a0.Var a0.Box (Expr.mk a0.Expr.Op a0.Expr.N a0.Expr.Args) a0.Body a0.Else) false).bind fun y11=>some y11) (some false) : Option (Bool)).bind fun b7 =>
(sel b7 ((fQ (Expr.mk a0.Expr.Op a0.Expr.N a0.Expr.Args)).bind fun y12=>some y12) (some false) : Option (Bool)).bind fun b8 =>
some b8) <|
sel (a0.Kind == 7) ((eB (au.mk a0.Kind a0.Var a0.Box (Expr.mk a0.Expr.Op a0.Expr.N a0.Expr.Args) a0.Body a0.Else) false).bind fun y13 =>
(sel y13 ((eC (au.mk a0.Kind a0.Var a0.Box (Expr.mk a0.Expr.Op a0.Expr.N a0.Expr.Args) a0.Body a0.Else) false).bind fun y14=>some y14) (some false) : Option (Bool)).bind fun b9 =>
(sel b9 ((c6 k (Expr.mk a0.Expr.Op a0.Expr.N a0.Expr.Args)).bind fun y15=>some y15) (some false) : Option (Bool)).bind fun b10 =>
some b10) <|
some false
def jm (a0 : List au) (a1 : Int) (dv : au → Int → Option (Bool)) (s1 : Int) : Option (Int ⊕ (Bool ⊕ Unit)):=
sel (decide (s1 < (a0.length : Int))) ((nth a0 s1).bind fun x1 =>
(dv (au.mk x1.Kind x1.Var x1.Box (Expr.mk x1.Expr.Op x1.Expr.N x1.Expr.Args) x1.Body x1.Else) a1).bind fun y4 =>
sel (!y4) (some (.inr (.inl false))) <|
some (.inl (w64 (s1 + 1)))) <|
some (.inr (.inr ()))
def eX (k : Nat) (cz : List au → Int → Option (Bool)) (dv : au → Int → Option (Bool)) (a0 : List au) (a1 : Int) : Option (Bool):=
(bH (jm a0 a1 dv) 0).bind fun y1 =>
i6 y1 (fun o3=>some o3) (fun o4 =>
some true)
def jn (k : Nat) (cz : List au → Int → Option (Bool)) (dv : au → Int → Option (Bool)) (a0 : au) (a1 : Int) : Option (Bool):=
sel ((a0.Kind != 2) && (a0.Kind != 3)) ((eW k (au.mk a0.Kind a0.Var a0.Box (Expr.mk a0.Expr.Op a0.Expr.N a0.Expr.Args) a0.Body a0.Else)).bind fun y1 =>
some y1) <|
sel ((decide (a1 < 1)) || ((a0.Kind == 3) && (decide ((a0.Else.length : Int) > 0)))) (some false) <|
(eB (au.mk a0.Kind a0.Var a0.Box (Expr.mk a0.Expr.Op a0.Expr.N a0.Expr.Args) a0.Body a0.Else) false).bind fun y2 =>
(sel y2 ((eC (au.mk a0.Kind a0.Var a0.Box (Expr.mk a0.Expr.Op a0.Expr.N a0.Expr.Args) a0.Body a0.Else) false).bind fun y3=>some y3) (some false) : Option (Bool)).bind fun b1 =>
(sel b1 ((c6 k (Expr.mk a0.Expr.Op a0.Expr.N a0.Expr.Args)).bind fun y4=>some y4) (some false) : Option (Bool)).bind fun b2 =>
(sel b2 ((cz a0.Body (w64 (a1 - 1))).bind fun y5=>some y5) (some false) : Option (Bool)).bind fun b3 =>
(sel b3 ((cz a0.Else (w64 (a1 - 1))).bind fun y6=>some y6) (some false) : Option (Bool)).bind fun b4 =>
some b4
def di : Nat → (List au → Int → Option (Bool)) × (au → Int → Option (Bool))
 | 0=>((fun _ _=>none),(fun _ _=>none))
 | k + 1=>(eX k (di k).1 (di k).2,jn k (di k).1 (di k).2)
def cI (k : Nat) : List au → Int → Option (Bool):=(di k).1
def pp (k : Nat) : au → Int → Option (Bool):=(di k).2
def fG (k : Nat) (a0 : List au) : Option (Bool):=
(cI k a0 3).bind fun y1 =>
(sel y1 ((du k a0).bind fun y2=>some (decide (y2 ≤ 16))) (some false) : Option (Bool)).bind fun b1 =>
some b1
def gb (k : Nat) (gc : Expr → Int → Option ((List ah))) (a0 : Expr) (a1 : Int) : Option ((List ah)):=
sel (a0.Op == 0) (some [(ah.mk 1 a1 0 0 a0.N)]) <|
sel (a0.Op == 13) (some [(ah.mk 2 a1 a0.N 0 0)]) <|
(nth a0.Args 0).bind fun x1 =>
(nth a0.Args 1).bind fun x2 =>
(gc (Expr.mk x1.Op x1.N x1.Args) a1).bind fun y1 =>
(gc (Expr.mk x2.Op x2.N x2.Args) (w64 (a1 + 1))).bind fun y2 =>
(app 40 y1 y2).bind fun r1 =>
(app 40 r1 [(ah.mk 3 a1 a1 (w64 (a1 + 1)) a0.Op)]).bind fun r2 =>
some r2
def mF : Nat → (Expr → Int → Option ((List ah)))
 | 0=>((fun _ _=>none))
 | k + 1=>(gb k (mF k))
def dw (k : Nat) : Expr → Int → Option ((List ah)):=(mF k)
def kY (a0 : List au) (a1 : Int) (bg : au → Int → Option ((List ah))) (s1 : (List ah) × Int) : Option (((List ah) × Int) ⊕ ((List ah))):=
sel (decide (s1.2 < (a0.length : Int))) ((nth a0 s1.2).bind fun x1 =>
(bg (au.mk x1.Kind x1.Var x1.Box (Expr.mk x1.Expr.Op x1.Expr.N x1.Expr.Args) x1.Body x1.Else) (w64 (a1 + (s1.1.length : Int)))).bind fun y4 =>
(app 40 s1.1 y4).bind fun r1 =>
some (.inl (r1,w64 (s1.2 + 1)))) <|
some (.inr s1.1)
def gf (k : Nat) (bh : List au → Int → Option ((List ah))) (bg : au → Int → Option ((List ah))) (bT : au → Int → Option ((List ah))) (bo : au → Int → Option ((List ah))) (a0 : List au) (a1 : Int) : Option ((List ah)):=
(bH (kY a0 a1 bg) ([],0)).bind fun y1 =>
some y1
def gg (k : Nat) (bh : List au → Int → Option ((List ah))) (bg : au → Int → Option ((List ah))) (bT : au → Int → Option ((List ah))) (bo : au → Int → Option ((List ah))) (a0 : au) (a1 : Int) : Option ((List ah)):=
(dw k (Expr.mk a0.Expr.Op a0.Expr.N a0.Expr.Args) 4).bind fun y1 =>
sel (a0.Kind == 2) ((bT (au.mk a0.Kind a0.Var a0.Box (Expr.mk a0.Expr.Op a0.Expr.N a0.Expr.Args) a0.Body a0.Else) a1).bind fun y2 =>
some y2) <|
sel (a0.Kind == 3) ((bo (au.mk a0.Kind a0.Var a0.Box (Expr.mk a0.Expr.Op a0.Expr.N a0.Expr.Args) a0.Body a0.Else) a1).bind fun y3 =>
some y3) <|
sel (a0.Kind == 1) ((app 40 y1 [(ah.mk 2 a0.Var 4 0 0)]).bind fun r1 =>
some r1) <|
sel (a0.Kind == 4) ((app 40 y1 [(ah.mk 6 0 4 0 a0.Box)]).bind fun r2 =>
some r2) <|
sel (a0.Kind == 7) ((app 40 y1 [(ah.mk 9 0 4 0 0)]).bind fun r3 =>
some r3) <|
sel (a0.Kind == 5) (some [(ah.mk 7 a0.Var 0 0 a0.Box)]) <|
some [(ah.mk 8 0 0 0 0)]
def jo (k : Nat) (bh : List au → Int → Option ((List ah))) (bg : au → Int → Option ((List ah))) (bT : au → Int → Option ((List ah))) (bo : au → Int → Option ((List ah))) (a0 : au) (a1 : Int) : Option ((List ah)):=
(dw k (Expr.mk a0.Expr.Op a0.Expr.N a0.Expr.Args) 4).bind fun y1 =>
(bh a0.Body (w64 ((w64 (a1 + (y1.length : Int))) + 1))).bind fun y2 =>
sel ((a0.Else.length : Int) == 0) ((app 40 y1 [(ah.mk 5 0 4 0 (w64 ((w64 ((w64 (a1 + (y1.length : Int))) + 1)) + (y2.length : Int))))]).bind fun r1 =>
(app 40 r1 y2).bind fun r2 =>
some r2) <|
(bh a0.Else (w64 ((w64 ((w64 ((w64 (a1 + (y1.length : Int))) + 1)) + (y2.length : Int))) + 1))).bind fun y3 =>
(app 40 y1 [(ah.mk 5 0 4 0 (w64 ((w64 ((w64 ((w64 (a1 + (y1.length : Int))) + 1)) + (y2.length : Int))) + 1)))]).bind fun r3 =>
(app 40 r3 y2).bind fun r4 =>
(app 40 r4 [(ah.mk 4 0 0 0 (w64 ((w64 ((w64 ((w64 ((w64 (a1 + (y1.length : Int))) + 1)) + (y2.length : Int))) + 1)) + (y3.length : Int))))]).bind fun r5 =>
(app 40 r5 y3).bind fun r6 =>
some r6
def fH (k : Nat) (bh : List au → Int → Option ((List ah))) (bg : au → Int → Option ((List ah))) (bT : au → Int → Option ((List ah))) (bo : au → Int → Option ((List ah))) (a0 : au) (a1 : Int) : Option ((List ah)):=
(dw k (Expr.mk a0.Expr.Op a0.Expr.N a0.Expr.Args) 4).bind fun y1 =>
(bh a0.Body (w64 ((w64 (a1 + (y1.length : Int))) + 1))).bind fun y2 =>
(app 40 y1 [(ah.mk 5 0 4 0 (w64 ((w64 ((w64 ((w64 (a1 + (y1.length : Int))) + 1)) + (y2.length : Int))) + 1)))]).bind fun r1 =>
(app 40 r1 y2).bind fun r2 =>
(app 40 r2 [(ah.mk 4 0 0 0 a1)]).bind fun r3 =>
some r3
def aN : Nat → (List au → Int → Option ((List ah))) × (au → Int → Option ((List ah))) × (au → Int → Option ((List ah))) × (au → Int → Option ((List ah)))
 | 0=>((fun _ _=>none),(fun _ _=>none),(fun _ _=>none),(fun _ _=>none))
 | k + 1=>(gf k (aN k).1 (aN k).2.1 (aN k).2.2.1 (aN k).2.2.2,gg k (aN k).1 (aN k).2.1 (aN k).2.2.1 (aN k).2.2.2,jo k (aN k).1 (aN k).2.1 (aN k).2.2.1 (aN k).2.2.2,fH k (aN k).1 (aN k).2.1 (aN k).2.2.1 (aN k).2.2.2)
def eE (k : Nat) : List au → Int → Option ((List ah)):=(aN k).1
def gG (k : Nat) : au → Int → Option ((List ah)):=(aN k).2.1
def lL (k : Nat) : au → Int → Option ((List ah)):=(aN k).2.2.1
def il (k : Nat) : au → Int → Option ((List ah)):=(aN k).2.2.2
def eY (k : Nat) (a0 : List au) : Option ((List ah) × Bool):=
(fG k a0).bind fun y1 =>
sel (!y1) (some ([],false)) <|
(eE k a0 0).bind fun y2 =>
(app 40 y2 [(ah.mk 10 0 0 0 0)]).bind fun r1 =>
some (r1,true)
def jd (a0 : Int) (a1 : Expr) (a2 : Expr) : Option (Expr):=
some (Expr.mk a0 0 [(Expr.mk a1.Op a1.N a1.Args),(Expr.mk a2.Op a2.N a2.Args)])
def dC (a0 : Int) (a1 : Int) : Option (Expr):=
some (Expr.mk a0 a1 [])
def gH (a0 : aH) : Option (Expr × Int):=
(ao (aH.mk a0.b a0.p) 4).bind fun y1 =>
sel (y1.1 == 0) ((ao (aH.mk a0.b y1.2) 4).bind fun y2 =>
(dC 0 y2.1).bind fun y3 =>
some ((Expr.mk y3.Op y3.N y3.Args),y2.2)) <|
sel (y1.1 == 1) ((ao (aH.mk a0.b y1.2) 8).bind fun y4 =>
(nth [5,31,32,100,2047,2048,65536,99999] y4.1).bind fun x1 =>
(dC 0 x1).bind fun y5 =>
some ((Expr.mk y5.Op y5.N y5.Args),y4.2)) <|
(ao (aH.mk a0.b y1.2) 4).bind fun y6 =>
(dC 13 y6.1).bind fun y7 =>
some ((Expr.mk y7.Op y7.N y7.Args),y6.2)
def gh (k : Nat) (gi : aH → Int → Option (Expr × Int)) (a0 : aH) (a1 : Int) : Option (Expr × Int):=
(sel (decide (a1 < 2)) (some (true,a0.p)) ((ao (aH.mk a0.b a0.p) 3).bind fun y1=>some (y1.1 == 0,y1.2)) : Option (Bool × Int)).bind fun b1 =>
sel b1.1 ((gH (aH.mk a0.b b1.2)).bind fun y2 =>
some ((Expr.mk y2.1.Op y2.1.N y2.1.Args),y2.2)) <|
(j6 (aH.mk a0.b b1.2)).bind fun y3 =>
(gi (aH.mk a0.b y3.2) (w64 (a1 - 1))).bind fun y4 =>
(gi (aH.mk a0.b y4.2) (w64 (a1 - 1))).bind fun y5 =>
(jd y3.1 (Expr.mk y4.1.Op y4.1.N y4.1.Args) (Expr.mk y5.1.Op y5.1.N y5.1.Args)).bind fun y6 =>
some ((Expr.mk y6.Op y6.N y6.Args),y5.2)
def mG : Nat → (aH → Int → Option (Expr × Int))
 | 0=>((fun _ _=>none))
 | k + 1=>(gh k (mG k))
def dR (k : Nat) : aH → Int → Option (Expr × Int):=(mG k)
def je (k : Nat) (a0 : aH) : Option (au × Int):=
(ao (aH.mk a0.b a0.p) 3).bind fun y1 =>
(ao (aH.mk a0.b y1.2) 3).bind fun y2 =>
(dR k (aH.mk a0.b y2.2) (w64 (1 + y2.1))).bind fun y3 =>
some ((au.mk 1 y1.1 0 (Expr.mk y3.1.Op y3.1.N y3.1.Args) [] []),y3.2)
def jp (k : Nat) (a0 : aH) (a1 : Int) : Option (au × Int):=
sel (decide (a1 < 1)) ((je k (aH.mk a0.b a0.p)).bind fun y1 =>
some ((au.mk y1.1.Kind y1.1.Var y1.1.Box (Expr.mk y1.1.Expr.Op y1.1.Expr.N y1.1.Expr.Args) y1.1.Body y1.1.Else),y1.2)) <|
(ao (aH.mk a0.b a0.p) a1).bind fun y2 =>
(ao (aH.mk a0.b y2.2) 2).bind fun y3 =>
sel (y3.1 == 0) ((ao (aH.mk a0.b y3.2) 3).bind fun y4 =>
(dR k (aH.mk a0.b y4.2) (w64 (1 + y4.1))).bind fun y5 =>
some ((au.mk 4 0 y2.1 (Expr.mk y5.1.Op y5.1.N y5.1.Args) [] []),y5.2)) <|
(ao (aH.mk a0.b y3.2) 3).bind fun y6 =>
some ((au.mk 5 y6.1 y2.1 (Expr.mk 0 0 []) [] []),y6.2)
def j7 (a0 : aH) (a1 : Int) (a2 : Int) (a3 : Int) (a4 : Bool) (bi : aH → Int → Int → Bool → Option ((List au) × Int)) (s1 : (List au) × Int × Int) : Option (((List au) × Int × Int) ⊕ ((List au) × Int)):=
sel (decide (s1.2.1 < a3)) ((bi (aH.mk a0.b s1.2.2) a1 a2 a4).bind fun y4 =>
(app 112 s1.1 y4.1).bind fun r1 =>
some (.inl (r1,w64 (s1.2.1 + 1),y4.2))) <|
some (.inr (s1.1,s1.2.2))
def fI (k : Nat) (a8 : aH → Int → Int → Int → Bool → Option ((List au) × Int)) (bi : aH → Int → Int → Bool → Option ((List au) × Int)) (bU : aH → Int → Int → Bool → Option (au × Int)) (bA : aH → Int → Int → Option ((List au) × Int)) (a0 : aH) (a1 : Int) (a2 : Int) (a3 : Int) (a4 : Bool) : Option ((List au) × Int):=
(bH (j7 a0 a1 a2 a3 a4 bi) ([],0,a0.p)).bind fun y1 =>
some (y1.1,y1.2)
def gj (k : Nat) (a8 : aH → Int → Int → Int → Bool → Option ((List au) × Int)) (bi : aH → Int → Int → Bool → Option ((List au) × Int)) (bU : aH → Int → Int → Bool → Option (au × Int)) (bA : aH → Int → Int → Option ((List au) × Int)) (a0 : aH) (a1 : Int) (a2 : Int) (a3 : Bool) : Option ((List au) × Int):=
((ao (aH.mk a0.b a0.p) 10).bind fun y2 =>
(sel (y2.1 == 0) (some (y2.1 == 0)) <|
some (y2.1 == 1) : Option (Bool)).bind fun y3 =>
sel y3 ((je k (aH.mk a0.b y2.2)).bind fun y4 =>
some (.inr ([(au.mk y4.1.Kind y4.1.Var y4.1.Box (Expr.mk y4.1.Expr.Op y4.1.Expr.N y4.1.Expr.Args) y4.1.Body y4.1.Else)],y4.2))) <|
sel (y2.1 == 2) (sel (decide (a2 > 0)) ((bU (aH.mk a0.b y2.2) a1 a2 a3).bind fun y5 =>
some (.inr ([(au.mk y5.1.Kind y5.1.Var y5.1.Box (Expr.mk y5.1.Expr.Op y5.1.Expr.N y5.1.Expr.Args) y5.1.Body y5.1.Else)],y5.2))) <|
some (.inl y2.2)) <|
sel (y2.1 == 3) (sel ((decide (a2 > 0)) && a3) ((bA (aH.mk a0.b y2.2) a1 a2).bind fun y6 =>
some (.inr (y6.1,y6.2))) <|
some (.inl y2.2)) <|
(sel (y2.1 == 4) (some (y2.1 == 4)) <|
sel (y2.1 == 5) (some (y2.1 == 5)) <|
some (y2.1 == 6) : Option (Bool)).bind fun y7 =>
sel y7 ((jp k (aH.mk a0.b y2.2) a1).bind fun y8 =>
some (.inr ([(au.mk y8.1.Kind y8.1.Var y8.1.Box (Expr.mk y8.1.Expr.Op y8.1.Expr.N y8.1.Expr.Args) y8.1.Body y8.1.Else)],y8.2))) <|
sel (y2.1 == 7) (some (.inr ([(au.mk 6 0 0 (Expr.mk 0 0 []) [] [])],y2.2))) <|
some (.inl y2.2) : Option (Int ⊕ ((List au) × Int))).bind fun y1 =>
i6 y1 (fun o3=>(ao (aH.mk a0.b o3) 3).bind fun y9 =>
(dR k (aH.mk a0.b y9.2) (w64 (1 + y9.1))).bind fun y10 =>
some ([(au.mk 7 0 0 (Expr.mk y10.1.Op y10.1.N y10.1.Args) [] [])],y10.2)) (fun o4 =>
some o4)
def jq (k : Nat) (a8 : aH → Int → Int → Int → Bool → Option ((List au) × Int)) (bi : aH → Int → Int → Bool → Option ((List au) × Int)) (bU : aH → Int → Int → Bool → Option (au × Int)) (bA : aH → Int → Int → Option ((List au) × Int)) (a0 : aH) (a1 : Int) (a2 : Int) (a3 : Bool) : Option (au × Int):=
(ao (aH.mk a0.b a0.p) 2).bind fun y1 =>
(dR k (aH.mk a0.b y1.2) (w64 (1 + y1.1))).bind fun y2 =>
(ao (aH.mk a0.b y2.2) 3).bind fun y3 =>
(a8 (aH.mk a0.b y3.2) a1 (w64 (a2 - 1)) y3.1 a3).bind fun y4 =>
(ao (aH.mk a0.b y4.2) 3).bind fun y5 =>
(a8 (aH.mk a0.b y5.2) a1 (w64 (a2 - 1)) y5.1 a3).bind fun y6 =>
some ((au.mk 2 0 0 (Expr.mk y2.1.Op y2.1.N y2.1.Args) y4.1 y6.1),y6.2)
def gk (k : Nat) (a8 : aH → Int → Int → Int → Bool → Option ((List au) × Int)) (bi : aH → Int → Int → Bool → Option ((List au) × Int)) (bU : aH → Int → Int → Bool → Option (au × Int)) (bA : aH → Int → Int → Option ((List au) × Int)) (a0 : aH) (a1 : Int) (a2 : Int) : Option ((List au) × Int):=
(ao (aH.mk a0.b a0.p) 3).bind fun y1 =>
(a8 (aH.mk a0.b y1.2) a1 (w64 (a2 - 1)) y1.1 false).bind fun y2 =>
(dC 13 3).bind fun y3 =>
(dC 0 1).bind fun y4 =>
(jd 8 (Expr.mk y3.Op y3.N y3.Args) (Expr.mk y4.Op y4.N y4.Args)).bind fun y5 =>
(dC 13 3).bind fun y6 =>
(ao (aH.mk a0.b y2.2) 3).bind fun y7 =>
(dC 0 (w64 (1 + y7.1))).bind fun y8 =>
(jd 5 (Expr.mk y6.Op y6.N y6.Args) (Expr.mk y8.Op y8.N y8.Args)).bind fun y9 =>
(app 112 y2.1 [(au.mk 1 3 0 (Expr.mk y5.Op y5.N y5.Args) [] [])]).bind fun r1 =>
(dC 0 0).bind fun y10 =>
some ([(au.mk 1 3 0 (Expr.mk y10.Op y10.N y10.Args) [] []),(au.mk 3 0 0 (Expr.mk y9.Op y9.N y9.Args) r1 [])],y7.2)
def aM : Nat → (aH → Int → Int → Int → Bool → Option ((List au) × Int)) × (aH → Int → Int → Bool → Option ((List au) × Int)) × (aH → Int → Int → Bool → Option (au × Int)) × (aH → Int → Int → Option ((List au) × Int))
 | 0=>((fun _ _ _ _ _=>none),(fun _ _ _ _=>none),(fun _ _ _ _=>none),(fun _ _ _=>none))
 | k + 1=>(fI k (aM k).1 (aM k).2.1 (aM k).2.2.1 (aM k).2.2.2,gj k (aM k).1 (aM k).2.1 (aM k).2.2.1 (aM k).2.2.2,jq k (aM k).1 (aM k).2.1 (aM k).2.2.1 (aM k).2.2.2,gk k (aM k).1 (aM k).2.1 (aM k).2.2.1 (aM k).2.2.2)
def dx (k : Nat) : aH → Int → Int → Int → Bool → Option ((List au) × Int):=(aM k).1
def gI (k : Nat) : aH → Int → Int → Bool → Option ((List au) × Int):=(aM k).2.1
def lM (k : Nat) : aH → Int → Int → Bool → Option (au × Int):=(aM k).2.2.1
def jr (k : Nat) : aH → Int → Int → Option ((List au) × Int):=(aM k).2.2.2
def j8 (k : Nat) (s1 : (List au)) : Option (((List au)) ⊕ ((List au))):=
(du k s1).bind fun y6 =>
sel (decide (y6 > 16)) ((cut s1 0 (w64 ((s1.length : Int) - 1))).bind fun r1 =>
some (.inl r1)) <|
some (.inr s1)
def io (k : Nat) (a0 : aH) (a1 : Int) : Option ((List au) × Int):=
(ao (aH.mk a0.b a0.p) 6).bind fun y1 =>
(dx k (aH.mk a0.b y1.2) a1 3 (w64 (1 + y1.1)) true).bind fun y2 =>
(bH (j8 k) y2.1).bind fun y3 =>
some (y3,y2.2)
def bW (a0 : Int) : Option (Bool):=
(aJ a0 (-2147483648) 2147483647).bind fun y1 =>
some y1
def gl (a0 : Int) (a1 : Bool) : Option (Bool):=
sel a1 ((aJ a0 0 11).bind fun y1 =>
some y1) <|
some (a0 == 0)
def cA (a0 : ah) (a1 : Bool) (a2 : Bool) (a3 : Bool) : Option (Bool):=
(gl a0.Dst a1).bind fun y1 =>
(sel y1 ((gl a0.A a2).bind fun y2=>some y2) (some false) : Option (Bool)).bind fun b1 =>
(sel b1 ((gl a0.B a3).bind fun y3=>some y3) (some false) : Option (Bool)).bind fun b2 =>
some b2
def ee (a0 : ah) (a1 : Int) : Option (Bool):=
sel (a0.Op == 1) ((cA a0 true false false).bind fun y1 =>
(sel y1 ((bW a0.N).bind fun y2=>some y2) (some false) : Option (Bool)).bind fun b1 =>
some b1) <|
sel (a0.Op == 2) ((cA a0 true true false).bind fun y3 =>
some (y3 && (a0.N == 0))) <|
sel (a0.Op == 3) ((cA a0 true true true).bind fun y4 =>
(sel y4 ((eD a0.N).bind fun y5=>some y5) (some false) : Option (Bool)).bind fun b2 =>
some b2) <|
sel (a0.Op == 4) ((cA a0 false false false).bind fun y6 =>
some ((y6 && (decide (a0.N ≥ 0))) && (decide (a0.N < a1)))) <|
sel (a0.Op == 5) ((cA a0 false true false).bind fun y7 =>
some ((y7 && (decide (a0.N ≥ 0))) && (decide (a0.N < a1)))) <|
sel (a0.Op == 6) ((cA a0 false true false).bind fun y8 =>
(sel y8 ((aJ a0.N 0 2).bind fun y9=>some y9) (some false) : Option (Bool)).bind fun b3 =>
some b3) <|
sel (a0.Op == 7) ((cA a0 true false false).bind fun y10 =>
(sel y10 ((aJ a0.N 0 2).bind fun y11=>some y11) (some false) : Option (Bool)).bind fun b4 =>
some b4) <|
sel (a0.Op == 9) ((cA a0 false true false).bind fun y12 =>
some (y12 && (a0.N == 0))) <|
(sel (a0.Op == 8) (some (a0.Op == 8)) <|
some (a0.Op == 10) : Option (Bool)).bind fun y13 =>
sel y13 ((cA a0 false false false).bind fun y14 =>
some (y14 && (a0.N == 0))) <|
some false
def js (a0 : List ah) (s1 : Int) : Option (Int ⊕ (Bool ⊕ Unit)):=
sel (decide (s1 < (a0.length : Int))) ((nth a0 s1).bind fun x1 =>
(ee x1 (a0.length : Int)).bind fun y5 =>
sel (!y5) (some (.inr (.inl false))) <|
some (.inl (w64 (s1 + 1)))) <|
some (.inr (.inr ()))
def bL (a0 : List ah) : Option (Bool):=
(aJ (a0.length : Int) 1 600).bind fun y1 =>
sel (!y1) (some false) <|
(bH (js a0) 0).bind fun y2 =>
i6 y2 (fun o3=>some o3) (fun o4 =>
(nth a0 (w64 ((a0.length : Int) - 1))).bind fun x2 =>
(sel (x2.Op == 10) (some true) ((nth a0 (w64 ((a0.length : Int) - 1))).bind fun x3=>some (x3.Op == 4)) : Option (Bool)).bind fun b1 =>
some b1)
def dy (a0 : List ah) (a1 : Int) : Option ((List Int)):=
(nth a0 a1).bind fun x1 =>
sel (x1.Op == 10) (some []) <|
sel (x1.Op == 4) (some [x1.N]) <|
sel ((x1.Op == 5) && (decide (x1.N < (w64 (a1 + 1))))) (some [x1.N,w64 (a1 + 1)]) <|
sel ((x1.Op == 5) && (decide (x1.N > (w64 (a1 + 1))))) (some [w64 (a1 + 1),x1.N]) <|
some [w64 (a1 + 1)]
def ip (a0 : List ah) (a1 : List aY) (a2 : Int) : Option ((List Int)):=
(nth a0 a2).bind fun x1 =>
(sel (x1.Op != 5) (some true) ((nth a1 x1.A).bind fun x2=>some (x2.Kind != 1)) : Option (Bool)).bind fun b1 =>
sel b1 ((dy a0 a2).bind fun y1 =>
some y1) <|
(nth a1 x1.A).bind fun x3 =>
sel (x3.N == 0) (some [x1.N]) <|
some [w64 (a2 + 1)]
def fx (a0 : Bool) : Option (Int):=
sel a0 (some 1) <|
some 0
def eF (a0 : Int) (a1 : Int) (a2 : Bool) : Option (Int):=
sel a2 ((shO .shr .i64 a0 (aC .and .i64 a1 31)).bind fun d1 =>
some d1) <|
(shO .shl .i64 a0 (aC .and .i64 a1 31)).bind fun d2 =>
(bI d2).bind fun y1 =>
some y1
def fR (a0 : Int) (a1 : Int) : Option (Int):=
sel (a1 == 0) (some (-1)) <|
(pK .i64 a0 a1).bind fun d1 =>
(bI d1).bind fun y1 =>
some y1
def fS (a0 : Int) (a1 : Int) : Option (Int):=
sel (a1 == 0) (some a0) <|
(nL a0 a1).bind fun d1 =>
some d1
def gm (a0 : Int) (a1 : Int) (a2 : Int) : Option (Int × Bool):=
(eD a0).bind fun y1 =>
(sel (!y1) (some true) ((bW a1).bind fun y2=>some (!y2)) : Option (Bool)).bind fun b1 =>
(sel b1 (some true) ((bW a2).bind fun y3=>some (!y3)) : Option (Bool)).bind fun b2 =>
sel b2 (some (0,false)) <|
sel (a0 == 1) (some (aC .or .i64 a1 a2,true)) <|
sel (a0 == 2) (some (aC .xor .i64 a1 a2,true)) <|
sel (a0 == 3) (some (aC .and .i64 a1 a2,true)) <|
sel (a0 == 4) ((fx (a1 == a2)).bind fun y4 =>
some (y4,true)) <|
sel (a0 == 5) ((fx (decide (a1 < a2))).bind fun y5 =>
some (y5,true)) <|
sel (a0 == 6) ((eF a1 a2 false).bind fun y6 =>
some (y6,true)) <|
sel (a0 == 7) ((eF a1 a2 true).bind fun y7 =>
some (y7,true)) <|
sel (a0 == 8) ((bI (w64 (a1 + a2))).bind fun y8 =>
some (y8,true)) <|
sel (a0 == 9) ((bI (w64 (a1 - a2))).bind fun y9 =>
some (y9,true)) <|
sel (a0 == 10) ((bI (w64 (a1 * a2))).bind fun y10 =>
some (y10,true)) <|
sel (a0 == 11) ((fR a1 a2).bind fun y11 =>
some (y11,true)) <|
(fS a1 a2).bind fun y12 =>
some (y12,true)
def eZ (a0 : ah) (a1 : aY) (a2 : aY) : Option (aY):=
sel ((a1.Kind != 1) || (a2.Kind != 1)) (some (aY.mk 2 0)) <|
(gm a0.N a1.N a2.N).bind fun y1 =>
some (aY.mk 1 y1.1)
def iq (a0 : ah) (a1 : List aY) : Option ((List aY)):=
(app 16 [] a1).bind fun r1 =>
sel (a0.Op == 1) ((nth r1 a0.Dst).bind fun x1 =>
(upd r1 a0.Dst (aY.mk 1 a0.N)).bind fun r2 =>
some r2) <|
sel (a0.Op == 2) ((nth a1 a0.A).bind fun x2 =>
(nth r1 a0.Dst).bind fun x3 =>
(upd r1 a0.Dst x2).bind fun r3 =>
some r3) <|
sel (a0.Op == 7) ((nth r1 a0.Dst).bind fun x4 =>
(upd r1 a0.Dst (aY.mk 2 0)).bind fun r4 =>
some r4) <|
sel (a0.Op == 3) ((nth a1 a0.A).bind fun x5 =>
(nth a1 a0.B).bind fun x6 =>
(eZ a0 x5 x6).bind fun y1 =>
(nth r1 a0.Dst).bind fun x7 =>
(upd r1 a0.Dst y1).bind fun r5 =>
some r5) <|
some r1
def jt (a0 : aY) (a1 : aY) : Option (aY):=
sel (a0.Kind == 0) (some a1) <|
sel ((a1.Kind == 0) || ((a0.Kind == a1.Kind) && ((a0.N == a1.N) && true))) (some a0) <|
some (aY.mk 2 0)
def j9 (a1 : Int) (a2 : List aY) (s1 : Bool × Int × (List (List aY))) : Option ((Bool × Int × (List (List aY))) ⊕ (Bool × (List (List aY)))):=
sel (decide (s1.2.1 < 12)) (((nth s1.2.2 a1).bind fun x1 =>
(nth x1 s1.2.1).bind fun x4 =>
(nth a2 s1.2.1).bind fun x5 =>
(jt x4 x5).bind fun y6 =>
(nth s1.2.2 a1).bind fun x6 =>
(nth x6 s1.2.1).bind fun x8 =>
sel (!((y6.Kind == x8.Kind) && ((y6.N == x8.N) && true))) ((nth x6 s1.2.1).bind fun x9 =>
(upd x6 s1.2.1 y6).bind fun r1 =>
some (true,(s1.2.2.set (Int.toNat a1) r1))) <|
some (s1.1,s1.2.2) : Option (Bool × (List (List aY)))).bind fun y4 =>
some (.inl (y4.1,w64 (s1.2.1 + 1),y4.2))) <|
some (.inr (s1.1,s1.2.2))
def ir (a0 : List (List aY)) (a1 : Int) (a2 : List aY) : Option (Bool × (List (List aY))):=
(bH (j9 a1 a2) (false,0,a0)).bind fun y1 =>
some (y1.1,y1.2)
def ka (y5 : (List Int)) (y6 : (List aY)) (s2 : Bool × Int × (List (List aY))) : Option ((Bool × Int × (List (List aY))) ⊕ (Bool × (List (List aY)))):=
sel (decide (s2.2.1 < (y5.length : Int))) (((nth y5 s2.2.1).bind fun x4 =>
(ir s2.2.2 x4 y6).bind fun y11 =>
sel y11.1 (some (true,y11.2)) <|
some (s2.1,y11.2) : Option (Bool × (List (List aY)))).bind fun y10 =>
some (.inl (y10.1,w64 (s2.2.1 + 1),y10.2))) <|
some (.inr (s2.1,s2.2.2))
def kc (a0 : List ah) (s1 : Bool × Int × (List (List aY))) : Option ((Bool × Int × (List (List aY))) ⊕ (Bool × (List (List aY)))):=
sel (decide (s1.2.1 < (a0.length : Int))) (((nth s1.2.2 s1.2.1).bind fun x1 =>
(nth x1 0).bind fun x2 =>
sel (x2.Kind == 0) (some (s1.1,s1.2.2)) <|
(ip a0 x1 s1.2.1).bind fun y5 =>
(nth a0 s1.2.1).bind fun x3 =>
(iq x3 x1).bind fun y6 =>
(bH (ka y5 y6) (s1.1,0,s1.2.2)).bind fun y7 =>
some (y7.1,y7.2) : Option (Bool × (List (List aY)))).bind fun y4 =>
some (.inl (y4.1,w64 (s1.2.1 + 1),y4.2))) <|
some (.inr (s1.1,s1.2.2))
def iu (a0 : List ah) (a1 : List (List aY)) : Option (Bool × (List (List aY))):=
(bH (kc a0) (false,0,a1)).bind fun y1 =>
some (y1.1,y1.2)
def kZ (a0 : List ah) (s1 : (List (List aY)) × Int) : Option (((List (List aY)) × Int) ⊕ ((List (List aY)))):=
sel (decide (s1.2 < (a0.length : Int))) ((mk 16 12 (aY.mk 0 0)).bind fun r1 =>
(app 24 s1.1 [r1]).bind fun r2 =>
some (.inl (r2,w64 (s1.2 + 1)))) <|
some (.inr s1.1)
def k8 (s2 : Int × (List (List aY))) : Option ((Int × (List (List aY))) ⊕ ((List (List aY)))):=
sel (decide (s2.1 < 12)) ((nth s2.2 0).bind fun x1 =>
(nth x1 s2.1).bind fun x2 =>
(upd x1 s2.1 (aY.mk 1 0)).bind fun r3 =>
some (.inl (w64 (s2.1 + 1),(s2.2.set (Int.toNat 0) r3)))) <|
some (.inr s2.2)
def k9 (a0 : List ah) (s3 : (List (List aY))) : Option (((List (List aY))) ⊕ ((List (List aY)))):=
(iu a0 s3).bind fun y11 =>
sel y11.1 (some (.inl y11.2)) <|
some (.inr y11.2)
def ju (a0 : List ah) : Option ((List (List aY))):=
(bL a0).bind fun y1 =>
sel (!y1) (some []) <|
(bH (kZ a0) ([],0)).bind fun y2 =>
(bH (k8) (0,y2)).bind fun y5 =>
(bH (k9 a0) y5).bind fun y8 =>
some y8
def eK (a0 : aY) (a1 : Int) : Option (Bool):=
some ((a0.Kind == 1) && (a0.N == a1))
def lN (a0 : List Int) (a1 : Int) (s1 : Int) : Option (Int ⊕ (Bool ⊕ Unit)):=
sel (decide (s1 < (a0.length : Int))) ((nth a0 s1).bind fun x1 =>
sel (x1 == a1) (some (.inr (.inl true))) <|
some (.inl (w64 (s1 + 1)))) <|
some (.inr (.inr ()))
def kS (a0 : List Int) (a1 : Int) : Option (Bool):=
(bH (lN a0 a1) 0).bind fun y1 =>
i6 y1 (fun o3=>some o3) (fun o4 =>
some false)
def fy (a0 : Int) (a1 : List Int) : Option (Bool):=
(kS a1 a0).bind fun y1 =>
some y1
def kT (a0 : ah) (a1 : aY) (a2 : aY) : Option (ah):=
(eZ a0 a1 a2).bind fun y1 =>
sel (y1.Kind == 1) (some (ah.mk 1 a0.Dst 0 0 y1.N)) <|
(eK a2 0).bind fun y2 =>
(sel y2 ((fy a0.N [1,2,6,7,8,9]).bind fun y3=>some y3) (some false) : Option (Bool)).bind fun b1 =>
sel b1 (some (ah.mk 2 a0.Dst a0.A 0 0)) <|
(eK a2 1).bind fun y4 =>
(sel y4 ((fy a0.N [10,11]).bind fun y5=>some y5) (some false) : Option (Bool)).bind fun b2 =>
sel b2 (some (ah.mk 2 a0.Dst a0.A 0 0)) <|
(eK a1 0).bind fun y6 =>
(sel y6 ((fy a0.N [1,2,8]).bind fun y7=>some y7) (some false) : Option (Bool)).bind fun b3 =>
sel b3 (some (ah.mk 2 a0.Dst a0.B 0 0)) <|
(eK a1 1).bind fun y8 =>
sel (y8 && (a0.N == 10)) (some (ah.mk 2 a0.Dst a0.B 0 0)) <|
(eK a1 0).bind fun y9 =>
(sel y9 (some true) ((eK a2 0).bind fun y10=>some y10) : Option (Bool)).bind fun b4 =>
(sel b4 ((fy a0.N [3,10]).bind fun y11=>some y11) (some false) : Option (Bool)).bind fun b5 =>
sel b5 (some (ah.mk 1 a0.Dst 0 0 0)) <|
some a0
def jv (a0 : ah) (a1 : List aY) (a2 : Int) : Option (ah):=
(nth a1 0).bind fun x1 =>
sel (x1.Kind == 0) (some a0) <|
sel (a0.Op == 2) ((nth a1 a0.A).bind fun x2 =>
sel (x2.Kind == 1) ((nth a1 a0.A).bind fun x3 =>
some (ah.mk 1 a0.Dst 0 0 x3.N)) <|
some a0) <|
sel (a0.Op == 3) ((nth a1 a0.A).bind fun x4 =>
(nth a1 a0.B).bind fun x5 =>
(kT a0 x4 x5).bind fun y1 =>
some y1) <|
sel (a0.Op == 5) ((nth a1 a0.A).bind fun x6 =>
(eK x6 0).bind fun y2 =>
sel y2 (some (ah.mk 4 0 0 0 a0.N)) <|
(nth a1 a0.A).bind fun x7 =>
sel (x7.Kind == 1) (some (ah.mk 4 0 0 0 (w64 (a2 + 1)))) <|
some a0) <|
some a0
def gJ (a0 : List ah) (y2 : (List (List aY))) (s1 : (List ah) × Int) : Option (((List ah) × Int) ⊕ ((List ah))):=
sel (decide (s1.2 < (a0.length : Int))) ((nth y2 s1.2).bind fun x1 =>
(nth a0 s1.2).bind fun x3 =>
(jv x3 x1 s1.2).bind fun y7 =>
(app 40 s1.1 [y7]).bind fun r2 =>
some (.inl (r2,w64 (s1.2 + 1)))) <|
some (.inr s1.1)
def iw (a0 : List ah) : Option ((List ah) × Bool):=
(bL a0).bind fun y1 =>
sel (!y1) (some ([],false)) <|
(ju a0).bind fun y2 =>
(bH (gJ a0 y2) ([],0)).bind fun y3 =>
some (y3,true)
def lc (s1 : (List Int) × Int) : Option (((List Int) × Int) ⊕ ((List Int))):=
sel (decide (s1.2 < 12)) ((app 8 s1.1 [s1.2]).bind fun r1 =>
some (.inl (r1,w64 (s1.2 + 1)))) <|
some (.inr s1.1)
def gK : Option ((List Int)):=
(bH (lc) ([],0)).bind fun y1 =>
some y1
def dz (a0 : ah) : Option (Int):=
(ee a0 600).bind fun y1 =>
sel (!y1) (some (-1)) <|
(sel (a0.Op == 1) (some (a0.Op == 1)) <|
sel (a0.Op == 2) (some (a0.Op == 2)) <|
sel (a0.Op == 3) (some (a0.Op == 3)) <|
some (a0.Op == 7) : Option (Bool)).bind fun y2 =>
sel y2 (some a0.Dst) <|
some (-1)
def kd (y1 : Int) (s1 : Int × (List Int)) : Option ((Int × (List Int)) ⊕ ((List Int))):=
sel (decide (s1.1 < 12)) (((nth s1.2 s1.1).bind fun x1 =>
sel (x1 == y1) ((nth s1.2 s1.1).bind fun x2 =>
(upd s1.2 s1.1 s1.1).bind fun r2 =>
some r2) <|
some s1.2 : Option ((List Int))).bind fun y5 =>
some (.inl (w64 (s1.1 + 1),y5))) <|
some (.inr s1.2)
def iy (a0 : ah) (a1 : List Int) : Option ((List Int)):=
(app 8 [] a1).bind fun r1 =>
(dz a0).bind fun y1 =>
sel (decide (y1 < 0)) (some r1) <|
(bH (kd y1) (0,r1)).bind fun y2 =>
(nth y2 y1).bind fun x3 =>
(upd y2 y1 y1).bind fun r3 =>
sel (a0.Op == 2) ((nth r3 y1).bind fun x4 =>
(upd r3 y1 a0.A).bind fun r4 =>
some r4) <|
some r3
def ke (a1 : Int) (a2 : List Int) (s1 : Bool × Int × (List (List Int))) : Option ((Bool × Int × (List (List Int))) ⊕ (Bool × (List (List Int)))):=
sel (decide (s1.2.1 < 12)) (((nth s1.2.2 a1).bind fun x2 =>
(nth x2 s1.2.1).bind fun x6 =>
(sel (x6 != s1.2.1) ((nth x2 s1.2.1).bind fun b_1=>(nth a2 s1.2.1).bind fun b_2=>some (b_1 != b_2)) (some false)).bind fun b2 =>
sel b2 ((nth s1.2.2 a1).bind fun x9 =>
(nth x9 s1.2.1).bind fun x10 =>
(upd x9 s1.2.1 s1.2.1).bind fun r2 =>
some (true,(s1.2.2.set (Int.toNat a1) r2))) <|
some (s1.1,s1.2.2) : Option (Bool × (List (List Int)))).bind fun y4 =>
some (.inl (y4.1,w64 (s1.2.1 + 1),y4.2))) <|
some (.inr (s1.1,s1.2.2))
def iz (a0 : List (List Int)) (a1 : Int) (a2 : List Int) : Option (Bool × (List (List Int))):=
(nth a0 a1).bind fun x1 =>
sel ((x1.length : Int) == 0) ((app 8 [] a2).bind fun r1 =>
some (true,(a0.set (Int.toNat a1) r1))) <|
(bH (ke a1 a2) (false,0,a0)).bind fun y1 =>
some (y1.1,y1.2)
def kf (y5 : (List Int)) (y6 : (List Int)) (s2 : Bool × Int × (List (List Int))) : Option ((Bool × Int × (List (List Int))) ⊕ (Bool × (List (List Int)))):=
sel (decide (s2.2.1 < (y5.length : Int))) (((nth y5 s2.2.1).bind fun x3 =>
(iz s2.2.2 x3 y6).bind fun y11 =>
sel y11.1 (some (true,y11.2)) <|
some (s2.1,y11.2) : Option (Bool × (List (List Int)))).bind fun y10 =>
some (.inl (y10.1,w64 (s2.2.1 + 1),y10.2))) <|
some (.inr (s2.1,s2.2.2))
def kg (a0 : List ah) (s1 : Bool × Int × (List (List Int))) : Option ((Bool × Int × (List (List Int))) ⊕ (Bool × (List (List Int)))):=
sel (decide (s1.2.1 < (a0.length : Int))) (((nth s1.2.2 s1.2.1).bind fun x1 =>
sel ((x1.length : Int) == 0) (some (s1.1,s1.2.2)) <|
(dy a0 s1.2.1).bind fun y5 =>
(nth a0 s1.2.1).bind fun x2 =>
(iy x2 x1).bind fun y6 =>
(bH (kf y5 y6) (s1.1,0,s1.2.2)).bind fun y7 =>
some (y7.1,y7.2) : Option (Bool × (List (List Int)))).bind fun y4 =>
some (.inl (y4.1,w64 (s1.2.1 + 1),y4.2))) <|
some (.inr (s1.1,s1.2.2))
def iA (a0 : List ah) (a1 : List (List Int)) : Option (Bool × (List (List Int))):=
(bH (kg a0) (false,0,a1)).bind fun y1 =>
some (y1.1,y1.2)
def kh (a0 : List ah) (s1 : (List (List Int)) × Int) : Option (((List (List Int)) × Int) ⊕ ((List (List Int)))):=
sel (decide (s1.2 < (a0.length : Int))) ((app 24 s1.1 [[]]).bind fun r1 =>
some (.inl (r1,w64 (s1.2 + 1)))) <|
some (.inr s1.1)
def ki (a0 : List ah) (s2 : (List (List Int))) : Option (((List (List Int))) ⊕ ((List (List Int)))):=
(iA a0 s2).bind fun y9 =>
sel y9.1 (some (.inl y9.2)) <|
some (.inr y9.2)
def kj (a0 : List ah) (s3 : Int × (List (List Int))) : Option ((Int × (List (List Int))) ⊕ ((List (List Int)))):=
sel (decide (s3.1 < (a0.length : Int))) (((nth s3.2 s3.1).bind fun x2 =>
sel ((x2.length : Int) == 0) ((gK).bind fun y14 =>
some (s3.2.set (Int.toNat s3.1) y14)) <|
some s3.2 : Option ((List (List Int)))).bind fun y13 =>
some (.inl (w64 (s3.1 + 1),y13))) <|
some (.inr s3.2)
def iB (a0 : List ah) : Option ((List (List Int))):=
(bL a0).bind fun y1 =>
sel (!y1) (some []) <|
(bH (kh a0) ([],0)).bind fun y2 =>
(gK).bind fun y5 =>
(nth y2 0).bind fun x1 =>
(bH (ki a0) (y2.set (Int.toNat 0) y5)).bind fun y6 =>
(bH (kj a0) (0,y6)).bind fun y10 =>
some y10
def jw (a0 : ah) (a1 : List Int) : Option (ah):=
(sel (a0.Op == 2) (some (a0.Op == 2)) <|
sel (a0.Op == 5) (some (a0.Op == 5)) <|
sel (a0.Op == 6) (some (a0.Op == 6)) <|
some (a0.Op == 9) : Option (Bool)).bind fun y1 =>
sel y1 ((nth a1 a0.A).bind fun x1 =>
some (ah.mk a0.Op a0.Dst x1 a0.B a0.N)) <|
sel (a0.Op == 3) ((nth a1 a0.A).bind fun x2 =>
(nth a1 a0.B).bind fun x3 =>
some (ah.mk a0.Op a0.Dst x2 x3 a0.N)) <|
some a0
def gL (a0 : List ah) (y2 : (List (List Int))) (s1 : (List ah) × Int) : Option (((List ah) × Int) ⊕ ((List ah))):=
sel (decide (s1.2 < (a0.length : Int))) ((nth y2 s1.2).bind fun x1 =>
(nth a0 s1.2).bind fun x3 =>
(jw x3 x1).bind fun y7 =>
(app 40 s1.1 [y7]).bind fun r2 =>
some (.inl (r2,w64 (s1.2 + 1)))) <|
some (.inr s1.1)
def iC (a0 : List ah) : Option ((List ah) × Bool):=
(bL a0).bind fun y1 =>
sel (!y1) (some ([],false)) <|
(iB a0).bind fun y2 =>
(bH (gL a0 y2) ([],0)).bind fun y3 =>
some (y3,true)
def jx (a0 : List ah) (s1 : Int × Int) : Option ((Int × Int) ⊕ (Int ⊕ Unit)):=
sel (decide (s1.2 < (a0.length : Int))) ((nth a0 s1.1).bind fun x1 =>
sel (x1.Op != 4) (some (.inr (.inl s1.1))) <|
(nth a0 s1.1).bind fun x2 =>
some (.inl (x2.N,w64 (s1.2 + 1)))) <|
some (.inr (.inr ()))
def gn (a0 : List ah) (a1 : Int) : Option (Int):=
(bH (jx a0) (a1,0)).bind fun y1 =>
i6 y1 (fun o3=>some o3) (fun o4 =>
some a1)
def gM (a0 : List ah) (s1 : (List ah) × Int) : Option (((List ah) × Int) ⊕ ((List ah))):=
sel (decide (s1.2 < (a0.length : Int))) ((nth a0 s1.2).bind fun x1 =>
(sel ((x1.Op == 4) || (x1.Op == 5)) ((gn a0 x1.N).bind fun y6 =>
some (ah.mk x1.Op x1.Dst x1.A x1.B y6)) <|
some x1 : Option (ah)).bind fun y5 =>
(app 40 s1.1 [y5]).bind fun r1 =>
some (.inl (r1,w64 (s1.2 + 1)))) <|
some (.inr s1.1)
def iE (a0 : List ah) : Option ((List ah) × Bool):=
(bL a0).bind fun y1 =>
sel (!y1) (some ([],false)) <|
(bH (gM a0) ([],0)).bind fun y2 =>
some (y2,true)
def kl (a1 : List (List Bool)) (y1 : (List Int)) (s1 : Int × (List Bool)) (s2 : Int × (List Bool)) : Option ((Int × (List Bool)) ⊕ ((List Bool))):=
sel (decide (s2.1 < 12)) ((nth s2.2 s2.1).bind fun x1 =>
(sel x1 (some true) ((nth y1 s1.1).bind fun x2=>(nth a1 x2).bind fun x3=>(nth x3 s2.1).bind fun x4=>some x4) : Option (Bool)).bind fun b1 =>
(nth s2.2 s2.1).bind fun x5 =>
(upd s2.2 s2.1 b1).bind fun r2 =>
some (.inl (w64 (s2.1 + 1),r2))) <|
some (.inr s2.2)
def km (a1 : List (List Bool)) (y1 : (List Int)) (s1 : Int × (List Bool)) : Option ((Int × (List Bool)) ⊕ ((List Bool))):=
sel (decide (s1.1 < (y1.length : Int))) ((bH (kl a1 y1 s1) (0,s1.2)).bind fun y5 =>
some (.inl (w64 (s1.1 + 1),y5))) <|
some (.inr s1.2)
def fT (a0 : List ah) (a1 : List (List Bool)) (a2 : Int) : Option ((List Bool)):=
(mk 1 12 false).bind fun r1 =>
(dy a0 a2).bind fun y1 =>
(bH (km a1 y1) (0,r1)).bind fun y2 =>
some y2
def iG (a0 : ah) : Option ((List Int)):=
(ee a0 600).bind fun y1 =>
sel (!y1) (some []) <|
(sel (a0.Op == 2) (some (a0.Op == 2)) <|
sel (a0.Op == 5) (some (a0.Op == 5)) <|
sel (a0.Op == 6) (some (a0.Op == 6)) <|
some (a0.Op == 9) : Option (Bool)).bind fun y2 =>
sel y2 (some [a0.A]) <|
sel (a0.Op == 3) (sel (a0.A == a0.B) (some [a0.A]) <|
some [min a0.A a0.B,max a0.A a0.B]) <|
some []
def jy (y4 : (List Int)) (s1 : Int × (List Bool)) : Option ((Int × (List Bool)) ⊕ ((List Bool))):=
sel (decide (s1.1 < (y4.length : Int))) ((nth y4 s1.1).bind fun x2 =>
(nth s1.2 x2).bind fun x3 =>
(upd s1.2 x2 true).bind fun r3 =>
some (.inl (w64 (s1.1 + 1),r3))) <|
some (.inr s1.2)
def gp (a0 : ah) (a1 : List Bool) : Option ((List Bool)):=
(app 1 [] a1).bind fun r1 =>
((dz a0).bind fun y2 =>
sel (decide (y2 ≥ 0)) ((dz a0).bind fun y3 =>
(nth r1 y3).bind fun x1 =>
(upd r1 y3 false).bind fun r2 =>
some r2) <|
some r1 : Option ((List Bool))).bind fun y1 =>
(iG a0).bind fun y4 =>
(bH (jy y4) (0,y1)).bind fun y5 =>
some y5
def lf (a0 : List Bool) (a1 : List Bool) (s1 : Int) : Option (Int ⊕ (Bool ⊕ Unit)):=
sel (decide (s1 < (a0.length : Int))) ((nth a0 s1).bind fun x1 =>
(nth a1 s1).bind fun x2 =>
sel (x1 != x2) (some (.inr (.inl false))) <|
some (.inl (w64 (s1 + 1)))) <|
some (.inr (.inr ()))
def jz (a0 : List Bool) (a1 : List Bool) : Option (Bool):=
(bH (lf a0 a1) 0).bind fun y1 =>
i6 y1 (fun o3=>some o3) (fun o4 =>
some ((a0.length : Int) == (a1.length : Int)))
def ko (a0 : List ah) (s1 : Bool × Int × (List (List Bool))) : Option ((Bool × Int × (List (List Bool))) ⊕ (Bool × (List (List Bool)))):=
sel (decide (s1.2.1 ≥ 0)) (((nth a0 s1.2.1).bind fun x1 =>
(fT a0 s1.2.2 s1.2.1).bind fun y5 =>
(gp x1 y5).bind fun y6 =>
(nth s1.2.2 s1.2.1).bind fun x2 =>
(jz y6 x2).bind fun y7 =>
sel (!y7) (some (true,(s1.2.2.set (Int.toNat s1.2.1) y6))) <|
some (s1.1,s1.2.2) : Option (Bool × (List (List Bool)))).bind fun y4 =>
some (.inl (y4.1,w64 (s1.2.1 - 1),y4.2))) <|
some (.inr (s1.1,s1.2.2))
def iH (a0 : List ah) (a1 : List (List Bool)) : Option (Bool × (List (List Bool))):=
(bH (ko a0) (false,w64 ((a0.length : Int) - 1),a1)).bind fun y1 =>
some (y1.1,y1.2)
def lO (a0 : List ah) (s1 : (List (List Bool)) × Int) : Option (((List (List Bool)) × Int) ⊕ ((List (List Bool)))):=
sel (decide (s1.2 < (a0.length : Int))) ((mk 1 12 false).bind fun r1 =>
(app 24 s1.1 [r1]).bind fun r2 =>
some (.inl (r2,w64 (s1.2 + 1)))) <|
some (.inr s1.1)
def lP (a0 : List ah) (s2 : (List (List Bool))) : Option (((List (List Bool))) ⊕ ((List (List Bool)))):=
(iH a0 s2).bind fun y8 =>
sel y8.1 (some (.inl y8.2)) <|
some (.inr y8.2)
def kU (a0 : List ah) : Option ((List (List Bool))):=
(bL a0).bind fun y1 =>
sel (!y1) (some []) <|
(bH (lO a0) ([],0)).bind fun y2 =>
(bH (lP a0) y2).bind fun y5 =>
some y5
def jA (a0 : ah) (a1 : List Bool) : Option (Bool):=
(sel (a0.Op == 1) (some (a0.Op == 1)) <|
sel (a0.Op == 2) (some (a0.Op == 2)) <|
some (a0.Op == 3) : Option (Bool)).bind fun y1 =>
sel y1 ((nth a1 a0.Dst).bind fun x1 =>
some (!x1)) <|
some false
def gN (a0 : List ah) (y2 : (List (List Bool))) (s1 : (List ah) × Int) : Option (((List ah) × Int) ⊕ ((List ah))):=
sel (decide (s1.2 < (a0.length : Int))) ((nth a0 s1.2).bind fun x1 =>
((fT a0 y2 s1.2).bind fun y7 =>
(jA x1 y7).bind fun y8 =>
sel y8 (some (ah.mk 4 0 0 0 (w64 (s1.2 + 1)))) <|
some x1 : Option (ah)).bind fun y6 =>
(app 40 s1.1 [y6]).bind fun r1 =>
some (.inl (r1,w64 (s1.2 + 1)))) <|
some (.inr s1.1)
def iI (a0 : List ah) : Option ((List ah) × Bool):=
(bL a0).bind fun y1 =>
sel (!y1) (some ([],false)) <|
(kU a0).bind fun y2 =>
(bH (gN a0 y2) ([],0)).bind fun y3 =>
some (y3,true)
def jB (y5 : (List Int)) (s2 : Bool × Int × (List Bool)) : Option ((Bool × Int × (List Bool)) ⊕ (Bool × (List Bool))):=
sel (decide (s2.2.1 < (y5.length : Int))) (((nth y5 s2.2.1).bind fun x2 =>
(nth s2.2.2 x2).bind fun x3 =>
sel (!x3) ((nth y5 s2.2.1).bind fun x4 =>
(nth s2.2.2 x4).bind fun x5 =>
(upd s2.2.2 x4 true).bind fun r1 =>
some (true,r1)) <|
some (s2.1,s2.2.2) : Option (Bool × (List Bool))).bind fun y9 =>
some (.inl (y9.1,w64 (s2.2.1 + 1),y9.2))) <|
some (.inr (s2.1,s2.2.2))
def jC (a0 : List ah) (s1 : Bool × Int × (List Bool)) : Option ((Bool × Int × (List Bool)) ⊕ (Bool × (List Bool))):=
sel (decide (s1.2.1 < (a0.length : Int))) (((nth s1.2.2 s1.2.1).bind fun x1 =>
sel (!x1) (some (s1.1,s1.2.2)) <|
(dy a0 s1.2.1).bind fun y5 =>
(bH (jB y5) (s1.1,0,s1.2.2)).bind fun y6 =>
some (y6.1,y6.2) : Option (Bool × (List Bool))).bind fun y4 =>
some (.inl (y4.1,w64 (s1.2.1 + 1),y4.2))) <|
some (.inr (s1.1,s1.2.2))
def gq (a0 : List ah) (a1 : List Bool) : Option (Bool × (List Bool)):=
(bH (jC a0) (false,0,a1)).bind fun y1 =>
some (y1.1,y1.2)
def jD (a0 : List ah) (s1 : (List Bool)) : Option (((List Bool)) ⊕ ((List Bool))):=
(gq a0 s1).bind fun y5 =>
sel y5.1 (some (.inl y5.2)) <|
some (.inr y5.2)
def gr (a0 : List ah) : Option ((List Bool)):=
(bL a0).bind fun y1 =>
sel (!y1) (some []) <|
(mk 1 (a0.length : Int) false).bind fun r1 =>
(nth r1 0).bind fun x1 =>
(upd r1 0 true).bind fun r2 =>
(bH (jD a0) r2).bind fun y2 =>
some y2
def jE (a0 : ah) (a1 : Int) : Option (Bool):=
(sel (a0.Op == 4) (some (a0.Op == 4)) <|
some (a0.Op == 5) : Option (Bool)).bind fun y1 =>
sel y1 (some (a0.N == (w64 (a1 + 1)))) <|
sel (a0.Op == 2) (some (a0.Dst == a0.A)) <|
some false
def kr (a0 : List Bool) (a1 : Int) (s1 : Int × Int) : Option ((Int × Int) ⊕ Int):=
sel (decide (s1.2 < a1)) (((nth a0 s1.2).bind fun x1 =>
sel x1 (some (w64 (s1.1 + 1))) <|
some s1.1 : Option (Int)).bind fun y4 =>
some (.inl (y4,w64 (s1.2 + 1)))) <|
some (.inr s1.1)
def iJ (a0 : List Bool) (a1 : Int) : Option (Int):=
(bH (kr a0 a1) (0,0)).bind fun y1 =>
some y1
def ie (a0 : List ah) (s1 : Int × (List Bool)) : Option ((Int × (List Bool)) ⊕ ((List Bool))):=
sel (decide (s1.1 < (a0.length : Int))) ((nth s1.2 s1.1).bind fun x1 =>
(sel x1 ((nth a0 s1.1).bind fun x2=>(jE x2 s1.1).bind fun y6=>some (!y6)) (some false) : Option (Bool)).bind fun b1 =>
(nth s1.2 s1.1).bind fun x3 =>
(upd s1.2 s1.1 b1).bind fun r1 =>
some (.inl (w64 (s1.1 + 1),r1))) <|
some (.inr s1.2)
def ig (a0 : List ah) (y3 : (List Bool)) (s2 : (List ah) × Int) : Option (((List ah) × Int) ⊕ ((List ah))):=
sel (decide (s2.2 < (a0.length : Int))) (((nth a0 s2.2).bind fun x4 =>
(nth y3 s2.2).bind fun x5 =>
sel (!x5) (some s2.1) <|
(sel ((x4.Op == 4) || (x4.Op == 5)) ((iJ y3 x4.N).bind fun y12 =>
some (ah.mk x4.Op x4.Dst x4.A x4.B y12)) <|
some x4 : Option (ah)).bind fun y11 =>
(app 40 s2.1 [y11]).bind fun r2 =>
some r2 : Option ((List ah))).bind fun y10 =>
some (.inl (y10,w64 (s2.2 + 1)))) <|
some (.inr s2.1)
def fb (a0 : List ah) : Option ((List ah) × Bool):=
(bL a0).bind fun y1 =>
sel (!y1) (some ([],false)) <|
(gr a0).bind fun y2 =>
(bH (ie a0) (0,y2)).bind fun y3 =>
(bH (ig a0 y3) ([],0)).bind fun y7 =>
some (y7,true)
def jF (a0 : List ah) : Option ((List ah)):=
(iw a0).bind fun y1 =>
(iC y1.1).bind fun y2 =>
(iE y2.1).bind fun y3 =>
(iI y3.1).bind fun y4 =>
(fb y4.1).bind fun y5 =>
some y5.1
def gu (a1 : Int) (s1 : (List ah) × Int) : Option (((List ah) × Int) ⊕ ((List ah))):=
sel (decide (s1.2 < a1)) ((jF s1.1).bind fun y6 =>
some (.inl (y6,w64 (s1.2 + 1)))) <|
some (.inr s1.1)
def eG (a0 : List ah) (a1 : Int) : Option ((List ah) × Bool):=
(bL a0).bind fun y1 =>
(sel (!y1) (some true) ((aJ a1 0 4).bind fun y2=>some (!y2)) : Option (Bool)).bind fun b1 =>
sel b1 (some ([],false)) <|
(app 40 [] a0).bind fun r1 =>
(bH (gu a1) (r1,0)).bind fun y3 =>
some (y3,true)
def jG (k : Nat) (a0 : aH) : Option ((List ah) × Int):=
(ao (aH.mk a0.b a0.p) 2).bind fun y1 =>
sel (y1.1 == 0) ((eV (aH.mk a0.b y1.2)).bind fun y2 =>
some (y2.1,y2.2)) <|
(io k (aH.mk a0.b y1.2) 2).bind fun y3 =>
(eY k y3.1).bind fun y4 =>
sel (decide ((y4.1.length : Int) > 40)) ((eV (aH.mk a0.b y3.2)).bind fun y5 =>
some (y5.1,y5.2)) <|
(ao (aH.mk a0.b y3.2) 3).bind fun y6 =>
(eG y4.1 (w64 (Int.tdiv y6.1 2))).bind fun y7 =>
some (y7.1,y6.2)
def kt (a0 : aH) (k : Nat) (y1 : Int × Int) (s1 : (List (List ah)) × Int × Int) : Option (((List (List ah)) × Int × Int) ⊕ ((List (List ah)) × Int)):=
sel (decide (s1.2.1 < (w64 (1 + y1.1)))) ((jG k (aH.mk a0.b s1.2.2)).bind fun y5 =>
(app 24 s1.1 [y5.1]).bind fun r1 =>
some (.inl (r1,w64 (s1.2.1 + 1),y5.2))) <|
some (.inr (s1.1,s1.2.2))
def iK (k : Nat) (a0 : aH) : Option ((List (List ah)) × Int):=
(ao (aH.mk a0.b a0.p) 3).bind fun y1 =>
(bH (kt a0 k y1) ([],0,y1.2)).bind fun y2 =>
some (y2.1,y2.2)
def dD (a0 : Int) (a1 : Int) (a2 : Int) : Option (Int):=
sel (decide (a0 ≥ a1)) (some a2) <|
(nth [8,9,18,19,20,21,22,23] a0).bind fun x1 =>
some x1
def dV (a0 : List Instr) (a1 : Int) (a2 : Int) : Option ((List Instr)):=
sel (decide (a1 < a2)) (some a0) <|
(app 40 a0 [(Instr.mk 16 0 2 7 (w64 (4 * (w64 (a1 - a2)))))]).bind fun r1 =>
some r1
def ep (a0 : Int) (s1 : Int × Int) : Option ((Int × Int) ⊕ Int):=
sel (decide (s1.2 < a0)) (some (.inl (w64 (s1.1 * 2),w64 (s1.2 + 1)))) <|
some (.inr s1.1)
def cf (a0 : Int) : Option (Int):=
(bH (ep a0) (1,0)).bind fun y1 =>
some y1
def aR (a0 : Int) (a1 : Int) (a2 : Int) : Option (Int):=
(aJ a0 0 4294967295).bind fun y1 =>
(sel (!y1) (some true) ((aJ a1 0 31).bind fun y2=>some (!y2)) : Option (Bool)).bind fun b1 =>
(sel b1 (some true) ((aJ a2 1 (w64 (32 - a1))).bind fun y3=>some (!y3)) : Option (Bool)).bind fun b2 =>
sel b2 (some 0) <|
(cf a1).bind fun y4 =>
(pK .i64 a0 y4).bind fun d1 =>
(cf a2).bind fun y5 =>
(nL d1 y5).bind fun d2 =>
some d2
def cg (a0 : Int) (a1 : Int) : Option (Int):=
(aJ a1 1 32).bind fun y1 =>
(sel (!y1) (some true) ((cf a1).bind fun y2=>(aJ a0 0 (w64 (y2 - 1))).bind fun y3=>some (!y3)) : Option (Bool)).bind fun b1 =>
sel b1 (some 0) <|
(cf (w64 (a1 - 1))).bind fun y4 =>
sel (decide (a0 ≥ y4)) ((cf a1).bind fun y5 =>
some (w64 (a0 - y5))) <|
some a0
def cJ (a0 : Int) : Option (Int):=
(bW a0).bind fun y1 =>
sel (!y1) (some (-1)) <|
sel (decide (a0 < 0)) (some (w64 (a0 + 4294967296))) <|
some a0
def iL (a0 : Int) (a1 : Int) : Option ((List Instr)):=
(aJ a1 (-2048) 2047).bind fun y1 =>
sel y1 (some [(Instr.mk 12 a0 0 0 a1)]) <|
(cJ a1).bind fun y2 =>
(aR y2 0 12).bind fun y3 =>
(cg y3 12).bind fun y4 =>
(bI (w64 (a1 - y4))).bind fun y5 =>
(cJ y5).bind fun y6 =>
(aR y6 12 20).bind fun y7 =>
(app 40 [(Instr.mk 19 a0 0 0 y7)] [(Instr.mk 12 a0 a0 0 y4)]).bind fun r1 =>
some r1
def dS (a0 : Int) (a1 : Int) (a2 : Int) : Option ((List Instr)):=
sel (decide (a0 < a1)) (some []) <|
some [(Instr.mk 14 a2 2 0 (w64 (4 * (w64 (a0 - a1)))))]
def eH (a0 : Int) (a1 : Int) : Option (Instr):=
some (Instr.mk 12 a0 a1 0 0)
def lQ (a0 : Int) : Option (Int):=
(nth [7,8,6,8,11,9,10,1,2,3,4,5] (w64 (a0 - 1))).bind fun x1 =>
some x1
def mm (a0 : ah) (a1 : Int) : Option ((List Instr)):=
(dS a0.A a1 5).bind fun y1 =>
(dS a0.B a1 6).bind fun y2 =>
(app 40 y1 y2).bind fun r1 =>
(dD a0.Dst a1 7).bind fun y3 =>
(lQ a0.N).bind fun y4 =>
(dD a0.A a1 5).bind fun y5 =>
(dD a0.B a1 6).bind fun y6 =>
(app 40 r1 [(Instr.mk y4 y3 y5 y6 0)]).bind fun r2 =>
(sel (a0.N == 4) ((app 40 r2 [(Instr.mk 13 y3 y3 0 1)]).bind fun r3 =>
some r3) <|
some r2 : Option ((List Instr))).bind fun y7 =>
(dV y7 a0.Dst a1).bind fun y8 =>
some y8
def lu (a0 : ah) (a1 : Int) (a2 : Int) : Option ((List Instr)):=
(dS a0.A a1 5).bind fun y1 =>
(dD a0.A a1 5).bind fun y2 =>
(app 40 y1 [(Instr.mk 18 0 y2 0 8)]).bind fun r1 =>
(app 40 r1 [(Instr.mk 20 0 0 0 (w64 (a2 - (w64 (4 * (r1.length : Int))))))]).bind fun r2 =>
some r2
def dT (a0 : List Instr) (a1 : Int) : Option ((List Instr)):=
(app 40 a0 [(Instr.mk 12 17 0 0 a1)]).bind fun r1 =>
(app 40 r1 [(Instr.mk 15 1 0 0 0)]).bind fun r2 =>
some r2
def gO (a0 : Int) (a1 : Int) : Option ((List Instr)):=
(dS a0 a1 5).bind fun y1 =>
(dD a0 a1 5).bind fun y2 =>
(eH 10 y2).bind fun y3 =>
(app 40 y1 [y3]).bind fun r1 =>
some r1
def jf (a0 : Int) : Option (Instr):=
some (Instr.mk 12 11 0 0 a0)
def gP (a0 : ah) (a1 : Int) (a2 : Int) : Option ((List Instr)):=
(dD a0.Dst a1 7).bind fun y1 =>
sel (a0.Op == 1) ((iL y1 a0.N).bind fun y2 =>
(dV y2 a0.Dst a1).bind fun y3 =>
some y3) <|
sel (a0.Op == 2) ((dS a0.A a1 5).bind fun y4 =>
(dD a0.A a1 5).bind fun y5 =>
(eH y1 y5).bind fun y6 =>
(app 40 y4 [y6]).bind fun r1 =>
(dV r1 a0.Dst a1).bind fun y7 =>
some y7) <|
sel (a0.Op == 3) ((mm a0 a1).bind fun y8 =>
some y8) <|
sel (a0.Op == 4) (some [(Instr.mk 20 0 0 0 a2)]) <|
sel (a0.Op == 5) ((lu a0 a1 a2).bind fun y9 =>
some y9) <|
sel (a0.Op == 6) ((gO a0.A a1).bind fun y10 =>
(jf a0.N).bind fun y11 =>
(app 40 y10 [y11]).bind fun r2 =>
(dT r2 1).bind fun y12 =>
some y12) <|
sel (a0.Op == 7) ((jf a0.N).bind fun y13 =>
(dT [y13] 2).bind fun y14 =>
(eH y1 10).bind fun y15 =>
(app 40 y14 [y15]).bind fun r3 =>
(dV r3 a0.Dst a1).bind fun y16 =>
some y16) <|
sel (a0.Op == 8) ((dT [] 3).bind fun y17 =>
some y17) <|
sel (a0.Op == 9) ((gO a0.A a1).bind fun y18 =>
(dT y18 4).bind fun y19 =>
some y19) <|
(dT [] 5).bind fun y20 =>
some y20
def jH (a0 : List ah) (a1 : Int) (s1 : (List Int) × Int × Int) : Option (((List Int) × Int × Int) ⊕ ((List Int))):=
sel (decide (s1.2.2 < (a0.length : Int))) ((app 8 s1.1 [s1.2.1]).bind fun r1 =>
(nth a0 s1.2.2).bind fun x1 =>
(gP x1 a1 0).bind fun y4 =>
some (.inl (r1,w64 (s1.2.1 + (y4.length : Int)),w64 (s1.2.2 + 1)))) <|
some (.inr s1.1)
def gv (a0 : List ah) (a1 : Int) : Option ((List Int)):=
(bH (jH a0 a1) ([],0,0)).bind fun y1 =>
some y1
def lh (a0 : List ah) (a1 : Int) (y1 : (List Int)) (s1 : (List Instr) × Int) : Option (((List Instr) × Int) ⊕ ((List Instr))):=
sel (decide (s1.2 < (a0.length : Int))) (((nth a0 s1.2).bind fun x1 =>
(sel (x1.Op == 4) (some true) ((nth a0 s1.2).bind fun x2=>some (x2.Op == 5)) : Option (Bool)).bind fun b1 =>
sel b1 ((nth a0 s1.2).bind fun x3 =>
(nth y1 x3.N).bind fun x4 =>
(nth y1 s1.2).bind fun x5 =>
some (w64 (4 * (w64 (x4 - x5))))) <|
some 0 : Option (Int)).bind fun y5 =>
(nth a0 s1.2).bind fun x6 =>
(gP x6 a1 y5).bind fun y6 =>
(app 40 s1.1 y6).bind fun r1 =>
some (.inl (r1,w64 (s1.2 + 1)))) <|
some (.inr s1.1)
def jI (a0 : List ah) (a1 : Int) : Option ((List Instr)):=
(gv a0 a1).bind fun y1 =>
(bH (lh a0 a1 y1) ([],0)).bind fun y2 =>
some y2
def ku (y1 : (List (List ah)) × Int) (y2 : Int × Int) (s1 : (List (List Instr)) × Int) : Option (((List (List Instr)) × Int) ⊕ ((List (List Instr)))):=
sel (decide (s1.2 < (y1.1.length : Int))) ((nth y1.1 s1.2).bind fun x1 =>
(jI x1 (w64 (1 + y2.1))).bind fun y6 =>
(app 24 s1.1 [y6]).bind fun r1 =>
some (.inl (r1,w64 (s1.2 + 1)))) <|
some (.inr s1.1)
def iM (k : Nat) (a0 : aH) : Option ((List (List Instr)) × Int):=
(iK k (aH.mk a0.b a0.p)).bind fun y1 =>
(ao (aH.mk a0.b y1.2) 8).bind fun y2 =>
(bH (ku y1 y2) ([],0)).bind fun y3 =>
some (y3,y2.2)
def fX (k : Nat) (a0 : List Int) : Option ((List Int) × (List (List Instr))):=
(kP a0).bind fun y1 =>
(iM k (aH.mk y1.b y1.p)).bind fun y2 =>
(ao (aH.mk y1.b y2.2) 4).bind fun y3 =>
(ao (aH.mk y1.b y3.2) 4).bind fun y4 =>
((ao (aH.mk y1.b y4.2) 24).bind fun y6 =>
sel (y6.1 == 0) ((nth [w64 (1 + y3.1),w64 (1 + y4.1)] 0).bind fun x1 =>
(upd [w64 (1 + y3.1),w64 (1 + y4.1)] 0 0).bind fun r1 =>
some (y2.1,y6.2,r1)) <|
sel (y6.1 == 1) ((nth y2.1 0).bind fun x2 =>
(app 24 y2.1 (List.replicate 3 x2)).bind fun r2 =>
some (r2,y6.2,[w64 (1 + y3.1),w64 (1 + y4.1)])) <|
sel (y6.1 == 2) ((nth y2.1 0).bind fun x3 =>
(app 40 x3 [(Instr.mk 0 0 0 0 0)]).bind fun r3 =>
some ((y2.1.set (Int.toNat 0) r3),y6.2,[w64 (1 + y3.1),w64 (1 + y4.1)])) <|
some (y2.1,y6.2,[w64 (1 + y3.1),w64 (1 + y4.1)]) : Option ((List (List Instr)) × Int × (List Int))).bind fun y5 =>
some (y5.2.2,y5.1)
def dG (k : Nat) (a0 : List Int) : Option ((List Int) × (List (List Instr))):=
(fX k a0).bind fun y1 =>
some (y1.1,y1.2)
def dj (a0 : List Int) (s1 : Int) : Option (Int ⊕ (Bool ⊕ Unit)):=
sel (decide (s1 < (a0.length : Int))) ((nth a0 s1).bind fun x1 =>
sel ((decide (x1 < 1)) || (decide (x1 > 4))) (some (.inr (.inl false))) <|
some (.inl (w64 (s1 + 1)))) <|
some (.inr (.inr ()))
def fJ (a0 : List Int) : Option (Bool):=
(bH (dj a0) 0).bind fun y1 =>
i6 y1 (fun o3=>some o3) (fun o4 =>
some (decide ((a0.length : Int) ≤ 3)))
def bw (a0 : Int) : Option (Int):=
sel ((decide (a0 ≥ 1)) && (decide (a0 ≤ 11))) (some 82) <|
sel ((decide (a0 ≥ 12)) && (decide (a0 ≤ 15))) (some 73) <|
sel (a0 == 16) (some 83) <|
sel ((a0 == 17) || (a0 == 18)) (some 66) <|
sel (a0 == 19) (some 85) <|
sel (a0 == 20) (some 74) <|
sel (a0 == 21) (some 69) <|
some 32
def cj (a0 : Int) : Option (Bool):=
some ((decide (a0 ≥ 0)) && (decide (a0 < 32)))
def bf (a0 : Instr) : Option (Bool):=
(cj a0.Rd).bind fun y1 =>
(cj a0.Rs).bind fun y2 =>
(cj a0.Rt).bind fun y3 =>
(bw a0.Op).bind fun y4 =>
sel (y4 == 82) (some (((y1 && y2) && y3) && (a0.Imm == 0))) <|
sel (y4 == 73) (some (((y1 && y2) && (a0.Rt == 0)) && ((decide (a0.Imm ≥ (-2048))) && (decide (a0.Imm ≤ 2047))))) <|
sel (y4 == 83) (some ((((a0.Rd == 0) && y2) && y3) && ((decide (a0.Imm ≥ (-2048))) && (decide (a0.Imm ≤ 2047))))) <|
sel (y4 == 66) (some ((((((a0.Rd == 0) && y2) && y3) && (decide (a0.Imm ≥ (-4096)))) && (decide (a0.Imm ≤ 4094))) && ((Int.tmod a0.Imm 2) == 0))) <|
sel (y4 == 85) (some ((((y1 && (a0.Rs == 0)) && (a0.Rt == 0)) && (decide (a0.Imm ≥ 0))) && (decide (a0.Imm ≤ 1048575)))) <|
sel (y4 == 74) (some (((((y1 && (a0.Rs == 0)) && (a0.Rt == 0)) && (decide (a0.Imm ≥ (-1048576)))) && (decide (a0.Imm ≤ 1048574))) && ((Int.tmod a0.Imm 2) == 0))) <|
sel (y4 == 69) (some ((a0.Op == 21) && ((a0.Rd == 0) && ((a0.Rs == 0) && ((a0.Rt == 0) && ((a0.Imm == 0) && true)))))) <|
some false
def co (a0 : Int) : Option (Bool):=
some ((decide (a0 ≥ (-2147483648))) && (decide (a0 ≤ 2147483647)))
def bG (a0 : Int) : Option (Int):=
(co a0).bind fun y1 =>
sel (!y1) (some (-1)) <|
some (w64 (ja .u32 (a0)))
def dJ (a0 : Int) : Option (Bool):=
some ((decide (a0 ≥ 0)) && (decide (a0 < 4294967296)))
def bj (a0 : Int) (a1 : Int) (a2 : Int) : Option (Int):=
(dJ a0).bind fun y1 =>
sel (((((!y1) || (decide (a1 < 0))) || (decide (a1 > 31))) || (decide (a2 < 1))) || (decide (a2 > (w64 (32 - a1))))) (some 0) <|
(shO .shr .i64 a0 a1).bind fun d1 =>
(shO .shl .i64 1 a2).bind fun d2 =>
some (aC .and .i64 d1 (w64 (d2 - 1)))
def ay (a0 : Int) (a1 : Int) (a2 : Int) (a3 : Int) : Option (Int):=
(bj a3 a0 a1).bind fun y1 =>
(shO .shl .i64 y1 a2).bind fun d1 =>
some d1
def bJ (a0 : Instr) : Option (Int × Bool):=
(bf a0).bind fun y1 =>
sel (!y1) (some (0,false)) <|
(nth j5 (w64 (a0.Op - 1))).bind fun x1 =>
(bG a0.Imm).bind fun y2 =>
(bw a0.Op).bind fun y3 =>
sel (y3 == 82) (some (aC .or .i64 (aC .or .i64 (w64 (x1.funct7 * 2 ^ (min 25 (IntKind.bits .i64)))) (aC .or .i64 (aC .or .i64 (aC .or .i64 (w64 (a0.Rt * 2 ^ (min 20 (IntKind.bits .i64)))) (w64 (a0.Rs * 2 ^ (min 15 (IntKind.bits .i64))))) (w64 (x1.funct3 * 2 ^ (min 12 (IntKind.bits .i64))))) x1.opcode)) (w64 (a0.Rd * 2 ^ (min 7 (IntKind.bits .i64)))),true)) <|
sel (y3 == 73) ((ay 0 12 20 y2).bind fun y4 =>
some (aC .or .i64 (aC .or .i64 y4 (aC .or .i64 (aC .or .i64 (aC .or .i64 (w64 (a0.Rt * 2 ^ (min 20 (IntKind.bits .i64)))) (w64 (a0.Rs * 2 ^ (min 15 (IntKind.bits .i64))))) (w64 (x1.funct3 * 2 ^ (min 12 (IntKind.bits .i64))))) x1.opcode)) (w64 (a0.Rd * 2 ^ (min 7 (IntKind.bits .i64)))),true)) <|
sel (y3 == 83) ((ay 5 7 25 y2).bind fun y5 =>
(ay 0 5 7 y2).bind fun y6 =>
some (aC .or .i64 (aC .or .i64 y5 (aC .or .i64 (aC .or .i64 (aC .or .i64 (w64 (a0.Rt * 2 ^ (min 20 (IntKind.bits .i64)))) (w64 (a0.Rs * 2 ^ (min 15 (IntKind.bits .i64))))) (w64 (x1.funct3 * 2 ^ (min 12 (IntKind.bits .i64))))) x1.opcode)) y6,true)) <|
sel (y3 == 66) ((ay 12 1 31 y2).bind fun y7 =>
(ay 5 6 25 y2).bind fun y8 =>
(ay 1 4 8 y2).bind fun y9 =>
(ay 11 1 7 y2).bind fun y10 =>
some (aC .or .i64 (aC .or .i64 (aC .or .i64 (aC .or .i64 y7 y8) (aC .or .i64 (aC .or .i64 (aC .or .i64 (w64 (a0.Rt * 2 ^ (min 20 (IntKind.bits .i64)))) (w64 (a0.Rs * 2 ^ (min 15 (IntKind.bits .i64))))) (w64 (x1.funct3 * 2 ^ (min 12 (IntKind.bits .i64))))) x1.opcode)) y9) y10,true)) <|
sel (y3 == 85) ((ay 0 20 12 y2).bind fun y11 =>
some (aC .or .i64 (aC .or .i64 y11 (w64 (a0.Rd * 2 ^ (min 7 (IntKind.bits .i64))))) x1.opcode,true)) <|
sel (y3 == 74) ((ay 20 1 31 y2).bind fun y12 =>
(ay 1 10 21 y2).bind fun y13 =>
(ay 11 1 20 y2).bind fun y14 =>
(ay 12 8 12 y2).bind fun y15 =>
some (aC .or .i64 (aC .or .i64 (aC .or .i64 (aC .or .i64 (aC .or .i64 y12 y13) y14) y15) (w64 (a0.Rd * 2 ^ (min 7 (IntKind.bits .i64))))) x1.opcode,true)) <|
some (x1.opcode,true)
def bq (a0 : Int) : Option (Int):=
some (w64 (ja .i32 (a0)))
def er (a0 : List Instr) (s1 : (List Int) × Int) : Option (((List Int) × Int) ⊕ (((List Int) × Bool) ⊕ ((List Int)))):=
sel (decide (s1.2 < (a0.length : Int))) ((nth a0 s1.2).bind fun x1 =>
(bJ x1).bind fun y4 =>
sel (!y4.2) (some (.inr (.inl ([],false)))) <|
(bq y4.1).bind fun y5 =>
(app 8 s1.1 [y5]).bind fun r1 =>
some (.inl (r1,w64 (s1.2 + 1)))) <|
some (.inr (.inr s1.1))
def gQ (a0 : List Instr) : Option ((List Int) × Bool):=
(bH (er a0) ([],0)).bind fun y1 =>
i6 y1 (fun o3=>some o3) (fun o4 =>
some (o4,true))
def cn (a0 : Int) (a1 : Int) (a2 : Int) : Option (Instr):=
some (Instr.mk 12 a0 a1 0 a2)
def dW (a0 : Int) (a1 : Int) (a2 : Int) (a3 : Int) (a4 : Int) : Option (Instr):=
some (Instr.mk a0 0 a2 a3 (w64 (4 * (w64 (a4 - a1)))))
def mn (a0 : Int) (a1 : Int) : Option (Instr):=
some (Instr.mk 20 0 0 0 (w64 (4 * (w64 (a1 - a0)))))
def dk (a0 : Int) (a1 : Int) (a2 : Int) (a3 : Int) : Option (Instr):=
some (Instr.mk a0 a1 a2 a3 0)
def eR (a0 : Int) (a1 : Int) (a2 : Int) : Option (Instr):=
some (Instr.mk 14 a0 a2 0 a1)
def gR (a0 : Int) (a1 : Int) (a2 : Int) : Option (Instr):=
some (Instr.mk 16 0 a2 a0 a1)
def lB (a0 : Int) : Option (Instr):=
some (Instr.mk 15 0 a0 0 0)
def lm (s1 : (List Instr) × Int) : Option (((List Instr) × Int) ⊕ ((List Instr))):=
sel (decide (s1.2 < 13)) ((nth j4 s1.2).bind fun x1 =>
(gR x1 (w64 ((w64 (4 * s1.2)) + 4)) 4).bind fun y58 =>
(app 40 s1.1 [y58]).bind fun r1 =>
some (.inl (r1,w64 (s1.2 + 1)))) <|
some (.inr s1.1)
def ln (s2 : (List Instr) × Int) : Option (((List Instr) × Int) ⊕ ((List Instr))):=
sel (decide (s2.2 < 13)) ((nth j4 s2.2).bind fun x2 =>
(eR x2 (w64 ((w64 (4 * s2.2)) + 4)) 4).bind fun y69 =>
(app 40 s2.1 [y69]).bind fun r3 =>
some (.inl (r3,w64 (s2.2 + 1)))) <|
some (.inr s2.1)
def fc : Option ((List Instr)):=
(cn 5 0 1).bind fun y1 =>
(dW 17 1 17 5 9).bind fun y2 =>
(cn 5 0 2).bind fun y3 =>
(dW 17 3 17 5 26).bind fun y4 =>
(cn 5 0 3).bind fun y5 =>
(dW 17 5 17 5 47).bind fun y6 =>
(cn 5 0 4).bind fun y7 =>
(dW 17 7 17 5 44).bind fun y8 =>
(mn 8 50).bind fun y9 =>
(cn 5 0 5).bind fun y10 =>
(dk 9 6 11 5).bind fun y11 =>
(dk 1 6 6 3).bind fun y12 =>
(eR 7 24 6).bind fun y13 =>
(eR 28 16 6).bind fun y14 =>
(dW 17 14 7 28 50).bind fun y15 =>
(eR 29 20 6).bind fun y16 =>
(dk 1 29 29 7).bind fun y17 =>
(dk 5 29 29 28).bind fun y18 =>
(cn 5 0 2).bind fun y19 =>
(dk 9 29 29 5).bind fun y20 =>
(dk 1 29 29 6).bind fun y21 =>
(gR 10 32 29).bind fun y22 =>
(cn 7 7 1).bind fun y23 =>
(gR 7 24 6).bind fun y24 =>
(gR 0 0 3).bind fun y25 =>
(lB 1).bind fun y26 =>
(cn 5 0 5).bind fun y27 =>
(dk 9 6 11 5).bind fun y28 =>
(dk 1 6 6 3).bind fun y29 =>
(eR 7 24 6).bind fun y30 =>
(dW 17 30 7 0 50).bind fun y31 =>
(eR 28 16 6).bind fun y32 =>
(eR 29 20 6).bind fun y33 =>
(cn 5 0 2).bind fun y34 =>
(dk 9 30 29 5).bind fun y35 =>
(dk 1 30 30 6).bind fun y36 =>
(eR 10 32 30).bind fun y37 =>
(cn 29 29 1).bind fun y38 =>
(dk 5 29 29 28).bind fun y39 =>
(gR 29 20 6).bind fun y40 =>
(cn 7 7 (-1)).bind fun y41 =>
(gR 7 24 6).bind fun y42 =>
(gR 0 0 3).bind fun y43 =>
(lB 1).bind fun y44 =>
(gR 0 0 3).bind fun y45 =>
(lB 1).bind fun y46 =>
(cn 5 1 0).bind fun y47 =>
(gR 0 0 3).bind fun y48 =>
(mn 49 54).bind fun y49 =>
(cn 5 0 0).bind fun y50 =>
(eR 6 0 3).bind fun y51 =>
(cn 6 6 1).bind fun y52 =>
(gR 6 0 3).bind fun y53 =>
(gR 5 0 4).bind fun y54 =>
(bH (lm) ([y1,y2,y3,y4,y5,y6,y7,y8,y9,y10,y11,y12,y13,y14,y15,y16,y17,y18,y19,y20,y21,y22,y23,y24,y25,y26,y27,y28,y29,y30,y31,y32,y33,y34,y35,y36,y37,y38,y39,y40,y41,y42,y43,y44,(Instr.mk 21 0 0 0 0),y45,y46,y47,y48,y49,y50,y51,y52,y53,y54],0)).bind fun y55 =>
(eR 6 0 3).bind fun y59 =>
(eR 7 4 3).bind fun y60 =>
(dW 17 70 6 7 90).bind fun y61 =>
(cn 4 4 64).bind fun y62 =>
(eR 5 12 3).bind fun y63 =>
(dW 18 73 4 5 75).bind fun y64 =>
(eR 4 8 3).bind fun y65 =>
(app 40 y55 [y59,y60,y61,y62,y63,y64,y65]).bind fun r2 =>
(bH (ln) (r2,0)).bind fun y66 =>
(eR 5 0 4).bind fun y70 =>
(lB 5).bind fun y71 =>
(cn 17 0 0).bind fun y72 =>
(app 40 y66 [y70,y71,y72,(Instr.mk 21 0 0 0 0)]).bind fun r4 =>
some r4
def d7 (a1 : List (List Instr)) (s1 : (List Int) × (List Int) × Int) : Option (((List Int) × (List Int) × Int) ⊕ ((ai × Int × Bool) ⊕ ((List Int) × (List Int)))):=
sel (decide (s1.2.2 < (a1.length : Int))) ((nth a1 s1.2.2).bind fun x1 =>
(gQ x1).bind fun y7 =>
sel (!y7.2) (some (.inr (.inl ((ai.mk [] 0 []),0,false)))) <|
(app 8 s1.2.1 [w64 (4 * (s1.1.length : Int))]).bind fun r1 =>
(app 8 s1.1 y7.1).bind fun r2 =>
some (.inl (r2,r1,w64 (s1.2.2 + 1)))) <|
some (.inr (.inr (s1.1,s1.2.1)))
def fd (a0 : List Int) (s2 : (List Int) × Int) : Option (((List Int) × Int) ⊕ ((List Int))):=
sel (decide (s2.2 < 3)) ((mk 8 8 0).bind fun r4 =>
(sel (decide (s2.2 < (a0.length : Int))) ((nth a0 s2.2).bind fun x2 =>
(nth r4 0).bind fun x3 =>
(upd r4 0 x2).bind fun r5 =>
some r5) <|
some r4 : Option ((List Int))).bind fun y11 =>
(app 8 s2.1 y11).bind fun r6 =>
some (.inl (r6,w64 (s2.2 + 1)))) <|
some (.inr s2.1)
def ff (a1 : List (List Instr)) (o4 : (List Int) × (List Int)) (s3 : (List Int) × Int) : Option (((List Int) × Int) ⊕ ((List Int))):=
sel (decide (s3.2 < (o4.2.length : Int))) ((nth o4.2 s3.2).bind fun x4 =>
(mk 8 16 0).bind fun r7 =>
(nth r7 0).bind fun x5 =>
(upd r7 0 x4).bind fun r8 =>
(nth r8 2).bind fun x6 =>
(upd r8 2 (w64 ((w64 ((w64 ((w64 (4 * (o4.1.length : Int))) + 112)) + (w64 (64 * (a1.length : Int))))) + (w64 (48 * s3.2))))).bind fun r9 =>
(app 8 s3.1 r9).bind fun r10 =>
some (.inl (r10,w64 (s3.2 + 1)))) <|
some (.inr s3.1)
def cr (a0 : List Int) (a1 : List (List Instr)) : Option (ai × Int × Bool):=
(fJ a0).bind fun y1 =>
sel (((!y1) || (decide ((a1.length : Int) < 1))) || (decide ((a1.length : Int) > 3))) (some ((ai.mk [] 0 []),0,false)) <|
(fc).bind fun y2 =>
(gQ y2).bind fun y3 =>
(bH (d7 a1) (y3.1,[],0)).bind fun y4 =>
i6 y4 (fun o3=>some o3) (fun o4 =>
(app 8 o4.1 [0,(a1.length : Int),w64 ((w64 (4 * (o4.1.length : Int))) + 112),w64 ((w64 ((w64 (4 * (o4.1.length : Int))) + 112)) + (w64 (64 * (a1.length : Int))))]).bind fun r3 =>
(bH (fd a0) (r3,0)).bind fun y8 =>
(bH (ff a1 o4) (y8,0)).bind fun y12 =>
(vB 8 y12 (w64 (12 * (a1.length : Int))) 0).bind fun r11 =>
sel (decide ((r11.length : Int) > 10000)) (some ((ai.mk [] 0 []),0,false)) <|
(nth o4.2 0).bind fun x7 =>
(mk 8 32 0).bind fun r12 =>
(nth r12 2).bind fun x8 =>
(upd r12 2 (w64 ((w64 ((w64 (4 * (o4.1.length : Int))) + 112)) + (w64 (64 * (a1.length : Int)))))).bind fun r13 =>
(nth r13 3).bind fun x9 =>
(upd r13 3 (w64 (4 * (o4.1.length : Int)))).bind fun r14 =>
(nth r14 4).bind fun x10 =>
(upd r14 4 (w64 ((w64 (4 * (o4.1.length : Int))) + 112))).bind fun r15 =>
some ((ai.mk r15 x7 r11),w64 (4 * (o4.1.length : Int)),true))
def d8 (a0 : List Int) (s1 : Int) : Option (Int ⊕ (Bool ⊕ Unit)):=
sel (decide (s1 < (a0.length : Int))) ((nth a0 s1).bind fun x1 =>
(aJ x1 1 4).bind fun y4 =>
sel (!y4) (some (.inr (.inl false))) <|
some (.inl (w64 (s1 + 1)))) <|
some (.inr (.inr ()))
def eL (a0 : List Int) : Option (Bool):=
(bH (d8 a0) 0).bind fun y1 =>
i6 y1 (fun o3=>some o3) (fun o4 =>
some (decide ((a0.length : Int) ≤ 3)))
def c7 (a0 : Instr) (a1 : Int) (a2 : Int) (a3 : Int) : Option (Bool):=
(aJ a0.Rd 0 (w64 (a1 * 31))).bind fun y1 =>
(sel y1 ((aJ a0.Rs 0 (w64 (a2 * 31))).bind fun y2=>some y2) (some false) : Option (Bool)).bind fun b1 =>
(sel b1 ((aJ a0.Rt 0 (w64 (a3 * 31))).bind fun y3=>some y3) (some false) : Option (Bool)).bind fun b2 =>
some b2
def gS (a0 : Int) (a1 : Int) (a2 : Int) : Option (Bool):=
(aJ a0 a1 a2).bind fun y1 =>
some (y1 && ((Int.tmod a0 2) == 0))
def dK (a0 : Instr) : Option (Bool):=
(aJ a0.Op 1 11).bind fun y1 =>
sel y1 ((c7 a0 1 1 1).bind fun y2 =>
some (y2 && (a0.Imm == 0))) <|
(aJ a0.Op 12 15).bind fun y3 =>
sel y3 ((c7 a0 1 1 0).bind fun y4 =>
(sel y4 ((aJ a0.Imm (-2048) 2047).bind fun y5=>some y5) (some false) : Option (Bool)).bind fun b1 =>
some b1) <|
sel (a0.Op == 16) ((c7 a0 0 1 1).bind fun y6 =>
(sel y6 ((aJ a0.Imm (-2048) 2047).bind fun y7=>some y7) (some false) : Option (Bool)).bind fun b2 =>
some b2) <|
sel ((a0.Op == 17) || (a0.Op == 18)) ((c7 a0 0 1 1).bind fun y8 =>
(sel y8 ((gS a0.Imm (-4096) 4094).bind fun y9=>some y9) (some false) : Option (Bool)).bind fun b3 =>
some b3) <|
sel (a0.Op == 19) ((c7 a0 1 0 0).bind fun y10 =>
(sel y10 ((aJ a0.Imm 0 1048575).bind fun y11=>some y11) (some false) : Option (Bool)).bind fun b4 =>
some b4) <|
sel (a0.Op == 20) ((c7 a0 1 0 0).bind fun y12 =>
(sel y12 ((gS a0.Imm (-1048576) 1048574).bind fun y13=>some y13) (some false) : Option (Bool)).bind fun b5 =>
some b5) <|
(sel (a0.Op == 21) ((c7 a0 0 0 0).bind fun y14=>some y14) (some false) : Option (Bool)).bind fun b6 =>
some (b6 && (a0.Imm == 0))
def fz (a0 : Int) (a1 : Int) : Option (Int):=
sel (decide (a0 < 0)) (some (w64 (a0 + a1))) <|
some a0
def bc (a0 : Int) (a1 : Int) : Option (Int):=
(cf a1).bind fun y1 =>
some (w64 (a0 * y1))
def fU (a0 : Int) : Option (Int):=
(nth [0,0,0,4,6,7,6,4,1,5,2,0,3,2,0,2,0,1,0,0,0] (w64 (a0 - 1))).bind fun x1 =>
some x1
def fA (a0 : Instr) (a1 : Int) : Option (Int):=
(bc a0.Rs 15).bind fun y1 =>
(fU a0.Op).bind fun y2 =>
(bc y2 12).bind fun y3 =>
some (w64 ((w64 (y1 + y3)) + a1))
def gw (a0 : Instr) (a1 : Int) : Option (Int):=
(fz a0.Imm 4096).bind fun y1 =>
(bc y1 20).bind fun y2 =>
(fA a0 a1).bind fun y3 =>
(bc a0.Rd 7).bind fun y4 =>
some (w64 ((w64 (y2 + y3)) + y4))
def gx (a0 : Instr) : Option (Int):=
(fz a0.Imm 8192).bind fun y1 =>
(aR y1 12 1).bind fun y2 =>
(bc y2 31).bind fun y3 =>
(aR y1 5 6).bind fun y4 =>
(bc y4 25).bind fun y5 =>
(bc a0.Rt 20).bind fun y6 =>
(fA a0 99).bind fun y7 =>
(aR y1 1 4).bind fun y8 =>
(bc y8 8).bind fun y9 =>
(aR y1 11 1).bind fun y10 =>
(bc y10 7).bind fun y11 =>
some (w64 ((w64 ((w64 ((w64 ((w64 (y3 + y5)) + y6)) + y7)) + y9)) + y11))
def jJ (a0 : Instr) : Option (Int):=
(fz a0.Imm 2097152).bind fun y1 =>
(aR y1 20 1).bind fun y2 =>
(bc y2 31).bind fun y3 =>
(aR y1 1 10).bind fun y4 =>
(bc y4 21).bind fun y5 =>
(aR y1 11 1).bind fun y6 =>
(bc y6 20).bind fun y7 =>
(aR y1 12 8).bind fun y8 =>
(bc y8 12).bind fun y9 =>
(bc a0.Rd 7).bind fun y10 =>
some (w64 ((w64 ((w64 ((w64 ((w64 (y3 + y5)) + y7)) + y9)) + y10)) + 111))
def fV (a0 : Int) : Option (Int):=
(nth [0,32,1,1,1,0,0,0,0,32,0] (w64 (a0 - 1))).bind fun x1 =>
some x1
def bB (a0 : Instr) : Option (Int):=
(sel (a0.Op == 12) (some (a0.Op == 12)) <|
some (a0.Op == 13) : Option (Bool)).bind fun y1 =>
sel y1 ((gw a0 19).bind fun y2 =>
some y2) <|
sel (a0.Op == 14) ((gw a0 3).bind fun y3 =>
some y3) <|
sel (a0.Op == 15) ((gw a0 103).bind fun y4 =>
some y4) <|
sel (a0.Op == 16) ((fz a0.Imm 4096).bind fun y5 =>
(aR y5 5 7).bind fun y6 =>
(bc y6 25).bind fun y7 =>
(bc a0.Rt 20).bind fun y8 =>
(fA a0 35).bind fun y9 =>
(aR y5 0 5).bind fun y10 =>
(bc y10 7).bind fun y11 =>
some (w64 ((w64 ((w64 (y7 + y8)) + y9)) + y11))) <|
(sel (a0.Op == 17) (some (a0.Op == 17)) <|
some (a0.Op == 18) : Option (Bool)).bind fun y12 =>
sel y12 ((gx a0).bind fun y13 =>
some y13) <|
sel (a0.Op == 19) ((bc a0.Imm 12).bind fun y14 =>
(bc a0.Rd 7).bind fun y15 =>
some (w64 ((w64 (y14 + y15)) + 55))) <|
sel (a0.Op == 20) ((jJ a0).bind fun y16 =>
some y16) <|
sel (a0.Op == 21) (some 115) <|
(fV a0.Op).bind fun y17 =>
(bc y17 25).bind fun y18 =>
(bc a0.Rt 20).bind fun y19 =>
(fA a0 51).bind fun y20 =>
(bc a0.Rd 7).bind fun y21 =>
some (w64 ((w64 ((w64 (y18 + y19)) + y20)) + y21))
def cB (a0 : Instr) : Option (Int × Bool):=
(dK a0).bind fun y1 =>
sel (!y1) (some (0,false)) <|
(bB a0).bind fun y2 =>
some (y2,true)
def et (a1 : List Instr) (s1 : (List Int) × Int) : Option (((List Int) × Int) ⊕ (((List Int) × Bool) ⊕ ((List Int)))):=
sel (decide (s1.2 < (a1.length : Int))) ((nth a1 s1.2).bind fun x1 =>
(cB x1).bind fun y4 =>
sel (!y4.2) (some (.inr (.inl (s1.1,false)))) <|
(bI y4.1).bind fun y5 =>
(app 8 s1.1 [y5]).bind fun r1 =>
some (.inl (r1,w64 (s1.2 + 1)))) <|
some (.inr (.inr s1.1))
def gU (a0 : List Int) (a1 : List Instr) : Option ((List Int) × Bool):=
(bH (et a1) (a0,0)).bind fun y1 =>
i6 y1 (fun o3=>some o3) (fun o4 =>
some (o4,true))
def bM (a0 : Int) (a1 : Int) (a2 : Int) : Option (Instr):=
some (Instr.mk 12 a0 a1 0 a2)
def eM (a0 : Int) (a1 : Int) (a2 : Int) (a3 : Int) (a4 : Int) : Option (Instr):=
some (Instr.mk a0 0 a1 a2 (w64 (4 * (w64 (a4 - a3)))))
def m8 (a0 : Int) (a1 : Int) : Option (Instr):=
some (Instr.mk 20 0 0 0 (w64 (4 * (w64 (a1 - a0)))))
def mw : Option ((List Instr)):=
(bM 5 0 1).bind fun y1 =>
(eM 17 17 5 1 9).bind fun y2 =>
(bM 5 0 2).bind fun y3 =>
(eM 17 17 5 3 26).bind fun y4 =>
(bM 5 0 3).bind fun y5 =>
(eM 17 17 5 5 47).bind fun y6 =>
(bM 5 0 4).bind fun y7 =>
(eM 17 17 5 7 44).bind fun y8 =>
(m8 8 50).bind fun y9 =>
some [y1,y2,y3,y4,y5,y6,y7,y8,y9]
def d9 (a0 : Int) (a1 : Int) (a2 : Int) (a3 : Int) : Option (Instr):=
some (Instr.mk a0 a1 a2 a3 0)
def cD (a0 : Int) (a1 : Int) (a2 : Int) : Option (Instr):=
some (Instr.mk 14 a0 a2 0 a1)
def dl (a0 : Int) (a1 : Int) (a2 : Int) : Option (Instr):=
some (Instr.mk 16 0 a2 a0 a1)
def gV (a0 : Int) : Option (Instr):=
some (Instr.mk 15 0 a0 0 0)
def m9 : Option ((List Instr)):=
(bM 5 0 5).bind fun y1 =>
(d9 9 6 11 5).bind fun y2 =>
(d9 1 6 6 3).bind fun y3 =>
(cD 7 24 6).bind fun y4 =>
(cD 28 16 6).bind fun y5 =>
(eM 17 7 28 14 50).bind fun y6 =>
(cD 29 20 6).bind fun y7 =>
(d9 1 29 29 7).bind fun y8 =>
(d9 5 29 29 28).bind fun y9 =>
(bM 5 0 2).bind fun y10 =>
(d9 9 29 29 5).bind fun y11 =>
(d9 1 29 29 6).bind fun y12 =>
(dl 10 32 29).bind fun y13 =>
(bM 7 7 1).bind fun y14 =>
(dl 7 24 6).bind fun y15 =>
(dl 0 0 3).bind fun y16 =>
(gV 1).bind fun y17 =>
some [y1,y2,y3,y4,y5,y6,y7,y8,y9,y10,y11,y12,y13,y14,y15,y16,y17]
def nh : Option ((List Instr)):=
(bM 5 0 5).bind fun y1 =>
(d9 9 6 11 5).bind fun y2 =>
(d9 1 6 6 3).bind fun y3 =>
(cD 7 24 6).bind fun y4 =>
(eM 17 7 0 30 50).bind fun y5 =>
(cD 28 16 6).bind fun y6 =>
(cD 29 20 6).bind fun y7 =>
(bM 5 0 2).bind fun y8 =>
(d9 9 30 29 5).bind fun y9 =>
(d9 1 30 30 6).bind fun y10 =>
(cD 10 32 30).bind fun y11 =>
(bM 29 29 1).bind fun y12 =>
(d9 5 29 29 28).bind fun y13 =>
(dl 29 20 6).bind fun y14 =>
(bM 7 7 (-1)).bind fun y15 =>
(dl 7 24 6).bind fun y16 =>
(dl 0 0 3).bind fun y17 =>
(gV 1).bind fun y18 =>
some [y1,y2,y3,y4,y5,y6,y7,y8,y9,y10,y11,y12,y13,y14,y15,y16,y17,y18]
def my : Option ((List Instr)):=
(dl 0 0 3).bind fun y1 =>
(gV 1).bind fun y2 =>
(bM 5 1 0).bind fun y3 =>
(dl 0 0 3).bind fun y4 =>
(m8 49 54).bind fun y5 =>
(bM 5 0 0).bind fun y6 =>
(cD 6 0 3).bind fun y7 =>
(bM 6 6 1).bind fun y8 =>
(dl 6 0 3).bind fun y9 =>
some [(Instr.mk 21 0 0 0 0),y1,y2,y3,y4,y5,y6,y7,y8,y9]
def kB : Option ((List Int)):=
some [1,2,8,9,18,19,20,21,22,23,10,11,17]
def ny (y2 : (List Int)) (s1 : (List Instr) × Int) : Option (((List Instr) × Int) ⊕ ((List Instr))):=
sel (decide (s1.2 < (y2.length : Int))) ((nth y2 s1.2).bind fun x1 =>
(dl x1 (w64 (4 + (w64 (4 * s1.2)))) 4).bind fun y6 =>
(app 40 s1.1 [y6]).bind fun r1 =>
some (.inl (r1,w64 (s1.2 + 1)))) <|
some (.inr s1.1)
def jK : Option ((List Instr)):=
(dl 5 0 4).bind fun y1 =>
(kB).bind fun y2 =>
(bH (ny y2) ([y1],0)).bind fun y3 =>
some y3
def nz (y8 : (List Int)) (s1 : (List Instr) × Int) : Option (((List Instr) × Int) ⊕ ((List Instr))):=
sel (decide (s1.2 < (y8.length : Int))) ((nth y8 s1.2).bind fun x1 =>
(cD x1 (w64 (4 + (w64 (4 * s1.2)))) 4).bind fun y12 =>
(app 40 s1.1 [y12]).bind fun r1 =>
some (.inl (r1,w64 (s1.2 + 1)))) <|
some (.inr s1.1)
def jL : Option ((List Instr)):=
(cD 6 0 3).bind fun y1 =>
(cD 7 4 3).bind fun y2 =>
(eM 17 6 7 70 90).bind fun y3 =>
(bM 4 4 64).bind fun y4 =>
(cD 5 12 3).bind fun y5 =>
(eM 18 4 5 73 75).bind fun y6 =>
(cD 4 8 3).bind fun y7 =>
(kB).bind fun y8 =>
(bH (nz y8) ([y1,y2,y3,y4,y5,y6,y7],0)).bind fun y9 =>
(cD 5 0 4).bind fun y13 =>
(gV 5).bind fun y14 =>
(app 40 y9 [y13,y14]).bind fun r2 =>
some r2
def jM : Option ((List Instr)):=
(mw).bind fun y1 =>
(m9).bind fun y2 =>
(app 40 y1 y2).bind fun r1 =>
(nh).bind fun y3 =>
(app 40 r1 y3).bind fun r2 =>
(my).bind fun y4 =>
(app 40 r2 y4).bind fun r3 =>
(jK).bind fun y5 =>
(app 40 r3 y5).bind fun r4 =>
(jL).bind fun y6 =>
(app 40 r4 y6).bind fun r5 =>
(bM 17 0 0).bind fun y7 =>
(app 40 r5 [y7,(Instr.mk 21 0 0 0 0)]).bind fun r6 =>
some r6
def fK (a1 : List Int) (s1 : (List Int) × Int) : Option (((List Int) × Int) ⊕ ((List Int))):=
sel (decide (s1.2 < 3)) ((sel (decide (s1.2 < (a1.length : Int))) ((nth a1 s1.2).bind fun x1 =>
some x1) <|
some 0 : Option (Int)).bind fun y4 =>
(app 8 s1.1 [y4,0,0,0,0,0,0,0]).bind fun r1 =>
some (.inl (r1,w64 (s1.2 + 1)))) <|
some (.inr s1.1)
def fL (a0 : Int) (a2 : List Int) (s2 : (List Int) × Int) : Option (((List Int) × Int) ⊕ ((List Int))):=
sel (decide (s2.2 < (a2.length : Int))) ((mk 8 16 0).bind fun r2 =>
(nth a2 s2.2).bind fun x2 =>
(nth r2 0).bind fun x3 =>
(upd r2 0 (w64 (4 * x2))).bind fun r3 =>
(nth r3 2).bind fun x4 =>
(upd r3 2 (w64 (4 * (w64 ((w64 ((w64 ((w64 (a0 + 4)) + 24)) + (w64 (16 * (a2.length : Int))))) + (w64 (12 * s2.2))))))).bind fun r4 =>
(app 8 s2.1 r4).bind fun r5 =>
some (.inl (r5,w64 (s2.2 + 1)))) <|
some (.inr s2.1)
def jN (a0 : Int) (a1 : List Int) (a2 : List Int) : Option ((List Int)):=
(bH (fK a1) ([0,(a2.length : Int),w64 (4 * (w64 ((w64 (a0 + 4)) + 24))),w64 (4 * (w64 ((w64 ((w64 (a0 + 4)) + 24)) + (w64 (16 * (a2.length : Int))))))],0)).bind fun y1 =>
(bH (fL a0 a2) (y1,0)).bind fun y5 =>
(vB 8 y5 (w64 (12 * (a2.length : Int))) 0).bind fun r6 =>
some r6
def jO (a0 : List Int) (a1 : Int) (a2 : Int) : Option (ai):=
(mk 8 32 0).bind fun r1 =>
(nth a0 (w64 ((w64 ((w64 (a1 + 4)) + 24)) + 2))).bind fun x1 =>
(nth r1 2).bind fun x2 =>
(upd r1 2 x1).bind fun r2 =>
(nth r2 3).bind fun x3 =>
(upd r2 3 (w64 (4 * a1))).bind fun r3 =>
(nth r3 4).bind fun x4 =>
(upd r3 4 (w64 (4 * (w64 ((w64 (a1 + 4)) + 24))))).bind fun r4 =>
some (ai.mk r4 (w64 (4 * a2)) a0)
def ea (a1 : List (List Instr)) (s1 : (List Int) × (List Int) × Int) : Option (((List Int) × (List Int) × Int) ⊕ ((ai × Int × Bool) ⊕ ((List Int) × (List Int)))):=
sel (decide (s1.2.2 < (a1.length : Int))) ((app 8 s1.2.1 [(s1.1.length : Int)]).bind fun r1 =>
(nth a1 s1.2.2).bind fun x1 =>
sel (decide ((x1.length : Int) > 10000)) (some (.inr (.inl ((ai.mk [] 0 []),0,false)))) <|
(nth a1 s1.2.2).bind fun x2 =>
(gU s1.1 x2).bind fun y8 =>
sel (!y8.2) (some (.inr (.inl ((ai.mk [] 0 []),0,false)))) <|
some (.inl (y8.1,r1,w64 (s1.2.2 + 1)))) <|
some (.inr (.inr (s1.1,s1.2.1)))
def cZ (a0 : List Int) (a1 : List (List Instr)) : Option (ai × Int × Bool):=
(eL a0).bind fun y1 =>
(sel (!y1) (some true) ((aJ (a1.length : Int) 1 3).bind fun y2=>some (!y2)) : Option (Bool)).bind fun b1 =>
sel b1 (some ((ai.mk [] 0 []),0,false)) <|
(jM).bind fun y3 =>
(gU [] y3).bind fun y4 =>
(bH (ea a1) (y4.1,[],0)).bind fun y5 =>
i6 y5 (fun o3=>some o3) (fun o4 =>
(jN (o4.1.length : Int) a0 o4.2).bind fun y9 =>
(app 8 o4.1 y9).bind fun r2 =>
sel (decide ((r2.length : Int) > 10000)) (some ((ai.mk [] 0 []),0,false)) <|
(nth o4.2 0).bind fun x3 =>
(jO r2 (o4.1.length : Int) x3).bind fun y10 =>
some ((ai.mk y10.Regs y10.Pc y10.Mem),w64 (4 * (o4.1.length : Int)),true))
def fg (a0 : List Int) (a1 : List Int) (s1 : Int) : Option (Int ⊕ (Bool ⊕ Unit)):=
sel (decide (s1 < (a0.length : Int))) ((nth a0 s1).bind fun x1 =>
(nth a1 s1).bind fun x2 =>
sel (x1 != x2) (some (.inr (.inl false))) <|
some (.inl (w64 (s1 + 1)))) <|
some (.inr (.inr ()))
def dX (a0 : List Int) (a1 : List Int) : Option (Bool):=
sel ((a0.length : Int) != (a1.length : Int)) (some false) <|
(bH (fg a0 a1) 0).bind fun y1 =>
i6 y1 (fun o3=>some o3) (fun o4 =>
some true)
def cW (a0 : ai) (a1 : ai) : Option (Bool):=
(sel (a0.Pc == a1.Pc) ((dX a0.Regs a1.Regs).bind fun y1=>some y1) (some false) : Option (Bool)).bind fun b1 =>
(sel b1 ((dX a0.Mem a1.Mem).bind fun y2=>some y2) (some false) : Option (Bool)).bind fun b2 =>
some b2
def fh (a0 : List Int) (s1 : Int) : Option (Int ⊕ (Bool ⊕ Unit)):=
sel (decide (s1 < (a0.length : Int))) ((nth a0 s1).bind fun x1 =>
(co x1).bind fun y4 =>
sel (!y4) (some (.inr (.inl false))) <|
some (.inl (w64 (s1 + 1)))) <|
some (.inr (.inr ()))
def dY (a0 : List Int) : Option (Bool):=
(bH (fh a0) 0).bind fun y1 =>
i6 y1 (fun o3=>some o3) (fun o4 =>
some true)
def c9 (a0 : ai) : Option (Bool):=
(sel ((a0.Regs.length : Int) == 32) ((dY a0.Regs).bind fun y1=>some y1) (some false) : Option (Bool)).bind fun b1 =>
(sel b1 ((nth a0.Regs 0).bind fun x1=>some (x1 == 0)) (some false) : Option (Bool)).bind fun b2 =>
(sel b2 ((co a0.Pc).bind fun y2=>some y2) (some false) : Option (Bool)).bind fun b3 =>
(sel (b3 && (decide ((a0.Mem.length : Int) ≤ 10000))) ((dY a0.Mem).bind fun y3=>some y3) (some false) : Option (Bool)).bind fun b4 =>
some b4
def cX (a0 : List Int) : Option ((List Int)):=
(app 8 [] a0).bind fun r1 =>
some r1
def fi (a0 : ai) : Option (ai):=
(cX a0.Regs).bind fun y1 =>
(cX a0.Mem).bind fun y2 =>
some (ai.mk y1 a0.Pc y2)
def cG (a0 : ai) (a1 : Int) : Option (Int):=
sel (((decide (a1 < 0)) || ((Int.tmod a1 4) != 0)) || (decide ((w64 (Int.tdiv a1 4)) ≥ (a0.Mem.length : Int)))) (some (-1)) <|
(nth a0.Mem (w64 (Int.tdiv a1 4))).bind fun x1 =>
some (w64 (Int.tdiv a1 4))
def bz (a0 : kO) (a1 : Int) (a2 : Int) : Option (Bool):=
sel (a0.opcode != (aC .and .i64 a2 127)) (some false) <|
(bw a1).bind fun y1 =>
sel (y1 == 82) ((bj a2 12 3).bind fun y2 =>
(sel (a0.funct3 == y2) ((bj a2 25 7).bind fun b_1=>some (a0.funct7 == b_1)) (some false)).bind fun b1 =>
some b1) <|
(sel (y1 == 73) (some (y1 == 73)) <|
sel (y1 == 83) (some (y1 == 83)) <|
some (y1 == 66) : Option (Bool)).bind fun y4 =>
sel y4 ((bj a2 12 3).bind fun y5 =>
some (a0.funct3 == y5)) <|
some true
def ch (a0 : Int) (a1 : Int) : Option (Int):=
(sel (((decide (a1 < 1)) || (decide (a1 > 32))) || (decide (a0 < 0))) (some true) ((shO .shl .i64 1 a1).bind fun d1=>some (decide (a0 ≥ d1))) : Option (Bool)).bind fun b1 =>
sel b1 (some 0) <|
(shO .shl .i64 1 (w64 (a1 - 1))).bind fun d2 =>
sel (decide (a0 ≥ d2)) ((shO .shl .i64 1 a1).bind fun d3 =>
some (w64 (a0 - d3))) <|
some a0
def cw (a0 : Int) (a1 : Int) : Option (Instr):=
(bj a1 7 5).bind fun y1 =>
(bj a1 15 5).bind fun y2 =>
(bj a1 20 5).bind fun y3 =>
(bw a0).bind fun y4 =>
sel (y4 == 82) (some (Instr.mk a0 y1 y2 y3 0)) <|
sel (y4 == 73) ((bj a1 20 12).bind fun y5 =>
(ch y5 12).bind fun y6 =>
some (Instr.mk a0 y1 y2 0 y6)) <|
sel (y4 == 83) ((bj a1 25 7).bind fun y7 =>
(ch (aC .or .i64 (w64 (y7 * 2 ^ (min 5 (IntKind.bits .i64)))) y1) 12).bind fun y8 =>
some (Instr.mk a0 0 y2 y3 y8)) <|
sel (y4 == 66) ((bj a1 31 1).bind fun y9 =>
(bj a1 7 1).bind fun y10 =>
(bj a1 25 6).bind fun y11 =>
(bj a1 8 4).bind fun y12 =>
(ch (aC .or .i64 (aC .or .i64 (aC .or .i64 (w64 (y9 * 2 ^ (min 12 (IntKind.bits .i64)))) (w64 (y10 * 2 ^ (min 11 (IntKind.bits .i64))))) (w64 (y11 * 2 ^ (min 5 (IntKind.bits .i64))))) (w64 (y12 * 2 ^ (min 1 (IntKind.bits .i64))))) 13).bind fun y13 =>
some (Instr.mk a0 0 y2 y3 y13)) <|
sel (y4 == 85) ((bj a1 12 20).bind fun y14 =>
some (Instr.mk a0 y1 0 0 y14)) <|
sel (y4 == 74) ((bj a1 31 1).bind fun y15 =>
(bj a1 12 8).bind fun y16 =>
(bj a1 20 1).bind fun y17 =>
(bj a1 21 10).bind fun y18 =>
(ch (aC .or .i64 (aC .or .i64 (aC .or .i64 (w64 (y15 * 2 ^ (min 20 (IntKind.bits .i64)))) (w64 (y16 * 2 ^ (min 12 (IntKind.bits .i64))))) (w64 (y17 * 2 ^ (min 11 (IntKind.bits .i64))))) (w64 (y18 * 2 ^ (min 1 (IntKind.bits .i64))))) 21).bind fun y19 =>
some (Instr.mk a0 y1 0 0 y19)) <|
some (Instr.mk a0 0 0 0 0)
def de (a0 : Int) (s1 : Int) : Option (Int ⊕ ((Instr × Bool) ⊕ Unit)):=
sel (decide (s1 ≤ 21)) (((nth j5 (w64 (s1 - 1))).bind fun x1 =>
(bz x1 s1 a0).bind fun y6 =>
sel (!y6) (some (.inl ())) <|
(cw s1 a0).bind fun y7 =>
(bJ y7).bind fun y8 =>
sel (y8.2 && (y8.1 == a0)) (some (.inr (y7,true))) <|
some (.inl ()) : Option (Unit ⊕ (Instr × Bool))).bind fun y5 =>
i6 y5 (fun o5=>some (.inl (w64 (s1 + 1)))) (fun o6 =>
some (.inr (.inl o6)))) <|
some (.inr (.inr ()))
def cC (a0 : Int) : Option (Instr × Bool):=
(dJ a0).bind fun y1 =>
sel (!y1) (some ((Instr.mk 0 0 0 0 0),false)) <|
(bH (de a0) 1).bind fun y2 =>
i6 y2 (fun o7=>some o7) (fun o8 =>
some ((Instr.mk 0 0 0 0 0),false))
def aO (a0 : ai) (a1 : Int) (a2 : Int) : Option ((List Int)):=
sel (a1 != 0) ((nth a0.Regs a1).bind fun x1 =>
(upd a0.Regs a1 a2).bind fun r1 =>
some r1) <|
some a0.Regs
def i7 (a0 : Bool) : Option (Int):=
sel a0 (some 1) <|
some 0
def lR (a0 : Int) (a1 : Int) (a2 : Int) : Option (Int):=
sel (a0 == 1) (some (aC .or .i64 a1 a2)) <|
sel (a0 == 2) (some (aC .xor .i64 a1 a2)) <|
sel (a0 == 3) (some (aC .and .i64 a1 a2)) <|
sel (a0 == 4) ((i7 (a1 == a2)).bind fun y1 =>
some y1) <|
sel (a0 == 5) ((i7 (decide (a1 < a2))).bind fun y2 =>
some y2) <|
sel (a0 == 6) ((shO .shl .i64 a1 (aC .and .i64 a2 31)).bind fun d1 =>
(bq d1).bind fun y3 =>
some y3) <|
sel (a0 == 7) ((shO .shr .i64 a1 (aC .and .i64 a2 31)).bind fun d2 =>
some d2) <|
sel (a0 == 8) ((bq (w64 (a1 + a2))).bind fun y4 =>
some y4) <|
sel (a0 == 9) ((bq (w64 (a1 - a2))).bind fun y5 =>
some y5) <|
sel (a0 == 10) ((bq (w64 (a1 * a2))).bind fun y6 =>
some y6) <|
sel (a0 == 11) (sel (a2 == 0) (some (-1)) <|
(pK .i64 a1 a2).bind fun d3 =>
(bq d3).bind fun y7 =>
some y7) <|
sel (a2 == 0) (some a1) <|
(nL a1 a2).bind fun d4 =>
some d4
def cH (a0 : ai) : Option (Int × (List Int) × Int × (List Int)):=
(cG (ai.mk a0.Regs a0.Pc a0.Mem) a0.Pc).bind fun y1 =>
sel (decide (y1 < 0)) (some (3,a0.Regs,a0.Pc,a0.Mem)) <|
(nth a0.Mem y1).bind fun x1 =>
(bG x1).bind fun y2 =>
(cC y2).bind fun y3 =>
sel (!y3.2) (some (3,a0.Regs,a0.Pc,a0.Mem)) <|
(nth a0.Regs y3.1.Rs).bind fun x2 =>
(nth a0.Regs y3.1.Rt).bind fun x3 =>
(bq (w64 (a0.Pc + 4))).bind fun y4 =>
(sel (y3.1.Op == 21) (some (.inr (2,a0.Regs,a0.Pc,a0.Mem))) <|
sel (y3.1.Op == 12) ((bq (w64 (x2 + y3.1.Imm))).bind fun y6 =>
(aO (ai.mk a0.Regs a0.Pc a0.Mem) y3.1.Rd y6).bind fun y7 =>
some (.inl (y4,y7,a0.Mem))) <|
sel (y3.1.Op == 13) ((bG x2).bind fun y8 =>
(bG y3.1.Imm).bind fun y9 =>
(i7 (decide (y8 < y9))).bind fun y10 =>
(aO (ai.mk a0.Regs a0.Pc a0.Mem) y3.1.Rd y10).bind fun y11 =>
some (.inl (y4,y11,a0.Mem))) <|
(sel (y3.1.Op == 14) (some (y3.1.Op == 14)) <|
some (y3.1.Op == 16) : Option (Bool)).bind fun y12 =>
sel y12 ((bq (w64 (x2 + y3.1.Imm))).bind fun y13 =>
(cG (ai.mk a0.Regs a0.Pc a0.Mem) y13).bind fun y14 =>
sel (decide (y14 < 0)) (some (.inr (3,a0.Regs,a0.Pc,a0.Mem))) <|
sel (y3.1.Op == 16) ((nth a0.Mem y14).bind fun x4 =>
(upd a0.Mem y14 x3).bind fun r1 =>
some (.inl (y4,a0.Regs,r1))) <|
(nth a0.Mem y14).bind fun x5 =>
(aO (ai.mk a0.Regs a0.Pc a0.Mem) y3.1.Rd x5).bind fun y15 =>
some (.inl (y4,y15,a0.Mem))) <|
sel (y3.1.Op == 15) ((aO (ai.mk a0.Regs a0.Pc a0.Mem) y3.1.Rd y4).bind fun y16 =>
(bq (w64 (x2 + y3.1.Imm))).bind fun y17 =>
some (.inl (aC .andNot .i64 y17 1,y16,a0.Mem))) <|
(sel (y3.1.Op == 17) (some (y3.1.Op == 17)) <|
some (y3.1.Op == 18) : Option (Bool)).bind fun y18 =>
sel y18 (sel ((x2 == x3) == (y3.1.Op == 17)) ((bq (w64 (a0.Pc + y3.1.Imm))).bind fun y19 =>
some (.inl (y19,a0.Regs,a0.Mem))) <|
some (.inl (y4,a0.Regs,a0.Mem))) <|
sel (y3.1.Op == 19) ((bq (w64 (y3.1.Imm * 4096))).bind fun y20 =>
(aO (ai.mk a0.Regs a0.Pc a0.Mem) y3.1.Rd y20).bind fun y21 =>
some (.inl (y4,y21,a0.Mem))) <|
sel (y3.1.Op == 20) ((aO (ai.mk a0.Regs a0.Pc a0.Mem) y3.1.Rd y4).bind fun y22 =>
(bq (w64 (a0.Pc + y3.1.Imm))).bind fun y23 =>
some (.inl (y23,y22,a0.Mem))) <|
(nth lK (w64 (y3.1.Op - 1))).bind fun x6 =>
(lR x6 x2 x3).bind fun y24 =>
(aO (ai.mk a0.Regs a0.Pc a0.Mem) y3.1.Rd y24).bind fun y25 =>
some (.inl (y4,y25,a0.Mem)) : Option ((Int × (List Int) × (List Int)) ⊕ (Int × (List Int) × Int × (List Int)))).bind fun y5 =>
i6 y5 (fun o3=>some (1,o3.2.1,o3.1,o3.2.2)) (fun o4 =>
some o4)
def eb (a1 : Int) (s1 : (List Int) × Int × (List Int) × Int × (List Int)) : Option (((List Int) × Int × (List Int) × Int × (List Int)) ⊕ ((ai × (List Int) × Int) ⊕ ((List Int) × (List Int) × Int × (List Int)))):=
sel (decide (s1.2.1 < a1)) ((cH (ai.mk s1.2.2.1 s1.2.2.2.1 s1.2.2.2.2)).bind fun y6 =>
((sel (y6.1 == 2) ((nth y6.2.1 17).bind fun x1=>some (x1 == 4)) (some false) : Option (Bool)).bind fun b1 =>
sel b1 ((nth y6.2.1 10).bind fun x2 =>
(app 8 s1.1 [x2]).bind fun r1 =>
(bq (w64 (y6.2.2.1 + 4))).bind fun y8 =>
some (r1,1,y8)) <|
some (s1.1,y6.1,y6.2.2.1) : Option ((List Int) × Int × Int)).bind fun y7 =>
sel (y7.2.1 != 1) (some (.inr (.inl ((ai.mk y6.2.1 y7.2.2 y6.2.2.2),y7.1,y7.2.1)))) <|
some (.inl (y7.1,w64 (s1.2.1 + 1),y6.2.1,y7.2.2,y6.2.2.2))) <|
some (.inr (.inr (s1.1,s1.2.2.1,s1.2.2.2.1,s1.2.2.2.2)))
def fW (a0 : ai) (a1 : Int) : Option (ai × (List Int) × Int):=
(c9 (ai.mk a0.Regs a0.Pc a0.Mem)).bind fun y1 =>
sel (((!y1) || (decide (a1 < 0))) || (decide (a1 > 1000000))) (some ((ai.mk [] 0 []),[],0)) <|
(fi (ai.mk a0.Regs a0.Pc a0.Mem)).bind fun y2 =>
(bH (eb a1) ([],0,y2.Regs,y2.Pc,y2.Mem)).bind fun y3 =>
i6 y3 (fun o3=>some o3) (fun o4 =>
some ((ai.mk o4.2.1 o4.2.2.1 o4.2.2.2),o4.1,1))
def gW (a0 : List Int) (a1 : List (List Instr)) (a2 : Int) : Option (ai × Int × (List Int) × Int):=
(cr a0 a1).bind fun y1 =>
sel (!y1.2.2) (some ((ai.mk [] 0 []),0,[],0)) <|
(fW (ai.mk y1.1.Regs y1.1.Pc y1.1.Mem) a2).bind fun y2 =>
some ((ai.mk y2.1.Regs y2.1.Pc y2.1.Mem),y1.2.1,y2.2.1,y2.2.2)
def ej (y2 : ai × Int × Bool) (y6 : ai × Int × (List Int) × Int) (s1 : Int) : Option (Int ⊕ (Bool ⊕ Unit)):=
sel (decide (s1 < 3)) ((nth y6.1.Mem (w64 ((w64 ((w64 (Int.tdiv y2.2.1 4)) + 4)) + (w64 (8 * s1))))).bind fun x1 =>
(nth y2.1.Mem (w64 ((w64 ((w64 (Int.tdiv y2.2.1 4)) + 4)) + (w64 (8 * s1))))).bind fun x2 =>
sel (x1 != x2) (some (.inr (.inl false))) <|
some (.inl (w64 (s1 + 1)))) <|
some (.inr (.inr ()))
def lS (k : Nat) (a0 : List Int) (a1 : List Int) : Option (Bool):=
sel ((decide ((a0.length : Int) > 1048576)) || (decide ((a1.length : Int) > 1048576))) (some true) <|
(dG k a0).bind fun y1 =>
(cr y1.1 y1.2).bind fun y2 =>
(cZ y1.1 y1.2).bind fun y3 =>
(sel ((y2.2.2 != y3.2.2) || (y2.2.1 != y3.2.1)) (some true) ((cW (ai.mk y2.1.Regs y2.1.Pc y2.1.Mem) (ai.mk y3.1.Regs y3.1.Pc y3.1.Mem)).bind fun y4=>some (!y4)) : Option (Bool)).bind fun b1 =>
sel (b1 || (!y2.2.2)) ((sel ((y2.2.2 == y3.2.2) && (y2.2.1 == y3.2.1)) ((cW (ai.mk y2.1.Regs y2.1.Pc y2.1.Mem) (ai.mk y3.1.Regs y3.1.Pc y3.1.Mem)).bind fun y5=>some y5) (some false) : Option (Bool)).bind fun b2 =>
some b2) <|
(gW y1.1 y1.2 (Int.tmod (w64 ((a1.length : Int) * 7)) 1501)).bind fun y6 =>
(sel ((y6.1.Mem.length : Int) != (y2.1.Mem.length : Int)) (some true) ((cut y6.1.Mem (w64 ((w64 (Int.tdiv y2.2.1 4)) + 1)) (w64 ((w64 (Int.tdiv y2.2.1 4)) + 4))).bind fun b_1=>(cut y2.1.Mem (w64 ((w64 (Int.tdiv y2.2.1 4)) + 1)) (w64 ((w64 (Int.tdiv y2.2.1 4)) + 4))).bind fun b_2=>(dX b_1 b_2).bind fun b_3=>some (!b_3))).bind fun b3 =>
sel b3 (some false) <|
(bH (ej y2 y6) 0).bind fun y8 =>
i6 y8 (fun o3=>some o3) (fun o4 =>
(nth y6.1.Regs 4).bind fun x3 =>
(nth y2.1.Mem (w64 ((w64 (Int.tdiv y2.2.1 4)) + 2))).bind fun x4 =>
some (((decide ((w64 (x3 - x4)) ≥ 0)) && ((Int.tmod (w64 (x3 - x4)) 64) == 0)) && (decide ((w64 (x3 - x4)) ≤ (w64 (64 * (y1.2.length : Int)))))))
def lU (a0 : Int) : Option (Bool):=
some ((decide (a0 ≥ 0)) && (decide (a0 < 12)))
def ni (a0 : Int) : Option (Bool):=
some ((decide (a0 ≥ 1)) && (decide (a0 ≤ 12)))
def lV (a0 : ah) (a1 : Int) : Option (Bool):=
(lU a0.Dst).bind fun y1 =>
(lU a0.A).bind fun y2 =>
(lU a0.B).bind fun y3 =>
sel (a0.Op == 1) ((sel (((a0.Op == 1) && ((a0.Dst == a0.Dst) && ((a0.A == 0) && ((a0.B == 0) && ((a0.N == a0.N) && true))))) && y1) ((co a0.N).bind fun y4=>some y4) (some false) : Option (Bool)).bind fun b1 =>
some b1) <|
sel (a0.Op == 2) (some ((((a0.Op == 2) && ((a0.Dst == a0.Dst) && ((a0.A == a0.A) && ((a0.B == 0) && ((a0.N == 0) && true))))) && y1) && y2)) <|
sel (a0.Op == 3) ((sel ((y1 && y2) && y3) ((ni a0.N).bind fun y5=>some y5) (some false) : Option (Bool)).bind fun b2 =>
some b2) <|
sel (a0.Op == 4) (some ((((a0.Op == 4) && ((a0.Dst == 0) && ((a0.A == 0) && ((a0.B == 0) && ((a0.N == a0.N) && true))))) && (decide (a0.N ≥ 0))) && (decide (a0.N < a1)))) <|
sel (a0.Op == 5) (some (((((a0.Op == 5) && ((a0.Dst == 0) && ((a0.A == a0.A) && ((a0.B == 0) && ((a0.N == a0.N) && true))))) && y2) && (decide (a0.N ≥ 0))) && (decide (a0.N < a1)))) <|
sel (a0.Op == 6) (some (((((a0.Op == 6) && ((a0.Dst == 0) && ((a0.A == a0.A) && ((a0.B == 0) && ((a0.N == a0.N) && true))))) && y2) && (decide (a0.N ≥ 0))) && (decide (a0.N < 3)))) <|
sel (a0.Op == 7) (some (((((a0.Op == 7) && ((a0.Dst == a0.Dst) && ((a0.A == 0) && ((a0.B == 0) && ((a0.N == a0.N) && true))))) && y1) && (decide (a0.N ≥ 0))) && (decide (a0.N < 3)))) <|
sel (a0.Op == 9) (some (((a0.Op == 9) && ((a0.Dst == 0) && ((a0.A == a0.A) && ((a0.B == 0) && ((a0.N == 0) && true))))) && y2)) <|
(sel (a0.Op == 8) (some (a0.Op == 8)) <|
some (a0.Op == 10) : Option (Bool)).bind fun y6 =>
sel y6 (some ((a0.Op == a0.Op) && ((a0.Dst == 0) && ((a0.A == 0) && ((a0.B == 0) && ((a0.N == 0) && true)))))) <|
some false
def mo (a0 : List ah) (s1 : Int) : Option (Int ⊕ (Bool ⊕ Unit)):=
sel (decide (s1 < (a0.length : Int))) ((nth a0 s1).bind fun x1 =>
(lV x1 (a0.length : Int)).bind fun y4 =>
sel (!y4) (some (.inr (.inl false))) <|
some (.inl (w64 (s1 + 1)))) <|
some (.inr (.inr ()))
def nT (a0 : List ah) : Option (Bool):=
sel ((decide ((a0.length : Int) < 1)) || (decide ((a0.length : Int) > 600))) (some false) <|
(bH (mo a0) 0).bind fun y1 =>
i6 y1 (fun o3=>some o3) (fun o4 =>
(nth a0 (w64 ((a0.length : Int) - 1))).bind fun x2 =>
some ((x2.Op == 10) || (x2.Op == 4)))
def iP (a0 : List Int) (s1 : Int) : Option (Int ⊕ (Bool ⊕ Unit)):=
sel (decide (s1 < (a0.length : Int))) ((nth a0 s1).bind fun x1 =>
(bW x1).bind fun y4 =>
sel (!y4) (some (.inr (.inl false))) <|
some (.inl (w64 (s1 + 1)))) <|
some (.inr (.inr ()))
def gX (a0 : List Int) (a1 : Int) : Option (Bool):=
sel ((a0.length : Int) != a1) (some false) <|
(bH (iP a0) 0).bind fun y1 =>
i6 y1 (fun o3=>some o3) (fun o4 =>
some true)
def mH (a0 : Int) (a1 : Int) : Option ((List Instr)):=
sel ((decide (a1 ≥ (-2048))) && (decide (a1 ≤ 2047))) ((cn a0 0 a1).bind fun y1 =>
some [y1]) <|
(bG a1).bind fun y2 =>
(bj y2 0 12).bind fun y3 =>
(ch y3 12).bind fun y4 =>
(bq (w64 (a1 - y4))).bind fun y5 =>
(bG y5).bind fun y6 =>
(bj y6 12 20).bind fun y7 =>
(cn a0 a0 y4).bind fun y8 =>
some [(Instr.mk 19 a0 0 0 y7),y8]
end
noncomputable section
def mp (a0 : ai) : Option (Bool):=
(gX a0.Regs 32).bind fun y1 =>
(sel y1 ((nth a0.Regs 0).bind fun x1=>some (x1 == 0)) (some false) : Option (Bool)).bind fun b1 =>
(sel b1 ((bW a0.Pc).bind fun y2=>some y2) (some false) : Option (Bool)).bind fun b2 =>
(sel (b2 && (decide ((a0.Mem.length : Int) ≤ 10000))) ((gX a0.Mem (a0.Mem.length : Int)).bind fun y3=>some y3) (some false) : Option (Bool)).bind fun b3 =>
some b3
def fC (a0 : List Int) (a1 : Int) : Option (Bool):=
some (((decide (a1 ≥ 0)) && ((Int.tmod a1 4) == 0)) && (decide ((w64 (Int.tdiv a1 4)) < (a0.length : Int))))
def kC (a0 : Int) (s1 : Int) : Option (Int ⊕ (Int ⊕ Unit)):=
sel (decide (s1 ≤ 11)) ((aR a0 12 3).bind fun y5 =>
(fU s1).bind fun y6 =>
(sel (y5 == y6) ((aR a0 25 7).bind fun y7=>(fV s1).bind fun y8=>some (y7 == y8)) (some false) : Option (Bool)).bind fun b1 =>
sel b1 (some (.inr (.inl s1))) <|
some (.inl (w64 (s1 + 1)))) <|
some (.inr (.inr ()))
def kv (a0 : Int) : Option (Int):=
(aR a0 0 7).bind fun y1 =>
sel (y1 == 51) ((bH (kC a0) 1).bind fun y2 =>
i6 y2 (fun o3=>some o3) (fun o4 =>
some 0)) <|
sel (y1 == 19) ((aR a0 12 3).bind fun y9 =>
sel (y9 == 0) (some 12) <|
some 13) <|
sel (y1 == 3) (some 14) <|
sel (y1 == 103) (some 15) <|
sel (y1 == 35) (some 16) <|
sel (y1 == 99) ((aR a0 12 3).bind fun y10 =>
sel (y10 == 0) (some 17) <|
some 18) <|
sel (y1 == 55) (some 19) <|
sel (y1 == 111) (some 20) <|
sel (y1 == 115) (some 21) <|
some 0
def aU (a0 : Int) (a1 : Int) : Option (Instr):=
(aR a1 7 5).bind fun y1 =>
(aR a1 15 5).bind fun y2 =>
(aR a1 20 5).bind fun y3 =>
sel (decide (a0 ≤ 11)) (some (Instr.mk a0 y1 y2 y3 0)) <|
sel (decide (a0 ≤ 15)) ((aR a1 20 12).bind fun y4 =>
(cg y4 12).bind fun y5 =>
some (Instr.mk a0 y1 y2 0 y5)) <|
sel (a0 == 16) ((aR a1 25 7).bind fun y6 =>
(cg (w64 ((w64 (y6 * 32)) + y1)) 12).bind fun y7 =>
some (Instr.mk a0 0 y2 y3 y7)) <|
sel ((a0 == 17) || (a0 == 18)) ((aR a1 31 1).bind fun y8 =>
(aR a1 7 1).bind fun y9 =>
(aR a1 25 6).bind fun y10 =>
(aR a1 8 4).bind fun y11 =>
(cg (w64 ((w64 ((w64 ((w64 (y8 * 4096)) + (w64 (y9 * 2048)))) + (w64 (y10 * 32)))) + (w64 (y11 * 2)))) 13).bind fun y12 =>
some (Instr.mk a0 0 y2 y3 y12)) <|
sel (a0 == 19) ((aR a1 12 20).bind fun y13 =>
some (Instr.mk a0 y1 0 0 y13)) <|
sel (a0 == 20) ((aR a1 31 1).bind fun y14 =>
(aR a1 12 8).bind fun y15 =>
(aR a1 20 1).bind fun y16 =>
(aR a1 21 10).bind fun y17 =>
(cg (w64 ((w64 ((w64 ((w64 (y14 * 1048576)) + (w64 (y15 * 4096)))) + (w64 (y16 * 2048)))) + (w64 (y17 * 2)))) 21).bind fun y18 =>
some (Instr.mk a0 y1 0 0 y18)) <|
some (Instr.mk a0 0 0 0 0)
def dn (a0 : Int) : Option (Instr × Bool):=
(aJ a0 0 4294967295).bind fun y1 =>
(sel (!y1) (some true) ((kv a0).bind fun y2=>some (y2 == 0)) : Option (Bool)).bind fun b1 =>
sel b1 (some ((Instr.mk 0 0 0 0 0),false)) <|
(kv a0).bind fun y3 =>
(aU y3 a0).bind fun y4 =>
(bB y4).bind fun y5 =>
sel (y5 != a0) (some ((Instr.mk 0 0 0 0 0),false)) <|
some (y4,true)
def dE (a0 : ai) (a1 : Int) (a2 : Int) : Option ((List Int)):=
sel (a1 != 0) ((nth a0.Regs a1).bind fun x1 =>
(upd a0.Regs a1 a2).bind fun r1 =>
some r1) <|
some a0.Regs
def uN (a0 : ai) (a1 : Instr) : Option (Bool × (List Int) × Int × (List Int)):=
(nth a0.Regs a1.Rs).bind fun x1 =>
(bI (w64 (x1 + a1.Imm))).bind fun y1 =>
(fC a0.Mem y1).bind fun y2 =>
sel (!y2) (some (false,a0.Regs,a0.Pc,a0.Mem)) <|
(sel (a1.Op == 14) ((nth a0.Mem (w64 (Int.tdiv y1 4))).bind fun x2 =>
(dE (ai.mk a0.Regs a0.Pc a0.Mem) a1.Rd x2).bind fun y4 =>
some (y4,a0.Mem)) <|
(nth a0.Regs a1.Rt).bind fun x3 =>
(nth a0.Mem (w64 (Int.tdiv y1 4))).bind fun x4 =>
(upd a0.Mem (w64 (Int.tdiv y1 4)) x3).bind fun r1 =>
some (a0.Regs,r1) : Option ((List Int) × (List Int))).bind fun y3 =>
some (true,y3.1,w64 (a0.Pc + 4),y3.2)
def pN (a0 : ai) (a1 : Instr) : Option ((List Int) × Int):=
(bI (w64 (a0.Pc + 4))).bind fun y1 =>
(nth a0.Regs a1.Rs).bind fun x1 =>
(nth a0.Regs a1.Rt).bind fun x2 =>
sel (a1.Op == 15) ((nth a0.Regs a1.Rs).bind fun x3 =>
(bI (w64 (x3 + a1.Imm))).bind fun y2 =>
(dE (ai.mk a0.Regs a0.Pc a0.Mem) a1.Rd y1).bind fun y3 =>
some (y3,w64 (y2 - (aC .and .i64 y2 1)))) <|
sel (a1.Op == 20) ((dE (ai.mk a0.Regs a0.Pc a0.Mem) a1.Rd y1).bind fun y4 =>
(bI (w64 (a0.Pc + a1.Imm))).bind fun y5 =>
some (y4,y5)) <|
sel ((x1 == x2) == (a1.Op == 17)) ((bI (w64 (a0.Pc + a1.Imm))).bind fun y6 =>
some (a0.Regs,y6)) <|
some (a0.Regs,y1)
def gy (a0 : Int) (a1 : Int) (a2 : Int) : Option (Int):=
(nth [8,9,10,11,12,3,1,2,6,7,5] (w64 (a0 - 1))).bind fun x1 =>
(gm x1 a1 a2).bind fun y1 =>
some y1.1
def bX (a0 : ai) (a1 : Instr) : Option (Bool × (List Int) × Int × (List Int)):=
(nth a0.Regs a1.Rs).bind fun x1 =>
((sel (a1.Op == 14) (some (a1.Op == 14)) <|
some (a1.Op == 16) : Option (Bool)).bind fun y2 =>
sel y2 ((uN (ai.mk a0.Regs a0.Pc a0.Mem) a1).bind fun y3 =>
some (.inr (y3.1,y3.2.1,y3.2.2.1,y3.2.2.2))) <|
(sel (a1.Op == 15) (some (a1.Op == 15)) <|
sel (a1.Op == 20) (some (a1.Op == 20)) <|
sel (a1.Op == 17) (some (a1.Op == 17)) <|
some (a1.Op == 18) : Option (Bool)).bind fun y4 =>
sel y4 ((pN (ai.mk a0.Regs a0.Pc a0.Mem) a1).bind fun y5 =>
some (.inr (true,y5.1,y5.2,a0.Mem))) <|
sel (a1.Op == 12) ((bI (w64 (x1 + a1.Imm))).bind fun y6 =>
(dE (ai.mk a0.Regs a0.Pc a0.Mem) a1.Rd y6).bind fun y7 =>
some (.inl y7)) <|
sel (a1.Op == 13) ((cJ x1).bind fun y8 =>
(cJ a1.Imm).bind fun y9 =>
(fx (decide (y8 < y9))).bind fun y10 =>
(dE (ai.mk a0.Regs a0.Pc a0.Mem) a1.Rd y10).bind fun y11 =>
some (.inl y11)) <|
sel (a1.Op == 19) ((bI (w64 (a1.Imm * 4096))).bind fun y12 =>
(dE (ai.mk a0.Regs a0.Pc a0.Mem) a1.Rd y12).bind fun y13 =>
some (.inl y13)) <|
(nth a0.Regs a1.Rt).bind fun x2 =>
(gy a1.Op x1 x2).bind fun y14 =>
(dE (ai.mk a0.Regs a0.Pc a0.Mem) a1.Rd y14).bind fun y15 =>
some (.inl y15) : Option (((List Int)) ⊕ (Bool × (List Int) × Int × (List Int)))).bind fun y1 =>
i6 y1 (fun o3=>some (true,o3,w64 (a0.Pc + 4),a0.Mem)) (fun o4 =>
some o4)
def dA (a0 : ai) : Option (Int × (List Int) × Int × (List Int)):=
(fC a0.Mem a0.Pc).bind fun y1 =>
sel (!y1) (some (3,a0.Regs,a0.Pc,a0.Mem)) <|
(nth a0.Mem (w64 (Int.tdiv a0.Pc 4))).bind fun x1 =>
(cJ x1).bind fun y2 =>
(dn y2).bind fun y3 =>
sel (!y3.2) (some (3,a0.Regs,a0.Pc,a0.Mem)) <|
sel (y3.1.Op == 21) (some (2,a0.Regs,a0.Pc,a0.Mem)) <|
(bX (ai.mk a0.Regs a0.Pc a0.Mem) y3.1).bind fun y4 =>
sel (!y4.1) (some (3,y4.2.1,y4.2.2.1,y4.2.2.2)) <|
some (1,y4.2.1,y4.2.2.1,y4.2.2.2)
end
end Go.Proofs.YtgcmopfhafoabaaGreatDoor.N
namespace Go.Proofs.YtgcmopfhafoabaaGreatDoor.X
noncomputable section
variable {σ τ ρ ρ' α : Type}
theorem wE (x : Int) : w64 x = if 9223372036854775808 ≤ x % 18446744073709551616 then x % 18446744073709551616 - 18446744073709551616 else x % 18446744073709551616:=by
 show IntKind.wrap .i64 x = _
 simp [IntKind.wrap,IntKind.signed,IntKind.bits]
theorem ax {x : Int} (h1 : -9223372036854775808 ≤ x) (h2 : x ≤ 9223372036854775807) : w64 x = x:=by
 rw [wE]
 split <;> omega
theorem xq {f : σ → Option (σ ⊕ ρ)} (st : Nat → σ) (n : Nat) {r : ρ} (h : ∀ i,i < n → f (st i) = some (.inl (st (i + 1)))) (he : f (st n) = some (.inr r)) : bH f (st 0) = some r:=by
 have key : ∀ m,m ≤ n → bH f (st (n - m)) = some r:=by
  intro m
  induction m with
  | zero=>intro _; rw [cy]; simp [he]
  | succ m ih =>
   intro hm
   rw [cy,h (n - (m + 1)) (by omega)]
   have:=ih (by omega)
   rw [show n - m = n - (m + 1) + 1 by omega] at this
   exact this
 have:=key n (Nat.le_refl n)
 rwa [Nat.sub_self] at this
theorem vD {f : σ → Option (σ ⊕ ρ)} (I : σ → Prop) (μ : σ → Nat) (Q : ρ → Prop) (h : ∀ s,I s → (∃ s',f s = some (.inl s') ∧ I s' ∧ μ s' < μ s) ∨ (∃ r,f s = some (.inr r) ∧ Q r)) : ∀ {s : σ},I s → ∃ r,bH f s = some r ∧ Q r:=by
 have key : ∀ n s,μ s ≤ n → I s → ∃ r,bH f s = some r ∧ Q r:=by
  intro n
  induction n with
  | zero =>
   intro s hs hI
   rcases h s hI with ⟨s',_,_,h3⟩ | ⟨r,h1,h2⟩
   ·omega
   ·exact ⟨r,by rw [cy,h1],h2⟩
  | succ n ih =>
   intro s hs hI
   rcases h s hI with ⟨s',h1,h2,h3⟩ | ⟨r,h1,h2⟩
   ·obtain ⟨r,k1,k2⟩:=ih s' (by omega) h2
    exact ⟨r,by rw [cy,h1]; exact k1,k2⟩
   ·exact ⟨r,by rw [cy,h1],h2⟩
 exact fun {s} hI=>key _ s (Nat.le_refl _) hI
theorem vE {f : σ → Option (σ ⊕ ρ)} {g : τ → Option (τ ⊕ ρ')} (R : σ → τ → Prop) (μ : σ → Nat) (Q : ρ → ρ' → Prop)
  (h : ∀ s t,R s t → (∃ s' t',f s = some (.inl s') ∧ g t = some (.inl t') ∧ R s' t' ∧ μ s' < μ s) ∨ (∃ r r',f s = some (.inr r) ∧ g t = some (.inr r') ∧ Q r r')) : ∀ {s : σ} {t : τ},R s t → ∃ r r',bH f s = some r ∧ bH g t = some r' ∧ Q r r':=by
 have key : ∀ n s t,μ s ≤ n → R s t → ∃ r r',bH f s = some r ∧ bH g t = some r' ∧ Q r r':=by
  intro n
  induction n with
  | zero =>
   intro s t hs hI
   rcases h s t hI with ⟨s',t',_,_,_,h3⟩ | ⟨r,r',h1,h2,h3⟩
   ·omega
   ·exact ⟨r,r',by rw [cy,h1],by rw [cy,h2],h3⟩
  | succ n ih =>
   intro s t hs hI
   rcases h s t hI with ⟨s',t',h1,h2,h3,h4⟩ | ⟨r,r',h1,h2,h3⟩
   ·obtain ⟨r,r',k1,k2,k3⟩:=ih s' t' (by omega) h3
    exact ⟨r,r',by rw [cy,h1]; exact k1,by rw [cy,h2]; exact k2,k3⟩
   ·exact ⟨r,r',by rw [cy,h1],by rw [cy,h2],h3⟩
 exact fun {s t} hI=>key _ s t (Nat.le_refl _) hI
theorem df {l : List α} {i : Nat} (h : i < l.length) : nth l (i : Int) = some l[i]:=by
 unfold nth
 rw [if_neg (by omega)]
 simp [List.getElem?_eq_getElem h]
theorem uO {l : List α} {i : Nat} (h : i < l.length) (x : α) : upd l (i : Int) x = some (l.set i x):=by
 unfold upd
 rw [if_pos ⟨by omega,by omega⟩]
 simp
theorem ij {bytes : Nat} {l m : List α} (h : (l.length + m.length) * bytes ≤ 140737488355328) : app bytes l m = some (l ++ m):=by
 unfold app BA
 rw [Nat.ble_eq_true_of_le h]
theorem aW {α : Type} {b : Bool} (h : b = true) (x y : α) : sel b x y = x:=by subst h; rfl
theorem aj {α : Type} {b : Bool} (h : b = false) (x y : α) : sel b x y = y:=by subst h; rfl
theorem ac {α : Type} {b : Bool} {x y r : α} (h : b = false) (k : y = r) : sel b x y = r:=by subst h; exact k
theorem kD {i : Nat} (h : i ≤ 9223372036854775806) : w64 ((i : Int) + 1) = ((i + 1 : Nat) : Int):=by rw [ax (by omega) (by omega)]; omega
def xr (mk : α → Int → Option (Int × α)) : List α → Int → Option (Int × List α)
 | [],k=>some (k,[])
 | x :: xs,k=>match mk x k with
  | some (k1,x')=>match xr mk xs k1 with
   | some (k2,xs')=>some (k2,x' :: xs')
   | none=>none
  | none=>none
def yT (hd : α → Int → Int → Prop) : List α → Int → Int → Prop
 | [],k,k'=>k' = k
 | x :: xs,k,k'=>∃ k1,hd x k k1 ∧ yT hd xs k1 k'
def MH (mk : α → Int → Option (Int × α)) (hd : α → Int → Int → Prop) (sz : α → Nat) : Prop:=
 ∀ x (k : Int),1 ≤ k → k + sz x ≤ 1000000000000 → ∃ x',mk x k = some (k + sz x,x') ∧ hd x' k (k + sz x)
def szs (sz : α → Nat) : List α → Nat
 | []=>0
 | x :: xs=>sz x + szs sz xs
theorem MH.list {mk : α → Int → Option (Int × α)} {hd : α → Int → Int → Prop} {sz : α → Nat} (h : MH mk hd sz) : ∀ (l : List α) (k : Int),1 ≤ k → k + szs sz l ≤ 1000000000000 → ∃ l',xr mk l k = some (k + szs sz l,l') ∧ yT hd l' k (k + szs sz l) ∧ l'.length = l.length
 | [],k,_,_=>⟨[],by simp [xr,szs],by simp [yT,szs],rfl⟩
 | x :: xs,k,h1,h2=>by
  simp only [szs] at h2
  obtain ⟨x',k1,k2⟩:=h x k h1 (by omega)
  obtain ⟨l',k3,k4,k5⟩:=MH.list h xs (k + sz x) (by omega) (by omega)
  refine ⟨x' :: l',?_,⟨_,k2,?_⟩,by simp [k5]⟩
  ·simp only [xr,k1,k3,szs]
   congr 2
   omega
  ·rw [show k + (szs sz (x :: xs) : Nat) = k + sz x + szs sz xs by simp only [szs]; omega]
   exact k4
end
noncomputable section
theorem pu {n : Nat} (h : n < 9223372036854775808) : IntKind.wrap .i64 (n : Int) = n:=by
 have:=ax (x:=(n : Int)) (by omega) (by omega)
 exact this
theorem mI {n : Nat} (h : n < 18446744073709551616) : (BitVec.ofInt 64 (n : Int)).toNat = n:=by
 simp only [BitVec.ofInt_natCast,BitVec.toNat_ofNat]
 exact Nat.mod_eq_of_lt h
theorem AG {a b : Nat} (ha : a < 9223372036854775808) (hb : b < 9223372036854775808) : aC .and .i64 (a : Int) (b : Int) = ((a &&& b : Nat) : Int):=by
 show IntKind.wrap .i64 ((BitVec.ofInt 64 (a : Int) &&& BitVec.ofInt 64 (b : Int)).toNat : Int) = _
 rw [BitVec.toNat_and,mI (by omega),mI (by omega)]
 exact pu (Nat.lt_of_le_of_lt Nat.and_le_left ha)
theorem B6 {a b : Nat} (ha : a < 9223372036854775808) (hb : b < 9223372036854775808) : aC .or .i64 (a : Int) (b : Int) = ((a ||| b : Nat) : Int):=by
 show IntKind.wrap .i64 ((BitVec.ofInt 64 (a : Int) ||| BitVec.ofInt 64 (b : Int)).toNat : Int) = _
 rw [BitVec.toNat_or,mI (by omega),mI (by omega)]
 exact pu (Nat.or_lt_two_pow (n:=63) ha hb)
theorem tl {a k : Nat} (ha : a < 9223372036854775808) (hk : k ≤ 62) : aC .and .i64 (a : Int) (((2 ^ k : Nat) : Int) - 1) = ((a % 2 ^ k : Nat) : Int):=by
 have h1 : 2 ^ k ≤ 2 ^ 62:=Nat.pow_le_pow_right (by omega) hk
 have h2 : 0 < 2 ^ k:=Nat.two_pow_pos k
 have h3 : (2 : Nat) ^ 62 = 4611686018427387904:=by decide
 rw [show (((2 ^ k : Nat) : Int) - 1) = ((2 ^ k - 1 : Nat) : Int) by omega,AG ha (by omega),Nat.and_two_pow_sub_one_eq_mod]
theorem dL {i x y : Nat} (h : y < 2 ^ i) : 2 ^ i * x + y = 2 ^ i * x ||| y:=(Nat.two_pow_add_eq_or_of_lt h x)
theorem pO {x k : Nat} (hk : k ≤ 62) (hx : x * 2 ^ k < 9223372036854775808) : shO .shl .i64 (x : Int) (k : Int) = some ((x * 2 ^ k : Nat) : Int):=by
 unfold shO
 rw [if_neg (by omega)]
 have hm : min ((k : Int).toNat) (IntKind.bits .i64) = k:=by
  have : IntKind.bits .i64 = 64:=rfl
  rw [this]; omega
 simp only [hm]
 congr 1
 show w64 _ = _
 have : (x : Int) * 2 ^ k = ((x * 2 ^ k : Nat) : Int):=by simp
 rw [this]
 exact ax (by omega) (by omega)
theorem xt {x k : Nat} (hk : k ≤ 62) : shO .shr .i64 (x : Int) (k : Int) = some ((x / 2 ^ k : Nat) : Int):=by
 unfold shO
 rw [if_neg (by omega)]
 have hm : min ((k : Int).toNat) (IntKind.bits .i64) = k:=by
  have : IntKind.bits .i64 = 64:=rfl
  rw [this]; omega
 simp only [hm]
 congr 1
 rw [show ((2 : Int) ^ k) = ((2 ^ k : Nat) : Int) by simp,Int.fdiv_eq_ediv_of_nonneg _ (Int.natCast_nonneg _)]
 rfl
end
end Go.Proofs.YtgcmopfhafoabaaGreatDoor.X
namespace Go.Proofs.YtgcmopfhafoabaaGreatDoor.N
open Go.Proofs.YtgcmopfhafoabaaGreatDoor.X
noncomputable section
theorem da (b c : Bool) : sel b (some c) (some false) = some (b && c):=by cases b <;> rfl
theorem tm (k : Nat) (hk : k ≤ 62) : cf (k : Int) = some ((2 ^ k : Nat) : Int):=by
 unfold cf
 have h63 : ∀ i,i ≤ 62 → 2 ^ i ≤ 4611686018427387904:=fun i hi=>Nat.pow_le_pow_right (by omega : 0 < 2) hi
 have:=xq (f:=ep (k : Int)) (fun i=>(((2 ^ i : Nat) : Int),(i : Int))) k (r:=((2 ^ k : Nat) : Int)) (fun i hi=>by
  unfold ep
  have h1:=h63 (i + 1) (by omega)
  rw [aW (by simpa using hi),kD (by omega)]
  rw [Nat.pow_succ] at h1 ⊢
  generalize 2 ^ i = x at h1 ⊢
  rw [ax (by omega) (by omega)]
  simp) (by
  unfold ep
  rw [aj (by simp)])
 rw [show ((2 ^ 0 : Nat) : Int) = 1 from rfl,show ((0 : Nat) : Int) = 0 from rfl] at this
 rw [this]
 rfl
theorem eo (n k : Nat) (hk : k ≤ 62) (hn : n * 2 ^ k < 9223372036854775808) : bc (n : Int) (k : Int) = some ((n * 2 ^ k : Nat) : Int):=by
 unfold bc
 rw [tm k hk]
 simp only [ob9]
 rw [show (n : Int) * ((2 ^ k : Nat) : Int) = ((n * 2 ^ k : Nat) : Int) by simp,ax (by omega) (by omega)]
theorem az (u low many : Nat) (hu : u < 4294967296) (hl : low ≤ 31) (hm : 1 ≤ many) (hm2 : many + low ≤ 32) : aR (u : Int) (low : Int) (many : Int) = some ((u / 2 ^ low % 2 ^ many : Nat) : Int):=by
 unfold aR aJ
 simp only [ob9]
 have w1 : w64 (32 - (low : Int)) = 32 - low:=ax (by omega) (by omega)
 have e1 : (decide ((u : Int) ≥ 0) && decide ((u : Int) ≤ 4294967295)) = true:=by simp; omega
 have e2 : (decide ((low : Int) ≥ 0) && decide ((low : Int) ≤ 31)) = true:=by simp; omega
 have e3 : (decide ((many : Int) ≥ 1) && decide ((many : Int) ≤ 32 - (low : Int))) = true:=by simp; omega
 rw [e1,e2,w1,e3]
 simp only [Bool.not_true,sel,ob9]
 rw [tm low (by omega),tm many (by omega)]
 simp only [ob9]
 have p1:=Nat.two_pow_pos low
 have p2:=Nat.two_pow_pos many
 unfold pK nL
 rw [if_neg (by omega)]
 simp only [ob9]
 rw [if_neg (by omega)]
 simp only [ob9]
 congr 1
 have q1 : Int.tdiv (u : Int) ((2 ^ low : Nat) : Int) = ((u / 2 ^ low : Nat) : Int):=rfl
 have hle : u / 2 ^ low ≤ u:=Nat.div_le_self _ _
 rw [q1]
 generalize u / 2 ^ low = q at hle ⊢
 show Int.tmod (w64 _) _ = _
 rw [ax (by omega) (by omega)]
 rfl
theorem ib1 (u low many : Nat) (hu : u < 4294967296) (hl : low ≤ 31) (hm : 1 ≤ many) (hm2 : many + low ≤ 32) : (shO .shr .i64 (u : Int) (low : Int)).bind (fun d1 =>
   (shO .shl .i64 1 (many : Int)).bind fun d2=>some (aC .and .i64 d1 (w64 (d2 - 1)))) =
  some ((u / 2 ^ low % 2 ^ many : Nat) : Int):=by
 have hp : 2 ^ many ≤ 2 ^ 32:=Nat.pow_le_pow_right (by omega) (by omega)
 have h3 : (2 : Nat) ^ 32 = 4294967296:=by decide
 rw [h3] at hp
 have h1 : shO .shl .i64 ((1 : Nat) : Int) (many : Int) = _:=pO (x:=1) (k:=many) (by omega) (by omega)
 rw [Nat.one_mul] at h1
 have hle : u / 2 ^ low ≤ u:=Nat.div_le_self _ _
 have h4:=Nat.two_pow_pos many
 have hX : ∀ X : Nat,0 < X → X ≤ 4294967296 → w64 ((X : Int) - 1) = (X : Int) - 1:=fun X h1 h2=>ax (by omega) (by omega)
 refine aa (xt (x:=u) (k:=low) (by omega)) ?_
 refine aa h1 ?_
 rw [hX _ h4 hp]
 congr 1
 exact tl (by omega) (by omega)
theorem bn (u low many : Nat) (hu : u < 4294967296) (hl : low ≤ 31) (hm : 1 ≤ many) (hm2 : many + low ≤ 32) : bj (u : Int) (low : Int) (many : Int) = some ((u / 2 ^ low % 2 ^ many : Nat) : Int):=by
 have w1 : w64 (32 - (low : Int)) = 32 - low:=ax (by omega) (by omega)
 have e1 : (decide ((u : Int) ≥ 0) && decide ((u : Int) < 4294967296)) = true:=by rw [decide_eq_true (by omega),decide_eq_true (by omega)]; rfl
 have e2 : decide ((low : Int) < 0) = false:=decide_eq_false (by omega)
 have e3 : decide ((low : Int) > 31) = false:=decide_eq_false (by omega)
 have e4 : decide ((many : Int) < 1) = false:=decide_eq_false (by omega)
 have e5 : decide ((many : Int) > 32 - (low : Int)) = false:=decide_eq_false (by omega)
 unfold bj dJ
 rw [e1,w1,e2,e3,e4,e5]
 exact ib1 u low many hu hl hm hm2
theorem iQ (u low many place : Nat) (hu : u < 4294967296) (hl : low ≤ 31) (hm : 1 ≤ many) (hm2 : many + low ≤ 32) (hp : place + many ≤ 32) : ay (low : Int) (many : Int) (place : Int) (u : Int) = some ((u / 2 ^ low % 2 ^ many * 2 ^ place : Nat) : Int):=by
 unfold ay
 rw [bn u low many hu hl hm hm2]
 simp only [ob9]
 have h1 : u / 2 ^ low % 2 ^ many < 2 ^ many:=Nat.mod_lt _ (Nat.two_pow_pos _)
 have h2 : u / 2 ^ low % 2 ^ many * 2 ^ place < 2 ^ many * 2 ^ place:=(Nat.mul_lt_mul_right (Nat.two_pow_pos _)).2 h1
 rw [← Nat.pow_add] at h2
 have h3 : 2 ^ (many + place) ≤ 2 ^ 32:=Nat.pow_le_pow_right (by omega) (by omega)
 have h4 : (2 : Nat) ^ 32 = 4294967296:=by decide
 rw [pO (by omega) (by omega)]
 rfl
theorem vF {op : Int} (h : 1 ≤ op ∧ op ≤ 11) : bw op = some 82:=by unfold bw; rw [aW (by simp; omega)]
theorem vG {op : Int} (h : 12 ≤ op ∧ op ≤ 15) : bw op = some 73:=by unfold bw; rw [aj (by simp; omega),aW (by simp; omega)]
theorem uP {op : Int} (h : op = 16) : bw op = some 83:=by subst h; rfl
theorem vH {op : Int} (h : op = 17 ∨ op = 18) : bw op = some 66:=by rcases h with rfl | rfl <;> rfl
theorem wF {op : Int} (h : op = 19) : bw op = some 85:=by subst h; rfl
theorem wG {op : Int} (h : op = 20) : bw op = some 74:=by subst h; rfl
theorem yU {op : Int} (h : op = 21) : bw op = some 69:=by subst h; rfl
theorem CS {op : Int} (h : op < 1 ∨ 21 < op) : bw op = some 32:=by
 unfold bw
 rw [aj (by simp; omega),aj (by simp; omega),aj (by simp; omega),aj (by simp; omega),aj (by simp; omega),aj (by simp; omega),aj (by simp; omega)]
theorem vI (op : Int) : (1 ≤ op ∧ op ≤ 11) ∨ (12 ≤ op ∧ op ≤ 15) ∨ op = 16 ∨ (op = 17 ∨ op = 18) ∨ op = 19 ∨ op = 20 ∨ op = 21 ∨ (op < 1 ∨ 21 < op):=by omega
end
noncomputable section
theorem tab (k : Nat) (h : k < 21) : ∃ (x : kO) (f3 f7 opc : Nat),nth j5 (k : Int) = some x ∧ x.funct3 = f3 ∧ x.funct7 = f7 ∧ x.opcode = opc ∧ f3 < 8 ∧ f7 < 128 ∧ opc < 128 ∧ nth [0,0,0,4,6,7,6,4,1,5,2,0,3,2,0,2,0,1,0,0,0] (k : Int) = some (f3 : Int) ∧
  (k < 11 → nth [0,32,1,1,1,0,0,0,0,32,0] (k : Int) = some (f7 : Int) ∧ opc = 51) ∧ (k = 11 ∨ k = 12 → opc = 19) ∧ (k = 13 → opc = 3) ∧ (k = 14 → opc = 103) ∧ (k = 15 → opc = 35) ∧ (k = 16 ∨ k = 17 → opc = 99) ∧ (k = 18 → opc = 55) ∧ (k = 19 → opc = 111) ∧ (k = 20 → opc = 115):=by
 have h' : k = 0 ∨ k = 1 ∨ k = 2 ∨ k = 3 ∨ k = 4 ∨ k = 5 ∨ k = 6 ∨ k = 7 ∨ k = 8 ∨ k = 9 ∨ k = 10 ∨ k = 11 ∨ k = 12 ∨ k = 13 ∨ k = 14 ∨ k = 15 ∨ k = 16 ∨ k = 17 ∨ k = 18 ∨ k = 19 ∨ k = 20:=by omega
 rcases h' with rfl | rfl | rfl | rfl | rfl | rfl | rfl | rfl | rfl | rfl | rfl | rfl | rfl | rfl | rfl | rfl | rfl | rfl | rfl | rfl | rfl
 ·exact ⟨_,0,0,51,rfl,rfl,rfl,rfl,by decide,by decide,by decide,rfl,fun h=>⟨rfl,rfl⟩,by decide,by decide,by decide,by decide,by decide,by decide,by decide,by decide⟩
 ·exact ⟨_,0,32,51,rfl,rfl,rfl,rfl,by decide,by decide,by decide,rfl,fun h=>⟨rfl,rfl⟩,by decide,by decide,by decide,by decide,by decide,by decide,by decide,by decide⟩
 ·exact ⟨_,0,1,51,rfl,rfl,rfl,rfl,by decide,by decide,by decide,rfl,fun h=>⟨rfl,rfl⟩,by decide,by decide,by decide,by decide,by decide,by decide,by decide,by decide⟩
 ·exact ⟨_,4,1,51,rfl,rfl,rfl,rfl,by decide,by decide,by decide,rfl,fun h=>⟨rfl,rfl⟩,by decide,by decide,by decide,by decide,by decide,by decide,by decide,by decide⟩
 ·exact ⟨_,6,1,51,rfl,rfl,rfl,rfl,by decide,by decide,by decide,rfl,fun h=>⟨rfl,rfl⟩,by decide,by decide,by decide,by decide,by decide,by decide,by decide,by decide⟩
 ·exact ⟨_,7,0,51,rfl,rfl,rfl,rfl,by decide,by decide,by decide,rfl,fun h=>⟨rfl,rfl⟩,by decide,by decide,by decide,by decide,by decide,by decide,by decide,by decide⟩
 ·exact ⟨_,6,0,51,rfl,rfl,rfl,rfl,by decide,by decide,by decide,rfl,fun h=>⟨rfl,rfl⟩,by decide,by decide,by decide,by decide,by decide,by decide,by decide,by decide⟩
 ·exact ⟨_,4,0,51,rfl,rfl,rfl,rfl,by decide,by decide,by decide,rfl,fun h=>⟨rfl,rfl⟩,by decide,by decide,by decide,by decide,by decide,by decide,by decide,by decide⟩
 ·exact ⟨_,1,0,51,rfl,rfl,rfl,rfl,by decide,by decide,by decide,rfl,fun h=>⟨rfl,rfl⟩,by decide,by decide,by decide,by decide,by decide,by decide,by decide,by decide⟩
 ·exact ⟨_,5,32,51,rfl,rfl,rfl,rfl,by decide,by decide,by decide,rfl,fun h=>⟨rfl,rfl⟩,by decide,by decide,by decide,by decide,by decide,by decide,by decide,by decide⟩
 ·exact ⟨_,2,0,51,rfl,rfl,rfl,rfl,by decide,by decide,by decide,rfl,fun h=>⟨rfl,rfl⟩,by decide,by decide,by decide,by decide,by decide,by decide,by decide,by decide⟩
 ·exact ⟨_,0,0,19,rfl,rfl,rfl,rfl,by decide,by decide,by decide,rfl,fun h=>absurd h (by decide),by decide,by decide,by decide,by decide,by decide,by decide,by decide,by decide⟩
 ·exact ⟨_,3,0,19,rfl,rfl,rfl,rfl,by decide,by decide,by decide,rfl,fun h=>absurd h (by decide),by decide,by decide,by decide,by decide,by decide,by decide,by decide,by decide⟩
 ·exact ⟨_,2,0,3,rfl,rfl,rfl,rfl,by decide,by decide,by decide,rfl,fun h=>absurd h (by decide),by decide,by decide,by decide,by decide,by decide,by decide,by decide,by decide⟩
 ·exact ⟨_,0,0,103,rfl,rfl,rfl,rfl,by decide,by decide,by decide,rfl,fun h=>absurd h (by decide),by decide,by decide,by decide,by decide,by decide,by decide,by decide,by decide⟩
 ·exact ⟨_,2,0,35,rfl,rfl,rfl,rfl,by decide,by decide,by decide,rfl,fun h=>absurd h (by decide),by decide,by decide,by decide,by decide,by decide,by decide,by decide,by decide⟩
 ·exact ⟨_,0,0,99,rfl,rfl,rfl,rfl,by decide,by decide,by decide,rfl,fun h=>absurd h (by decide),by decide,by decide,by decide,by decide,by decide,by decide,by decide,by decide⟩
 ·exact ⟨_,1,0,99,rfl,rfl,rfl,rfl,by decide,by decide,by decide,rfl,fun h=>absurd h (by decide),by decide,by decide,by decide,by decide,by decide,by decide,by decide,by decide⟩
 ·exact ⟨_,0,0,55,rfl,rfl,rfl,rfl,by decide,by decide,by decide,rfl,fun h=>absurd h (by decide),by decide,by decide,by decide,by decide,by decide,by decide,by decide,by decide⟩
 ·exact ⟨_,0,0,111,rfl,rfl,rfl,rfl,by decide,by decide,by decide,rfl,fun h=>absurd h (by decide),by decide,by decide,by decide,by decide,by decide,by decide,by decide,by decide⟩
 ·exact ⟨_,0,0,115,rfl,rfl,rfl,rfl,by decide,by decide,by decide,rfl,fun h=>absurd h (by decide),by decide,by decide,by decide,by decide,by decide,by decide,by decide,by decide⟩
theorem fY {n k : Nat} (h : n * 2 ^ k < 9223372036854775808) : w64 ((n : Int) * 2 ^ k) = ((n * 2 ^ k : Nat) : Int):=by
 have : (n : Int) * 2 ^ k = ((n * 2 ^ k : Nat) : Int):=by simp
 rw [this]
 exact ax (by omega) (by omega)
theorem jP {x : Int} (h1 : -2147483648 ≤ x) (h2 : x ≤ 2147483647) : ∃ u : Nat,u < 4294967296 ∧ (u : Int) = x % 4294967296 ∧ bG x = some (u : Int) ∧ cJ x = some (u : Int):=by
 refine ⟨(x % 4294967296).toNat,by omega,by omega,?_,?_⟩
 ·unfold bG co
  have e1 : (decide (x ≥ -2147483648) && decide (x ≤ 2147483647)) = true:=by rw [decide_eq_true (by omega),decide_eq_true (by omega)]; rfl
  rw [e1]
  simp only [ob9,Bool.not_true,sel]
  have e2 : ja .u32 x = x % 4294967296:=by
   show IntKind.wrap .u32 x = _
   simp [IntKind.wrap,IntKind.signed,IntKind.bits]
  rw [e2,ax (by omega) (by omega)]
  congr 1
  omega
 ·unfold cJ bW aJ
  have e1 : (decide (x ≥ -2147483648) && decide (x ≤ 2147483647)) = true:=by rw [decide_eq_true (by omega),decide_eq_true (by omega)]; rfl
  rw [e1]
  simp only [ob9,Bool.not_true]
  rw [aj rfl]
  by_cases h : x < 0
  ·rw [aW (by simpa using h),ax (by omega) (by omega)]
   congr 1
   omega
  ·rw [aj (by simpa using h)]
   congr 1
   omega
theorem uQ {x : Int} {p : Nat} (h1 : -(p : Int) ≤ x) (h2 : x < p) (h3 : p ≤ 4294967296) : ∃ m : Nat,m < p ∧ (m : Int) = x % p ∧ fz x p = some (m : Int):=by
 have hp : 0 < (p : Int):=by omega
 unfold fz
 by_cases h : x < 0
 ·refine ⟨(x + p).toNat,by omega,?_,?_⟩
  ·rw [Int.toNat_of_nonneg (by omega),← Int.add_emod_right,Int.emod_eq_of_lt (by omega) (by omega)]
  ·rw [aW (by simpa using h),ax (by omega) (by omega),Int.toNat_of_nonneg (by omega)]
 ·refine ⟨x.toNat,by omega,?_,?_⟩
  ·rw [Int.toNat_of_nonneg (by omega),Int.emod_eq_of_lt (by omega) (by omega)]
  ·rw [aj (by simpa using h),Int.toNat_of_nonneg (by omega)]
theorem CT {f7 rt rs f3 opc rd : Nat} (h1 : opc < 128) (h2 : rd < 32) (h3 : f3 < 8) (h4 : rs < 32) (h5 : rt < 32) :
  ((f7 * 2 ^ 25 ||| (rt * 2 ^ 20 ||| rs * 2 ^ 15 ||| f3 * 2 ^ 12 ||| opc)) ||| rd * 2 ^ 7) = f7 * 2 ^ 25 + rt * 2 ^ 20 + (rs * 2 ^ 15 + f3 * 2 ^ 12 + opc) + rd * 2 ^ 7:=by
 have e : f7 * 2 ^ 25 + rt * 2 ^ 20 + (rs * 2 ^ 15 + f3 * 2 ^ 12 + opc) + rd * 2 ^ 7 = 2 ^ 25 * f7 + (2 ^ 20 * rt + (2 ^ 15 * rs + (2 ^ 12 * f3 + (2 ^ 7 * rd + opc)))):=by omega
 rw [e,dL (i:=25) (by omega),dL (i:=20) (by omega),dL (i:=15) (by omega),dL (i:=12) (by omega),dL (i:=7) (by omega)]
 simp only [Nat.mul_comm _ (2 ^ 25),Nat.mul_comm _ (2 ^ 20),Nat.mul_comm _ (2 ^ 15),Nat.mul_comm _ (2 ^ 12),Nat.mul_comm _ (2 ^ 7)]
 ac_rfl
end
noncomputable section
def IOk (x : Instr) : Prop:=(0 ≤ x.Rd ∧ x.Rd ≤ 31) ∧ (0 ≤ x.Rs ∧ x.Rs ≤ 31) ∧ (0 ≤ x.Rt ∧ x.Rt ≤ 31) ∧
  ((1 ≤ x.Op ∧ x.Op ≤ 11 ∧ x.Imm = 0) ∨ (12 ≤ x.Op ∧ x.Op ≤ 15 ∧ x.Rt = 0 ∧ -2048 ≤ x.Imm ∧ x.Imm ≤ 2047) ∨ (x.Op = 16 ∧ x.Rd = 0 ∧ -2048 ≤ x.Imm ∧ x.Imm ≤ 2047) ∨
   ((x.Op = 17 ∨ x.Op = 18) ∧ x.Rd = 0 ∧ -4096 ≤ x.Imm ∧ x.Imm ≤ 4094 ∧ x.Imm % 2 = 0) ∨ (x.Op = 19 ∧ x.Rs = 0 ∧ x.Rt = 0 ∧ 0 ≤ x.Imm ∧ x.Imm ≤ 1048575) ∨
   (x.Op = 20 ∧ x.Rs = 0 ∧ x.Rt = 0 ∧ -1048576 ≤ x.Imm ∧ x.Imm ≤ 1048574 ∧ x.Imm % 2 = 0) ∨ (x.Op = 21 ∧ x.Rd = 0 ∧ x.Rs = 0 ∧ x.Rt = 0 ∧ x.Imm = 0))
instance (x : Instr) : Decidable (IOk x):=by unfold IOk; infer_instance
theorem bt {α : Type} {b : Bool} {x y r : α} (h : b = true) (k : x = r) : sel b x y = r:=by subst h; exact k
def sx (v n : Nat) : Int:=bif Nat.ble (2 ^ (n - 1)) v then (v : Int) - ((2 ^ n : Nat) : Int) else v
theorem xv {v n : Nat} (hn : 1 ≤ n) (hv : v < 2 ^ n) : -((2 ^ (n - 1) : Nat) : Int) ≤ sx v n ∧ sx v n < ((2 ^ (n - 1) : Nat) : Int):=by
 unfold sx
 have h2 : 2 ^ n = 2 * 2 ^ (n - 1):=by rw [← Nat.pow_succ']; congr 1; omega
 rw [h2] at hv ⊢
 generalize 2 ^ (n - 1) = p at hv ⊢
 cases hb : Nat.ble p v with
 | true =>
  have:=Nat.le_of_ble_eq_true hb
  simp only [cond_true]
  omega
 | false =>
  have : ¬ p ≤ v:=fun h=>by rw [Nat.ble_eq_true_of_le h] at hb; cases hb
  simp only [cond_false]
  omega
theorem BB (m n : Nat) (hn : 1 ≤ n) : ∃ q : Int,sx (2 * m) n = 2 * q:=by
 unfold sx
 rw [show 2 ^ n = 2 * 2 ^ (n - 1) by rw [← Nat.pow_succ']; congr 1; omega]
 generalize 2 ^ (n - 1) = p
 cases Nat.ble p (2 * m)
 ·exact ⟨m,by simp only [cond_false]; omega⟩
 ·exact ⟨m - p,by simp only [cond_true]; omega⟩
theorem xw (p v : Nat) : decide ((v : Int) ≥ (p : Int)) = Nat.ble p v:=by
 rw [Bool.eq_iff_iff]
 simp only [decide_eq_true_eq,Nat.ble_eq]
 omega
theorem nU (v n : Nat) (h1 : 1 ≤ n) (h2 : n ≤ 31) (hv : v < 2 ^ n) : cg (v : Int) (n : Int) = some (sx v n):=by
 have hp : 2 ^ n ≤ 2 ^ 31:=Nat.pow_le_pow_right (by omega) h2
 have h3 : (2 : Nat) ^ 31 = 2147483648:=by decide
 rw [h3] at hp
 have q1 : cf (w64 ((n : Int) - 1)) = some ((2 ^ (n - 1) : Nat) : Int):=by
  rw [ax (by omega) (by omega),show (n : Int) - 1 = ((n - 1 : Nat) : Int) by omega]
  exact tm (n - 1) (by omega)
 have q2:=tm n (by omega)
 have hb : Nat.ble (2 ^ (n - 1)) v = Nat.ble (2 ^ (n - 1)) v:=rfl
 unfold cg sx aJ
 generalize 2 ^ n = N at q2 hv hp ⊢
 generalize 2 ^ (n - 1) = M at q1 ⊢
 have e1 : (decide ((n : Int) ≥ 1) && decide ((n : Int) ≤ 32)) = true:=by rw [decide_eq_true (by omega),decide_eq_true (by omega)]; rfl
 have e2 : (decide ((v : Int) ≥ 0) && decide ((v : Int) ≤ (w64 ((N : Int) - 1)))) = true:=by rw [ax (by omega) (by omega),decide_eq_true (by omega),decide_eq_true (by omega)]; rfl
 refine aa (congrArg some e1) (aa (y:=false) ?_ ?_)
 ·refine ac rfl (aa q2 ?_)
  rw [e2]
  rfl
 ·refine ac rfl (aa q1 ?_)
  rw [xw]
  cases Nat.ble M v
  ·rfl
  ·refine bt rfl (aa q2 ?_)
   rw [ax (by omega) (by omega)]
   rfl
theorem dm {r a b m p q : Nat} (h : r = (a * q + m) * p + b) (hb : b < p) (hm : m < q) : r / p % q = m:=by
 subst h
 rw [Nat.add_comm,Nat.add_mul_div_right _ _ (by omega),Nat.div_eq_of_lt hb,Nat.zero_add,Nat.add_comm,Nat.add_mul_mod_self_right,Nat.mod_eq_of_lt hm]
theorem oH {i : Nat} (h : i < 21) : i = 0 ∨ i = 1 ∨ i = 2 ∨ i = 3 ∨ i = 4 ∨ i = 5 ∨ i = 6 ∨ i = 7 ∨ i = 8 ∨ i = 9 ∨ i = 10 ∨ i = 11 ∨ i = 12 ∨ i = 13 ∨ i = 14 ∨ i = 15 ∨ i = 16 ∨ i = 17 ∨ i = 18 ∨ i = 19 ∨ i = 20:=by omega
def t3 (i : Nat) : Nat:=[0,0,0,4,6,7,6,4,1,5,2,0,3,2,0,2,0,1,0,0,0].getD i 0
def t7 (i : Nat) : Nat:=[0,32,1,1,1,0,0,0,0,32,0].getD i 0
def tO (i : Nat) : Nat:=[51,51,51,51,51,51,51,51,51,51,51,19,19,3,103,35,99,99,55,111,115].getD i 0
theorem xy {k f : Nat} (hk : k < 21) (h : nth [0,0,0,4,6,7,6,4,1,5,2,0,3,2,0,2,0,1,0,0,0] (k : Int) = some (f : Int)) : f = t3 k:=by
 rcases oH hk with rfl | rfl | rfl | rfl | rfl | rfl | rfl | rfl | rfl | rfl | rfl | rfl | rfl | rfl | rfl | rfl | rfl | rfl | rfl | rfl | rfl
 all_goals (have k':=o9 h; simp only [t3]; exact (Int.ofNat.inj k').symm)
theorem CU {k f : Nat} (hk : k < 11) (h : nth [0,32,1,1,1,0,0,0,0,32,0] (k : Int) = some (f : Int)) : f = t7 k:=by
 rcases (by omega : k = 0 ∨ k = 1 ∨ k = 2 ∨ k = 3 ∨ k = 4 ∨ k = 5 ∨ k = 6 ∨ k = 7 ∨ k = 8 ∨ k = 9 ∨ k = 10) with rfl | rfl | rfl | rfl | rfl | rfl | rfl | rfl | rfl | rfl | rfl
 all_goals (have k':=o9 h; simp only [t7]; exact (Int.ofNat.inj k').symm)
theorem Dl {k : Nat} (hk : k < 11) : tO k = 51:=by
 rcases (by omega : k = 0 ∨ k = 1 ∨ k = 2 ∨ k = 3 ∨ k = 4 ∨ k = 5 ∨ k = 6 ∨ k = 7 ∨ k = 8 ∨ k = 9 ∨ k = 10) with rfl | rfl | rfl | rfl | rfl | rfl | rfl | rfl | rfl | rfl | rfl <;> rfl
theorem CX {imm : Int} {m : Nat} (hb : -2048 ≤ imm ∧ imm ≤ 2047) (hm : (m : Int) = imm % 4096) : sx m 12 = imm:=by
 unfold sx
 rw [show ((2 ^ 12 : Nat) : Int) = 4096 from rfl,show (2 ^ (12 - 1) : Nat) = 2048 from rfl]
 cases h : Nat.ble 2048 m
 ·have h' : ¬ 2048 ≤ m:=fun hh=>by rw [Nat.ble_eq_true_of_le hh] at h; cases h
  simp only [cond_false]; omega
 ·have h':=Nat.le_of_ble_eq_true h
  simp only [cond_true]; omega
theorem Dm {imm : Int} {m : Nat} (hb : -4096 ≤ imm ∧ imm ≤ 4095) (hm : (m : Int) = imm % 8192) : sx m 13 = imm:=by
 unfold sx
 rw [show ((2 ^ 13 : Nat) : Int) = 8192 from rfl,show (2 ^ (13 - 1) : Nat) = 4096 from rfl]
 cases h : Nat.ble 4096 m
 ·have h' : ¬ 4096 ≤ m:=fun hh=>by rw [Nat.ble_eq_true_of_le hh] at h; cases h
  simp only [cond_false]; omega
 ·have h':=Nat.le_of_ble_eq_true h
  simp only [cond_true]; omega
theorem Dn {imm : Int} {m : Nat} (hb : -1048576 ≤ imm ∧ imm ≤ 1048575) (hm : (m : Int) = imm % 2097152) : sx m 21 = imm:=by
 unfold sx
 rw [show ((2 ^ 21 : Nat) : Int) = 2097152 from congrArg (fun n : Nat=>(n : Int)) (show (2 ^ 21 : Nat) = 2097152 from rfl),show (2 ^ (21 - 1) : Nat) = 1048576 from rfl]
 cases h : Nat.ble 1048576 m
 ·have h' : ¬ 1048576 ≤ m:=fun hh=>by rw [Nat.ble_eq_true_of_le hh] at h; cases h
  simp only [cond_false]; omega
 ·have h':=Nat.le_of_ble_eq_true h
  simp only [cond_true]; omega
def Fl (i : Instr) (r : Nat) : Prop:=∃ k : Nat,k < 21 ∧ i.Op = (k : Int) + 1 ∧ r % 128 = tO k ∧ (k < 18 → r / 4096 % 8 = t3 k) ∧ (k < 11 → r / 33554432 % 128 = t7 k) ∧ aU i.Op (r : Int) = some i
theorem Dp {k d s t f3 f7 : Nat} (hk : k < 11) (hd : d < 32) (hs : s < 32) (ht : t < 32) (h3 : f3 = t3 k) (h3' : f3 < 8) (h7 : f7 = t7 k) (h7' : f7 < 128) : Fl ⟨(k : Int) + 1,d,s,t,0⟩ (f7 * 2 ^ 25 + t * 2 ^ 20 + (s * 2 ^ 15 + f3 * 2 ^ 12 + 51) + d * 2 ^ 7):=by
 generalize hr : f7 * 2 ^ 25 + t * 2 ^ 20 + (s * 2 ^ 15 + f3 * 2 ^ 12 + 51) + d * 2 ^ 7 = r
 simp only [Nat.reducePow] at hr
 have hu : r < 4294967296:=by omega
 have b1:=az r 7 5 hu (by omega) (by omega) (by omega)
 have b2:=az r 15 5 hu (by omega) (by omega) (by omega)
 have b3:=az r 20 5 hu (by omega) (by omega) (by omega)
 rw [show r / 2 ^ 7 % 2 ^ 5 = d by simp only [Nat.reducePow]; omega] at b1
 rw [show r / 2 ^ 15 % 2 ^ 5 = s by simp only [Nat.reducePow]; omega] at b2
 rw [show r / 2 ^ 20 % 2 ^ 5 = t by simp only [Nat.reducePow]; omega] at b3
 refine ⟨k,by omega,rfl,by rw [Dl hk]; omega,fun _=>by omega,fun _=>by omega,?_⟩
 show aU ((k : Int) + 1) (r : Int) = _
 unfold aU
 exact aa b1 (aa b2 (aa b3 (bt (decide_eq_true (by omega)) rfl)))
theorem Dq {k d s f3 o m : Nat} {imm : Int} (hk : 11 ≤ k) (hk2 : k < 15) (hd : d < 32) (hs : s < 32) (h3 : f3 = t3 k) (h3' : f3 < 8) (ho : o = tO k) (ho' : o < 128) (hb : -2048 ≤ imm ∧ imm ≤ 2047) (hm : (m : Int) = imm % 4096) : Fl ⟨(k : Int) + 1,d,s,0,imm⟩ (m * 2 ^ 20 + (s * 2 ^ 15 + f3 * 2 ^ 12 + o) + d * 2 ^ 7):=by
 have x1:=nU m 12 (by omega) (by omega) (by omega)
 rw [CX hb hm] at x1
 generalize hr : m * 2 ^ 20 + (s * 2 ^ 15 + f3 * 2 ^ 12 + o) + d * 2 ^ 7 = r
 simp only [Nat.reducePow] at hr
 have hu : r < 4294967296:=by omega
 have b1:=az r 7 5 hu (by omega) (by omega) (by omega)
 have b2:=az r 15 5 hu (by omega) (by omega) (by omega)
 have b3:=az r 20 5 hu (by omega) (by omega) (by omega)
 have b4:=az r 20 12 hu (by omega) (by omega) (by omega)
 rw [show r / 2 ^ 7 % 2 ^ 5 = d by simp only [Nat.reducePow]; omega] at b1
 rw [show r / 2 ^ 15 % 2 ^ 5 = s by simp only [Nat.reducePow]; omega] at b2
 rw [show r / 2 ^ 20 % 2 ^ 12 = m by simp only [Nat.reducePow]; omega] at b4
 refine ⟨k,by omega,rfl,by omega,fun _=>by omega,fun _=>by omega,?_⟩
 show aU ((k : Int) + 1) (r : Int) = _
 unfold aU
 exact aa b1 (aa b2 (aa b3 (ac (decide_eq_false (by omega)) (bt (decide_eq_true (by omega)) (aa b4 (aa x1 rfl))))))
theorem Ds {s t f3 h7 l5 m : Nat} {imm : Int} (hs : s < 32) (ht : t < 32) (h3 : f3 = t3 15) (h3' : f3 < 8) (h1 : h7 < 128) (h2 : l5 < 32) (hrel : h7 * 32 + l5 = m) (hb : -2048 ≤ imm ∧ imm ≤ 2047) (hm : (m : Int) = imm % 4096) : Fl ⟨16,0,s,t,imm⟩ (h7 * 2 ^ 25 + t * 2 ^ 20 + (s * 2 ^ 15 + f3 * 2 ^ 12 + 35) + l5 * 2 ^ 7):=by
 have x1:=nU m 12 (by omega) (by omega) (by omega)
 rw [CX hb hm,← hrel] at x1
 have e1 : w64 (w64 ((h7 : Int) * 32) + (l5 : Int)) = ((h7 * 32 + l5 : Nat) : Int):=by rw [ax (x:=(h7 : Int) * 32) (by omega) (by omega),ax (by omega) (by omega)]; omega
 rw [← e1] at x1
 generalize hr : h7 * 2 ^ 25 + t * 2 ^ 20 + (s * 2 ^ 15 + f3 * 2 ^ 12 + 35) + l5 * 2 ^ 7 = r
 simp only [Nat.reducePow] at hr
 have hu : r < 4294967296:=by omega
 have b1:=az r 7 5 hu (by omega) (by omega) (by omega)
 have b2:=az r 15 5 hu (by omega) (by omega) (by omega)
 have b3:=az r 20 5 hu (by omega) (by omega) (by omega)
 have b4:=az r 25 7 hu (by omega) (by omega) (by omega)
 rw [show r / 2 ^ 7 % 2 ^ 5 = l5 from dm (a:=h7 * 8192 + t * 256 + s * 8 + f3) (b:=35) (by simp only [Nat.reducePow]; omega) (by simp only [Nat.reducePow]; omega) (by simp only [Nat.reducePow]; omega)] at b1
 rw [show r / 2 ^ 15 % 2 ^ 5 = s from dm (a:=h7 * 32 + t) (b:=f3 * 4096 + l5 * 128 + 35) (by simp only [Nat.reducePow]; omega) (by simp only [Nat.reducePow]; omega) (by simp only [Nat.reducePow]; omega)] at b2
 rw [show r / 2 ^ 20 % 2 ^ 5 = t from dm (a:=h7) (b:=s * 32768 + f3 * 4096 + l5 * 128 + 35) (by simp only [Nat.reducePow]; omega) (by simp only [Nat.reducePow]; omega) (by simp only [Nat.reducePow]; omega)] at b3
 rw [show r / 2 ^ 25 % 2 ^ 7 = h7 from dm (a:=0) (b:=t * 1048576 + s * 32768 + f3 * 4096 + l5 * 128 + 35) (by simp only [Nat.reducePow]; omega) (by simp only [Nat.reducePow]; omega) (by simp only [Nat.reducePow]; omega)] at b4
 refine ⟨15,by omega,rfl,by rw [show tO 15 = 35 from rfl]; omega,fun _=>(dm (r:=r) (p:=4096) (q:=8) (m:=f3) (a:=h7 * 1024 + t * 32 + s) (b:=l5 * 128 + 35) (by omega) (by omega) h3').trans h3,fun _=>by omega,?_⟩
 unfold aU
 exact aa b1 (aa b2 (aa b3 (ac rfl (ac rfl (bt rfl (aa b4 (aa x1 rfl)))))))
theorem Dt {k s t f3 v1 v2 v3 v4 m : Nat} {imm : Int} (hk : k = 16 ∨ k = 17) (hs : s < 32) (ht : t < 32) (h3 : f3 = t3 k) (h3' : f3 < 8) (l1 : v1 < 2) (l2 : v2 < 64) (l3 : v3 < 16) (l4 : v4 < 2) (hrel : v1 * 4096 + v4 * 2048 + v2 * 32 + v3 * 2 = m) (hb : -4096 ≤ imm ∧ imm ≤ 4095) (hm : (m : Int) = imm % 8192) :
  Fl ⟨(k : Int) + 1,0,s,t,imm⟩ (v1 * 2 ^ 31 + v2 * 2 ^ 25 + t * 2 ^ 20 + (s * 2 ^ 15 + f3 * 2 ^ 12 + 99) + v3 * 2 ^ 8 + v4 * 2 ^ 7):=by
 have x1:=nU m 13 (by omega) (by omega) (by omega)
 rw [Dm hb hm,← hrel] at x1
 have e1 : w64 (w64 (w64 (w64 ((v1 : Int) * 4096) + w64 ((v4 : Int) * 2048)) + w64 ((v2 : Int) * 32)) + w64 ((v3 : Int) * 2)) = ((v1 * 4096 + v4 * 2048 + v2 * 32 + v3 * 2 : Nat) : Int):=by
  rw [ax (x:=(v1 : Int) * 4096) (by omega) (by omega),ax (x:=(v4 : Int) * 2048) (by omega) (by omega),ax (x:=(v2 : Int) * 32) (by omega) (by omega),ax (x:=(v3 : Int) * 2) (by omega) (by omega),ax (x:=(v1 : Int) * 4096 + (v4 : Int) * 2048) (by omega) (by omega),ax (x:=(v1 : Int) * 4096 + (v4 : Int) * 2048 + (v2 : Int) * 32) (by omega) (by omega),ax (by omega) (by omega)]
  omega
 rw [← e1] at x1
 generalize hr : v1 * 2 ^ 31 + v2 * 2 ^ 25 + t * 2 ^ 20 + (s * 2 ^ 15 + f3 * 2 ^ 12 + 99) + v3 * 2 ^ 8 + v4 * 2 ^ 7 = r
 simp only [Nat.reducePow] at hr
 have hu : r < 4294967296:=by omega
 have b1:=az r 7 5 hu (by omega) (by omega) (by omega)
 have b2:=az r 15 5 hu (by omega) (by omega) (by omega)
 have b3:=az r 20 5 hu (by omega) (by omega) (by omega)
 have b4:=az r 31 1 hu (by omega) (by omega) (by omega)
 have b5:=az r 7 1 hu (by omega) (by omega) (by omega)
 have b6:=az r 25 6 hu (by omega) (by omega) (by omega)
 have b7:=az r 8 4 hu (by omega) (by omega) (by omega)
 rw [show r / 2 ^ 15 % 2 ^ 5 = s from dm (a:=v1 * 2048 + v2 * 32 + t) (b:=f3 * 4096 + v3 * 256 + v4 * 128 + 99) (by simp only [Nat.reducePow]; omega) (by simp only [Nat.reducePow]; omega) (by simp only [Nat.reducePow]; omega)] at b2
 rw [show r / 2 ^ 20 % 2 ^ 5 = t from dm (a:=v1 * 64 + v2) (b:=s * 32768 + f3 * 4096 + v3 * 256 + v4 * 128 + 99) (by simp only [Nat.reducePow]; omega) (by simp only [Nat.reducePow]; omega) (by simp only [Nat.reducePow]; omega)] at b3
 rw [show r / 2 ^ 31 % 2 ^ 1 = v1 from dm (a:=0) (b:=v2 * 33554432 + t * 1048576 + s * 32768 + f3 * 4096 + v3 * 256 + v4 * 128 + 99) (by simp only [Nat.reducePow]; omega) (by simp only [Nat.reducePow]; omega) (by simp only [Nat.reducePow]; omega)] at b4
 rw [show r / 2 ^ 7 % 2 ^ 1 = v4 from dm (a:=v1 * 8388608 + v2 * 131072 + t * 4096 + s * 128 + f3 * 16 + v3) (b:=99) (by simp only [Nat.reducePow]; omega) (by simp only [Nat.reducePow]; omega) (by simp only [Nat.reducePow]; omega)] at b5
 rw [show r / 2 ^ 25 % 2 ^ 6 = v2 from dm (a:=v1) (b:=t * 1048576 + s * 32768 + f3 * 4096 + v3 * 256 + v4 * 128 + 99) (by simp only [Nat.reducePow]; omega) (by simp only [Nat.reducePow]; omega) (by simp only [Nat.reducePow]; omega)] at b6
 rw [show r / 2 ^ 8 % 2 ^ 4 = v3 from dm (a:=v1 * 524288 + v2 * 8192 + t * 256 + s * 8 + f3) (b:=v4 * 128 + 99) (by simp only [Nat.reducePow]; omega) (by simp only [Nat.reducePow]; omega) (by simp only [Nat.reducePow]; omega)] at b7
 refine ⟨k,by omega,rfl,by rcases hk with rfl | rfl <;> (show r % 128 = 99; omega),fun _=>(dm (r:=r) (p:=4096) (q:=8) (m:=f3) (a:=v1 * 65536 + v2 * 1024 + t * 32 + s) (b:=v3 * 256 + v4 * 128 + 99) (by omega) (by omega) h3').trans h3,fun _=>by omega,?_⟩
 show aU ((k : Int) + 1) (r : Int) = _
 unfold aU
 refine aa b1 (aa b2 (aa b3 (ac (decide_eq_false (by omega)) (ac (decide_eq_false (by omega)) (ac ?_ (bt ?_ (aa b4 (aa b5 (aa b6 (aa b7 (aa x1 rfl)))))))))))
 ·rcases hk with rfl | rfl <;> rfl
 ·rcases hk with rfl | rfl <;> rfl
theorem Du {d m : Nat} {imm : Int} (hd : d < 32) (hl : m < 1048576) (hm : imm = (m : Int)) : Fl ⟨19,d,0,0,imm⟩ (m * 2 ^ 12 + d * 2 ^ 7 + 55):=by
 subst hm
 generalize hr : m * 2 ^ 12 + d * 2 ^ 7 + 55 = r
 simp only [Nat.reducePow] at hr
 have hu : r < 4294967296:=by omega
 have b1:=az r 7 5 hu (by omega) (by omega) (by omega)
 have b2:=az r 15 5 hu (by omega) (by omega) (by omega)
 have b3:=az r 20 5 hu (by omega) (by omega) (by omega)
 have b4:=az r 12 20 hu (by omega) (by omega) (by omega)
 rw [show r / 2 ^ 7 % 2 ^ 5 = d by simp only [Nat.reducePow]; omega] at b1
 rw [show r / 2 ^ 12 % 2 ^ 20 = m by simp only [Nat.reducePow]; omega] at b4
 refine ⟨18,by omega,rfl,by rw [show tO 18 = 55 from rfl]; omega,fun h=>absurd h (by omega),fun h=>absurd h (by omega),?_⟩
 unfold aU
 exact aa b1 (aa b2 (aa b3 (ac rfl (ac rfl (ac rfl (ac rfl (bt rfl (aa b4 rfl))))))))
theorem Dv {d v1 v2 v3 v4 m : Nat} {imm : Int} (hd : d < 32) (l1 : v1 < 2) (l2 : v2 < 1024) (l3 : v3 < 2) (l4 : v4 < 256) (hrel : v1 * 1048576 + v4 * 4096 + v3 * 2048 + v2 * 2 = m) (hb : -1048576 ≤ imm ∧ imm ≤ 1048575) (hm : (m : Int) = imm % 2097152) :
    Fl ⟨20, d, 0, 0, imm⟩ (v1 * 2 ^ 31 + v2 * 2 ^ 21 + v3 * 2 ^ 20 + v4 * 2 ^ 12 + d * 2 ^ 7 + 111) := by
  have x1 := nU m 21 (by omega) (by omega) (by have : (2 : Nat) ^ 21 = 2097152 := rfl
                                               omega)
  rw [Dn hb hm, ← hrel] at x1
  have e1 : w64 (w64 (w64 (w64 ((v1 : Int) * 1048576) + w64 ((v4 : Int) * 4096)) + w64 ((v3 : Int) * 2048)) + w64 ((v2 : Int) * 2)) = ((v1 * 1048576 + v4 * 4096 + v3 * 2048 + v2 * 2 : Nat) : Int) := by
    rw [ax (x := (v1 : Int) * 1048576) (by omega) (by omega), ax (x := (v4 : Int) * 4096) (by omega) (by omega), ax (x := (v3 : Int) * 2048) (by omega) (by omega), ax (x := (v2 : Int) * 2) (by omega) (by omega), ax (x := (v1 : Int) * 1048576 + (v4 : Int) * 4096) (by omega) (by omega), ax (x := (v1 : Int) * 1048576 + (v4 : Int) * 4096 + (v3 : Int) * 2048) (by omega) (by omega), ax (by omega) (by omega)]
    omega
  rw [← e1] at x1
  generalize hr : v1 * 2 ^ 31 + v2 * 2 ^ 21 + v3 * 2 ^ 20 + v4 * 2 ^ 12 + d * 2 ^ 7 + 111 = r
  simp only [Nat.reducePow] at hr
  have hu : r < 4294967296 := by omega
  have b1 := az r 7 5 hu (by omega) (by omega) (by omega)
  have b2 := az r 15 5 hu (by omega) (by omega) (by omega)
  have b3 := az r 20 5 hu (by omega) (by omega) (by omega)
  have b4 := az r 31 1 hu (by omega) (by omega) (by omega)
  have b5 := az r 12 8 hu (by omega) (by omega) (by omega)
  have b6 := az r 20 1 hu (by omega) (by omega) (by omega)
  have b7 := az r 21 10 hu (by omega) (by omega) (by omega)
  rw [show r / 2 ^ 7 % 2 ^ 5 = d from dm (a := v1 * 524288 + v2 * 512 + v3 * 256 + v4) (b := 111) (by simp only [Nat.reducePow]; omega) (by simp only [Nat.reducePow]; omega) (by simp only [Nat.reducePow]; omega)] at b1
  rw [show r / 2 ^ 31 % 2 ^ 1 = v1 from dm (a := 0) (b := v2 * 2097152 + v3 * 1048576 + v4 * 4096 + d * 128 + 111) (by simp only [Nat.reducePow]; omega) (by simp only [Nat.reducePow]; omega) (by simp only [Nat.reducePow]; omega)] at b4
  rw [show r / 2 ^ 12 % 2 ^ 8 = v4 from dm (a := v1 * 2048 + v2 * 2 + v3) (b := d * 128 + 111) (by simp only [Nat.reducePow]; omega) (by simp only [Nat.reducePow]; omega) (by simp only [Nat.reducePow]; omega)] at b5
  rw [show r / 2 ^ 20 % 2 ^ 1 = v3 from dm (a := v1 * 1024 + v2) (b := v4 * 4096 + d * 128 + 111) (by simp only [Nat.reducePow]; omega) (by simp only [Nat.reducePow]; omega) (by simp only [Nat.reducePow]; omega)] at b6
  rw [show r / 2 ^ 21 % 2 ^ 10 = v2 from dm (a := v1) (b := v3 * 1048576 + v4 * 4096 + d * 128 + 111) (by simp only [Nat.reducePow]; omega) (by simp only [Nat.reducePow]; omega) (by simp only [Nat.reducePow]; omega)] at b7
  refine ⟨19, by omega, rfl, by rw [show tO 19 = 111 from rfl]; omega, fun h => absurd h (by omega), fun h => absurd h (by omega), ?_⟩
  unfold aU
  exact aa b1 (aa b2 (aa b3 (ac rfl (ac rfl (ac rfl (ac rfl (ac rfl (bt rfl (aa b4 (aa b5 (aa b6 (aa b7 (aa x1 rfl)))))))))))))
theorem Dw : Fl ⟨21,0,0,0,0⟩ 115:=by
 have b1:=az 115 7 5 (by omega) (by omega) (by omega) (by omega)
 have b2:=az 115 15 5 (by omega) (by omega) (by omega) (by omega)
 have b3:=az 115 20 5 (by omega) (by omega) (by omega) (by omega)
 refine ⟨20,by omega,rfl,rfl,fun h=>absurd h (by omega),fun h=>absurd h (by omega),?_⟩
 unfold aU
 exact aa b1 (aa b2 (aa b3 (ac rfl (ac rfl (ac rfl (ac rfl (ac rfl (ac rfl rfl))))))))
end
noncomputable section
theorem dh {a b : Nat} (h : a + b < 9223372036854775808) : w64 ((a : Int) + (b : Int)) = ((a + b : Nat) : Int):=by rw [ax (by omega) (by omega)]; omega
theorem uR {op rd rs rt imm : Int} {k srs f3 opc : Nat} (hk : op = (k : Int) + 1) (hk2 : k < 21) (hrs : rs = srs) (hs : srs < 32) (hf : nth [0,0,0,4,6,7,6,4,1,5,2,0,3,2,0,2,0,1,0,0,0] (k : Int) = some (f3 : Int)) (h3 : f3 < 8) (ho : opc < 128) :
  fA (Instr.mk op rd rs rt imm) (opc : Int) = some ((srs * 2 ^ 15 + f3 * 2 ^ 12 + opc : Nat) : Int):=by
 unfold fA fU
 simp only
 rw [hk,hrs,show (k : Int) + 1 - 1 = k by omega,ax (x:=(k : Int)) (by omega) (by omega),hf,show (15 : Int) = ((15 : Nat) : Int) from rfl,eo srs 15 (by omega) (by omega)]
 simp only [ob9]
 rw [show (12 : Int) = ((12 : Nat) : Int) from rfl,eo f3 12 (by omega) (by omega)]
 simp only [ob9]
 rw [dh (by omega),dh (by omega)]
def Enc (i : Instr) : Prop:=∃ r : Nat,r < 4294967296 ∧ (∀ k : Nat,i.Op = (k : Int) + 1 → 11 ≤ k → k ≤ 17 → nth [0,0,0,4,6,7,6,4,1,5,2,0,3,2,0,2,0,1,0,0,0] (k : Int) = some ((r / 4096 % 8 : Nat) : Int)) ∧ bB i = some (r : Int) ∧ (bf i = some true → bJ i = some ((r : Int),true)) ∧ (IOk i → Fl i r)
theorem kw {i : Instr} {r : Option (Int × Bool)} (hv : bf i = some true) : bJ i = (nth j5 (w64 (i.Op - 1))).bind fun x1=>(bG i.Imm).bind fun y2=>(bw i.Op).bind fun y3 =>
  sel (y3 == 82) (some (aC .or .i64 (aC .or .i64 (w64 (x1.funct7 * 2 ^ (min 25 (IntKind.bits .i64)))) (aC .or .i64 (aC .or .i64 (aC .or .i64 (w64 (i.Rt * 2 ^ (min 20 (IntKind.bits .i64)))) (w64 (i.Rs * 2 ^ (min 15 (IntKind.bits .i64))))) (w64 (x1.funct3 * 2 ^ (min 12 (IntKind.bits .i64))))) x1.opcode)) (w64 (i.Rd * 2 ^ (min 7 (IntKind.bits .i64)))),true)) <|
  sel (y3 == 73) ((ay 0 12 20 y2).bind fun y4 =>
  some (aC .or .i64 (aC .or .i64 y4 (aC .or .i64 (aC .or .i64 (aC .or .i64 (w64 (i.Rt * 2 ^ (min 20 (IntKind.bits .i64)))) (w64 (i.Rs * 2 ^ (min 15 (IntKind.bits .i64))))) (w64 (x1.funct3 * 2 ^ (min 12 (IntKind.bits .i64))))) x1.opcode)) (w64 (i.Rd * 2 ^ (min 7 (IntKind.bits .i64)))),true)) <|
  sel (y3 == 83) ((ay 5 7 25 y2).bind fun y5=>(ay 0 5 7 y2).bind fun y6 =>
  some (aC .or .i64 (aC .or .i64 y5 (aC .or .i64 (aC .or .i64 (aC .or .i64 (w64 (i.Rt * 2 ^ (min 20 (IntKind.bits .i64)))) (w64 (i.Rs * 2 ^ (min 15 (IntKind.bits .i64))))) (w64 (x1.funct3 * 2 ^ (min 12 (IntKind.bits .i64))))) x1.opcode)) y6,true)) <|
  sel (y3 == 66) ((ay 12 1 31 y2).bind fun y7=>(ay 5 6 25 y2).bind fun y8=>(ay 1 4 8 y2).bind fun y9=>(ay 11 1 7 y2).bind fun y10 =>
  some (aC .or .i64 (aC .or .i64 (aC .or .i64 (aC .or .i64 y7 y8) (aC .or .i64 (aC .or .i64 (aC .or .i64 (w64 (i.Rt * 2 ^ (min 20 (IntKind.bits .i64)))) (w64 (i.Rs * 2 ^ (min 15 (IntKind.bits .i64))))) (w64 (x1.funct3 * 2 ^ (min 12 (IntKind.bits .i64))))) x1.opcode)) y9) y10,true)) <|
  sel (y3 == 85) ((ay 0 20 12 y2).bind fun y11=>some (aC .or .i64 (aC .or .i64 y11 (w64 (i.Rd * 2 ^ (min 7 (IntKind.bits .i64))))) x1.opcode,true)) <|
  sel (y3 == 74) ((ay 20 1 31 y2).bind fun y12=>(ay 1 10 21 y2).bind fun y13=>(ay 11 1 20 y2).bind fun y14=>(ay 12 8 12 y2).bind fun y15 =>
  some (aC .or .i64 (aC .or .i64 (aC .or .i64 (aC .or .i64 (aC .or .i64 y12 y13) y14) y15) (w64 (i.Rd * 2 ^ (min 7 (IntKind.bits .i64))))) x1.opcode,true)) <|
  some (x1.opcode,true):=by
 unfold bJ
 rw [hv]
 rfl
theorem Dx {n : Nat} (h : n < 128) : w64 ((n : Int) * 2 ^ (min 25 (IntKind.bits .i64))) = ((n * 2 ^ 25 : Nat) : Int):=fY (k:=25) (by omega)
theorem B7 {n : Nat} (h : n < 32) : w64 ((n : Int) * 2 ^ (min 20 (IntKind.bits .i64))) = ((n * 2 ^ 20 : Nat) : Int):=fY (k:=20) (by omega)
theorem AH {n : Nat} (h : n < 32) : w64 ((n : Int) * 2 ^ (min 15 (IntKind.bits .i64))) = ((n * 2 ^ 15 : Nat) : Int):=fY (k:=15) (by omega)
theorem AI {n : Nat} (h : n < 8) : w64 ((n : Int) * 2 ^ (min 12 (IntKind.bits .i64))) = ((n * 2 ^ 12 : Nat) : Int):=fY (k:=12) (by omega)
theorem sh7 {n : Nat} (h : n < 32) : w64 ((n : Int) * 2 ^ (min 7 (IntKind.bits .i64))) = ((n * 2 ^ 7 : Nat) : Int):=fY (k:=7) (by omega)
theorem cq {a b : Nat} (ha : a < 4294967296) (hb : b < 4294967296) : a ||| b < 4294967296:=Nat.or_lt_two_pow (n:=32) ha hb
theorem lw {a b : Nat} (ha : a < 4294967296) (hb : b < 4294967296) : aC .or .i64 (a : Int) (b : Int) = ((a ||| b : Nat) : Int):=B6 (by omega) (by omega)
theorem i9 {x : Int} {n : Int} (h0 : 0 ≤ x) (h1 : x ≤ n) : ∃ k : Nat,x = k ∧ (k : Int) ≤ n:=⟨x.toNat,by omega,by omega⟩
theorem BC {op rd rs rt : Int} (h : 1 ≤ op ∧ op ≤ 11) (hd : 0 ≤ rd ∧ rd ≤ 31) (hs : 0 ≤ rs ∧ rs ≤ 31) (ht : 0 ≤ rt ∧ rt ≤ 31) : Enc (Instr.mk op rd rs rt 0):=by
 obtain ⟨d,rfl,hd2⟩:=i9 hd.1 hd.2
 obtain ⟨s,rfl,hs2⟩:=i9 hs.1 hs.2
 obtain ⟨t,rfl,ht2⟩:=i9 ht.1 ht.2
 obtain ⟨k,rfl⟩ : ∃ k : Nat,op = (k : Int) + 1:=⟨(op - 1).toNat,by omega⟩
 obtain ⟨x,f3,f7,opc,g1,g2,g3,g4,g5,g6,g7,g8,g9,_⟩:=tab k (by omega)
 obtain ⟨g10,rfl⟩:=g9 (by omega)
 obtain ⟨u,u1,u2,u3,_⟩:=jP (x:=0) (by omega) (by omega)
 refine ⟨f7 * 2 ^ 25 + t * 2 ^ 20 + (s * 2 ^ 15 + f3 * 2 ^ 12 + 51) + d * 2 ^ 7,by omega,(fun k' hk h1 h2=>by simp only at hk; omega),?_,fun hv=>?_,fun _=>Dp (by omega) (by omega) (by omega) (by omega) (xy (by omega) g8) g5 (CU (by omega) g10) g6⟩
 ·unfold bB
  simp only
  have c : ∀ n : Int,12 ≤ n → (((k : Int) + 1) == n) = false:=fun n hn=>by simp; omega
  rw [c 12 (by omega),c 13 (by omega),c 14 (by omega),c 15 (by omega),c 16 (by omega),c 17 (by omega),c 18 (by omega),c 19 (by omega),c 20 (by omega),c 21 (by omega)]
  simp only [sel,ob9]
  have hm:=uR (op:=(k : Int) + 1) (rd:=d) (rs:=s) (rt:=t) (imm:=0) (k:=k) (srs:=s) (f3:=f3) (opc:=51) rfl (by omega) rfl (by omega) g8 g5 (by omega)
  rw [show ((51 : Nat) : Int) = 51 from rfl] at hm
  rw [hm]
  unfold fV
  rw [show (k : Int) + 1 - 1 = k by omega,ax (x:=(k : Int)) (by omega) (by omega),g10]
  simp only [ob9]
  rw [show (25 : Int) = ((25 : Nat) : Int) from rfl,show (20 : Int) = ((20 : Nat) : Int) from rfl,show (7 : Int) = ((7 : Nat) : Int) from rfl,eo f7 25 (by omega) (by omega),eo t 20 (by omega) (by omega),eo d 7 (by omega) (by omega)]
  simp only [ob9]
  rw [dh (by omega),dh (by omega),dh (by omega)]
 ·rw [kw (r:=none) hv]
  simp only
  rw [show (k : Int) + 1 - 1 = k by omega,ax (x:=(k : Int)) (by omega) (by omega),g1,u3,vF (by omega)]
  simp only [ob9,sel,Int.reduceBEq]
  rw [g2,g3,g4,Dx g6,B7 (by omega),AH (by omega),AI g5,sh7 (by omega)]
  rw [lw (by omega) (by omega),lw (cq (by omega) (by omega)) (by omega),lw (cq (cq (by omega) (by omega)) (by omega)) (by omega),lw (by omega) (cq (cq (cq (by omega) (by omega)) (by omega)) (by omega)),
   lw (cq (by omega) (cq (cq (cq (by omega) (by omega)) (by omega)) (by omega))) (by omega),CT (by omega) (by omega) (by omega) (by omega) (by omega)]
theorem yV {α : Type} (x y : α) : sel false x y = y:=rfl
theorem yW {α : Type} (x y : α) : sel true x y = x:=rfl
theorem yf {x : Int} {u m p q low many : Nat} (hu : (u : Int) = x % (q : Int)) (hm : (m : Int) = x % p) (hp : 2 ^ (low + many) ∣ p) (hp2 : p ∣ q) : u / 2 ^ low % 2 ^ many = m / 2 ^ low % 2 ^ many:=by
 have e1 : u % p = m:=by
  have h1 : ((u % p : Nat) : Int) = (m : Int):=by
   rw [Int.natCast_emod,hu,hm]
   exact Int.emod_emod_of_dvd _ (Int.natCast_dvd_natCast.2 hp2)
  exact Int.ofNat.inj h1
 have e2 : ∀ n : Nat,n / 2 ^ low % 2 ^ many = n % 2 ^ (low + many) / 2 ^ low:=fun n=>by rw [Nat.pow_add,Nat.mod_mul_right_div_self]
 rw [e2 u,e2 m,← e1,Nat.mod_mod_of_dvd _ hp]
theorem pP {x : Int} {u m p low many : Nat} (hu : (u : Int) = x % 4294967296) (hm : (m : Int) = x % p) (hp : 2 ^ (low + many) ∣ p) (hp2 : ∃ c,4294967296 = p * c) : u / 2 ^ low % 2 ^ many = m / 2 ^ low % 2 ^ many:=yf (q:=4294967296) hu hm hp hp2
theorem Dy {m rs f3 opc rd : Nat} (h1 : opc < 128) (h2 : rd < 32) (h3 : f3 < 8) (h4 : rs < 32) :
  ((m * 2 ^ 20 ||| (0 ||| rs * 2 ^ 15 ||| f3 * 2 ^ 12 ||| opc)) ||| rd * 2 ^ 7) = m * 2 ^ 20 + (rs * 2 ^ 15 + f3 * 2 ^ 12 + opc) + rd * 2 ^ 7:=by
 have e : m * 2 ^ 20 + (rs * 2 ^ 15 + f3 * 2 ^ 12 + opc) + rd * 2 ^ 7 = 2 ^ 20 * m + (2 ^ 15 * rs + (2 ^ 12 * f3 + (2 ^ 7 * rd + opc))):=by omega
 rw [e,dL (i:=20) (by omega),dL (i:=15) (by omega),dL (i:=12) (by omega),dL (i:=7) (by omega)]
 simp only [Nat.mul_comm _ (2 ^ 20),Nat.mul_comm _ (2 ^ 15),Nat.mul_comm _ (2 ^ 12),Nat.mul_comm _ (2 ^ 7),Nat.zero_or]
 ac_rfl
theorem Dz {hi7 rt rs f3 lo5 : Nat} (h1 : rt < 32) (h2 : lo5 < 32) (h3 : f3 < 8) (h4 : rs < 32) :
  ((hi7 * 2 ^ 25 ||| (rt * 2 ^ 20 ||| rs * 2 ^ 15 ||| f3 * 2 ^ 12 ||| 35)) ||| lo5 * 2 ^ 7) = hi7 * 2 ^ 25 + rt * 2 ^ 20 + (rs * 2 ^ 15 + f3 * 2 ^ 12 + 35) + lo5 * 2 ^ 7:=CT (by omega) h2 h3 h4 h1
theorem DA {v1 v2 rt rs f3 v3 v4 : Nat} (h1 : rt < 32) (h2 : v2 < 64) (h3 : f3 < 8) (h4 : rs < 32) (h5 : v3 < 16) (h6 : v4 < 2) :
  ((((v1 * 2 ^ 31 ||| v2 * 2 ^ 25) ||| (rt * 2 ^ 20 ||| rs * 2 ^ 15 ||| f3 * 2 ^ 12 ||| 99)) ||| v3 * 2 ^ 8) ||| v4 * 2 ^ 7) = v1 * 2 ^ 31 + v2 * 2 ^ 25 + rt * 2 ^ 20 + (rs * 2 ^ 15 + f3 * 2 ^ 12 + 99) + v3 * 2 ^ 8 + v4 * 2 ^ 7:=by
 have e : v1 * 2 ^ 31 + v2 * 2 ^ 25 + rt * 2 ^ 20 + (rs * 2 ^ 15 + f3 * 2 ^ 12 + 99) + v3 * 2 ^ 8 + v4 * 2 ^ 7 = 2 ^ 31 * v1 + (2 ^ 25 * v2 + (2 ^ 20 * rt + (2 ^ 15 * rs + (2 ^ 12 * f3 + (2 ^ 8 * v3 + (2 ^ 7 * v4 + 99)))))):=by omega
 rw [e,dL (i:=31) (by omega),dL (i:=25) (by omega),dL (i:=20) (by omega),dL (i:=15) (by omega),dL (i:=12) (by omega),dL (i:=8) (by omega),dL (i:=7) (by omega)]
 generalize 99 = q
 simp only [Nat.mul_comm _ (2 ^ 31),Nat.mul_comm _ (2 ^ 25),Nat.mul_comm _ (2 ^ 20),Nat.mul_comm _ (2 ^ 15),Nat.mul_comm _ (2 ^ 12),Nat.mul_comm _ (2 ^ 8),Nat.mul_comm _ (2 ^ 7)]
 ac_rfl
theorem DB {u d : Nat} (h : d < 32) : (u * 2 ^ 12 ||| d * 2 ^ 7 ||| 55) = u * 2 ^ 12 + d * 2 ^ 7 + 55:=by
 have e : u * 2 ^ 12 + d * 2 ^ 7 + 55 = 2 ^ 12 * u + (2 ^ 7 * d + 55):=by omega
 rw [e,dL (i:=12) (by omega),dL (i:=7) (by omega)]
 generalize 55 = q
 simp only [Nat.mul_comm _ (2 ^ 12),Nat.mul_comm _ (2 ^ 7)]
 ac_rfl
theorem DC {v1 v2 v3 v4 d : Nat} (h2 : v2 < 1024) (h3 : v3 < 2) (h4 : v4 < 256) (h5 : d < 32) :
  (((((v1 * 2 ^ 31 ||| v2 * 2 ^ 21) ||| v3 * 2 ^ 20) ||| v4 * 2 ^ 12) ||| d * 2 ^ 7) ||| 111) = v1 * 2 ^ 31 + v2 * 2 ^ 21 + v3 * 2 ^ 20 + v4 * 2 ^ 12 + d * 2 ^ 7 + 111:=by
 have e : v1 * 2 ^ 31 + v2 * 2 ^ 21 + v3 * 2 ^ 20 + v4 * 2 ^ 12 + d * 2 ^ 7 + 111 = 2 ^ 31 * v1 + (2 ^ 21 * v2 + (2 ^ 20 * v3 + (2 ^ 12 * v4 + (2 ^ 7 * d + 111)))):=by omega
 rw [e,dL (i:=31) (by omega),dL (i:=21) (by omega),dL (i:=20) (by omega),dL (i:=12) (by omega),dL (i:=7) (by omega)]
 generalize 111 = q
 simp only [Nat.mul_comm _ (2 ^ 31),Nat.mul_comm _ (2 ^ 21),Nat.mul_comm _ (2 ^ 20),Nat.mul_comm _ (2 ^ 12),Nat.mul_comm _ (2 ^ 7)]
 ac_rfl
theorem or4 {a b c d : Nat} (h1 : a < 4294967296) (h2 : b < 4294967296) (h3 : c < 4294967296) (h4 : d < 4294967296) : aC .or .i64 (aC .or .i64 (aC .or .i64 (a : Int) (b : Int)) (c : Int)) (d : Int) = ((a ||| b ||| c ||| d : Nat) : Int):=by
 rw [lw h1 h2,lw (cq h1 h2) h3,lw (cq (cq h1 h2) h3) h4]
end
noncomputable section
theorem BD {rs rt imm : Int} (hs : 0 ≤ rs ∧ rs ≤ 31) (ht : 0 ≤ rt ∧ rt ≤ 31) (hi : -2048 ≤ imm ∧ imm ≤ 2047) : Enc (Instr.mk 16 0 rs rt imm):=by
 obtain ⟨s,rfl,hs2⟩:=i9 hs.1 hs.2
 obtain ⟨t,rfl,ht2⟩:=i9 ht.1 ht.2
 obtain ⟨x,f3,f7,opc,g1,g2,g3,g4,g5,g6,g7,g8,g9,g10,g11,g12,g13,_⟩:=tab 15 (by omega)
 obtain rfl:=g13 rfl
 obtain ⟨u,u1,u2,u3,_⟩:=jP (x:=imm) (by omega) (by omega)
 obtain ⟨m,m1,m2,m3⟩:=uQ (x:=imm) (p:=4096) (by omega) (by omega) (by omega)
 rw [show ((4096 : Nat) : Int) = 4096 from rfl] at m3
 have hm:=uR (op:=((15 : Nat) : Int) + 1) (rd:=0) (rs:=s) (rt:=t) (imm:=imm) (k:=15) (srs:=s) (f3:=f3) (opc:=35) rfl (by omega) rfl (by omega) g8 g5 g7
 have b1:=az m 5 7 (by omega) (by omega) (by omega) (by omega)
 have b2:=az m 0 5 (by omega) (by omega) (by omega) (by omega)
 have l1 : m / 2 ^ 5 % 2 ^ 7 < 128:=Nat.mod_lt _ (by decide)
 have l2 : m / 2 ^ 0 % 2 ^ 5 < 32:=Nat.mod_lt _ (by decide)
 have p1:=iQ u 5 7 25 u1 (by omega) (by omega) (by omega) (by omega)
 have p2:=iQ u 0 5 7 u1 (by omega) (by omega) (by omega) (by omega)
 rw [pP (x:=imm) (m:=m) (p:=4096) u2 m2 (by decide) ⟨1048576,rfl⟩] at p1 p2
 have hrel : m / 2 ^ 5 % 2 ^ 7 * 32 + m / 2 ^ 0 % 2 ^ 5 = m:=by omega
 generalize m / 2 ^ 5 % 2 ^ 7 = hi7 at b1 p1 l1 hrel
 generalize m / 2 ^ 0 % 2 ^ 5 = lo5 at b2 p2 l2 hrel
 refine ⟨hi7 * 2 ^ 25 + t * 2 ^ 20 + (s * 2 ^ 15 + f3 * 2 ^ 12 + 35) + lo5 * 2 ^ 7,by omega,(fun k' hk h1 h2=>by
  obtain rfl : k' = 15:=by simp only at hk; omega
  rw [g8]
  exact congrArg (fun n : Nat=>some (n : Int)) (by simp only [Nat.reducePow]; omega)),?_,fun hv=>?_,fun _=>Ds (by omega) (by omega) (xy (by omega) g8) g5 l1 l2 hrel hi m2⟩
 ·unfold bB
  refine aa (y:=false) rfl (ac rfl (ac rfl (ac rfl (bt rfl ?_))))
  refine aa m3 (aa b1 (aa (eo hi7 25 (by omega) (by omega)) (aa (eo t 20 (by omega) (by omega)) (aa hm (aa b2 (aa (eo lo5 7 (by omega) (by omega)) ?_))))))
  rw [dh (by omega),dh (by omega),dh (by omega)]
 ·rw [kw (r:=none) hv]
  refine aa g1 (aa u3 (aa (y:=83) rfl ?_))
  refine ac rfl (ac rfl (bt rfl ?_))
  refine aa p1 (aa p2 ?_)
  rw [g2,g4,B7 (by omega),AH (by omega),AI g5,or4 (a:=t * 2 ^ 20) (by omega) (by omega) (by omega) (by omega),lw (by omega) (cq (cq (cq (by omega) (by omega)) (by omega)) (by omega)),lw (cq (by omega) (cq (cq (cq (by omega) (by omega)) (by omega)) (by omega))) (by omega),Dz (by omega) l2 g5 (by omega)]
end
noncomputable section
theorem BE {op rs rt imm : Int} (h : op = 17 ∨ op = 18) (hs : 0 ≤ rs ∧ rs ≤ 31) (ht : 0 ≤ rt ∧ rt ≤ 31) (hi : -4096 ≤ imm ∧ imm ≤ 4094) : Enc (Instr.mk op 0 rs rt imm):=by
 obtain ⟨s,rfl,hs2⟩:=i9 hs.1 hs.2
 obtain ⟨t,rfl,ht2⟩:=i9 ht.1 ht.2
 obtain ⟨k,rfl⟩ : ∃ k : Nat,op = (k : Int) + 1:=⟨(op - 1).toNat,by omega⟩
 obtain ⟨x,f3,f7,opc,g1,g2,g3,g4,g5,g6,g7,g8,g9,g10,g11,g12,g13,g14,_⟩:=tab k (by omega)
 obtain rfl:=g14 (by omega)
 obtain ⟨u,u1,u2,u3,_⟩:=jP (x:=imm) (by omega) (by omega)
 obtain ⟨m,m1,m2,m3⟩:=uQ (x:=imm) (p:=8192) (by omega) (by omega) (by omega)
 rw [show ((8192 : Nat) : Int) = 8192 from rfl] at m3
 have hm:=uR (op:=(k : Int) + 1) (rd:=0) (rs:=s) (rt:=t) (imm:=imm) (k:=k) (srs:=s) (f3:=f3) (opc:=99) rfl (by omega) rfl (by omega) g8 g5 g7
 have b1:=az m 12 1 (by omega) (by omega) (by omega) (by omega)
 have b2:=az m 5 6 (by omega) (by omega) (by omega) (by omega)
 have b3:=az m 1 4 (by omega) (by omega) (by omega) (by omega)
 have b4:=az m 11 1 (by omega) (by omega) (by omega) (by omega)
 have l1 : m / 2 ^ 12 % 2 ^ 1 < 2:=Nat.mod_lt _ (by decide)
 have l2 : m / 2 ^ 5 % 2 ^ 6 < 64:=Nat.mod_lt _ (by decide)
 have l3 : m / 2 ^ 1 % 2 ^ 4 < 16:=Nat.mod_lt _ (by decide)
 have l4 : m / 2 ^ 11 % 2 ^ 1 < 2:=Nat.mod_lt _ (by decide)
 have p1:=iQ u 12 1 31 u1 (by omega) (by omega) (by omega) (by omega)
 have p2:=iQ u 5 6 25 u1 (by omega) (by omega) (by omega) (by omega)
 have p3:=iQ u 1 4 8 u1 (by omega) (by omega) (by omega) (by omega)
 have p4:=iQ u 11 1 7 u1 (by omega) (by omega) (by omega) (by omega)
 rw [pP (x:=imm) (m:=m) (p:=8192) u2 m2 (by decide) ⟨524288,rfl⟩] at p1 p2 p3 p4
 have hrel : imm % 2 = 0 → m / 2 ^ 12 % 2 ^ 1 * 4096 + m / 2 ^ 11 % 2 ^ 1 * 2048 + m / 2 ^ 5 % 2 ^ 6 * 32 + m / 2 ^ 1 % 2 ^ 4 * 2 = m:=fun he=>by omega
 generalize m / 2 ^ 12 % 2 ^ 1 = v1 at b1 p1 l1 hrel
 generalize m / 2 ^ 5 % 2 ^ 6 = v2 at b2 p2 l2 hrel
 generalize m / 2 ^ 1 % 2 ^ 4 = v3 at b3 p3 l3 hrel
 generalize m / 2 ^ 11 % 2 ^ 1 = v4 at b4 p4 l4 hrel
 refine ⟨v1 * 2 ^ 31 + v2 * 2 ^ 25 + t * 2 ^ 20 + (s * 2 ^ 15 + f3 * 2 ^ 12 + 99) + v3 * 2 ^ 8 + v4 * 2 ^ 7,by omega,(fun k' hk h1 h2=>by
  obtain rfl : k' = k:=by simp only at hk; omega
  rw [g8]
  exact congrArg (fun n : Nat=>some (n : Int)) (by simp only [Nat.reducePow]; omega)),?_,fun hv=>?_,fun hI=>Dt (by omega) (by omega) (by omega) (xy (by omega) g8) g5 l1 l2 l3 l4 (hrel (by unfold IOk at hI; simp only at hI; omega)) (by omega) m2⟩
 ·have hb : gx (Instr.mk ((k : Int) + 1) 0 s t imm) = some ((v1 * 2 ^ 31 + v2 * 2 ^ 25 + t * 2 ^ 20 + (s * 2 ^ 15 + f3 * 2 ^ 12 + 99) + v3 * 2 ^ 8 + v4 * 2 ^ 7 : Nat) : Int):=by
   unfold gx
   refine aa m3 (aa b1 (aa (eo v1 31 (by omega) (by omega)) (aa b2 (aa (eo v2 25 (by omega) (by omega)) (aa (eo t 20 (by omega) (by omega)) (aa hm (aa b3 (aa (eo v3 8 (by omega) (by omega)) (aa b4 (aa (eo v4 7 (by omega) (by omega)) ?_))))))))))
   rw [dh (by omega),dh (by omega),dh (by omega),dh (by omega),dh (by omega)]
  unfold bB
  simp only
  have c : ∀ n : Int,n ≤ 16 → (((k : Int) + 1) == n) = false:=fun n hn=>by simp; omega
  have hy : (sel (((k : Int) + 1) == 17) (some (((k : Int) + 1) == 17)) (some (((k : Int) + 1) == 18)) : Option Bool) = some true:=by
   rcases (by omega : k = 16 ∨ k = 17) with rfl | rfl <;> rfl
  rw [c 12 (by omega),c 13 (by omega),c 14 (by omega),c 15 (by omega),c 16 (by omega),hy,hb]
  simp only [yV,yW,ob9]
 ·rw [kw (r:=none) hv]
  simp only
  rw [show (k : Int) + 1 - 1 = k by omega,ax (x:=(k : Int)) (by omega) (by omega)]
  refine aa g1 (aa u3 (aa (vH h) ?_))
  refine ac rfl (ac rfl (ac rfl (bt rfl ?_)))
  refine aa p1 (aa p2 (aa p3 (aa p4 ?_)))
  have t1 : t ≤ 31:=by omega
  have s1 : s ≤ 31:=by omega
  have z1 : v1 * 2 ^ 31 < 4294967296:=Nat.lt_of_le_of_lt (Nat.mul_le_mul_right _ (Nat.le_of_lt_succ l1)) (by decide)
  have z2 : v2 * 2 ^ 25 < 4294967296:=Nat.lt_of_le_of_lt (Nat.mul_le_mul_right _ (Nat.le_of_lt_succ l2)) (by decide)
  have z3 : t * 2 ^ 20 < 4294967296:=Nat.lt_of_le_of_lt (Nat.mul_le_mul_right _ t1) (by decide)
  have z4 : s * 2 ^ 15 < 4294967296:=Nat.lt_of_le_of_lt (Nat.mul_le_mul_right _ s1) (by decide)
  have z5 : f3 * 2 ^ 12 < 4294967296:=Nat.lt_of_le_of_lt (Nat.mul_le_mul_right _ (Nat.le_of_lt_succ g5)) (by decide)
  have z6 : v3 * 2 ^ 8 < 4294967296:=Nat.lt_of_le_of_lt (Nat.mul_le_mul_right _ (Nat.le_of_lt_succ l3)) (by decide)
  have z7 : v4 * 2 ^ 7 < 4294967296:=Nat.lt_of_le_of_lt (Nat.mul_le_mul_right _ (Nat.le_of_lt_succ l4)) (by decide)
  have z8 : 99 < 4294967296:=by decide
  have zr:=cq (cq (cq z3 z4) z5) z8
  rw [g2,g4,B7 (Nat.lt_succ_of_le t1),AH (Nat.lt_succ_of_le s1),AI g5,or4 z3 z4 z5 z8,lw z1 z2,lw (cq z1 z2) zr,lw (cq (cq z1 z2) zr) z6,lw (cq (cq (cq z1 z2) zr) z6) z7,DA (Nat.lt_succ_of_le t1) l2 g5 (Nat.lt_succ_of_le s1) l3 l4]
end
noncomputable section
theorem BF {rd imm : Int} (hd : 0 ≤ rd ∧ rd ≤ 31) (hi : 0 ≤ imm ∧ imm ≤ 1048575) : Enc (Instr.mk 19 rd 0 0 imm):=by
 obtain ⟨d,rfl,hd2⟩:=i9 hd.1 hd.2
 obtain ⟨m,rfl,hm2⟩:=i9 hi.1 hi.2
 obtain ⟨x,f3,f7,opc,g1,g2,g3,g4,g5,g6,g7,g8,g9,g10,g11,g12,g13,g14,g15,_⟩:=tab 18 (by omega)
 obtain rfl:=g15 rfl
 obtain ⟨u,u1,u2,u3,_⟩:=jP (x:=(m : Int)) (by omega) (by omega)
 obtain rfl : u = m:=by omega
 have p1:=iQ u 0 20 12 u1 (by omega) (by omega) (by omega) (by omega)
 rw [show u / 2 ^ 0 % 2 ^ 20 = u by omega] at p1
 refine ⟨u * 2 ^ 12 + d * 2 ^ 7 + 55,by omega,(fun k' hk h1 h2=>by simp only at hk; omega),?_,fun hv=>?_,fun _=>Du (by omega) (by omega) rfl⟩
 ·unfold bB
  refine aa (y:=false) rfl (ac rfl (ac rfl (ac rfl (ac rfl (aa (y:=false) rfl (ac rfl (bt rfl (aa (eo u 12 (by omega) (by omega)) (aa (eo d 7 (by omega) (by omega)) ?_)))))))))
  rw [dh (by omega)]
  exact congrArg some (dh (a:=u * 2 ^ 12 + d * 2 ^ 7) (b:=55) (by omega))
 ·rw [kw (r:=none) hv]
  refine aa g1 (aa u3 (aa (y:=85) rfl ?_))
  refine ac rfl (ac rfl (ac rfl (ac rfl (bt rfl ?_))))
  refine aa p1 ?_
  have z1 : u * 2 ^ 12 < 4294967296:=by omega
  have z2 : d * 2 ^ 7 < 4294967296:=by omega
  have z8 : 55 < 4294967296:=by omega
  rw [g4,sh7 (by omega),lw z1 z2,lw (cq z1 z2) z8,DB (by omega)]
theorem BG {rd imm : Int} (hd : 0 ≤ rd ∧ rd ≤ 31) (hi : -1048576 ≤ imm ∧ imm ≤ 1048574) : Enc (Instr.mk 20 rd 0 0 imm):=by
 obtain ⟨d,rfl,hd2⟩:=i9 hd.1 hd.2
 obtain ⟨x,f3,f7,opc,g1,g2,g3,g4,g5,g6,g7,g8,g9,g10,g11,g12,g13,g14,g15,g16,_⟩:=tab 19 (by omega)
 obtain rfl:=g16 rfl
 obtain ⟨u,u1,u2,u3,_⟩:=jP (x:=imm) (by omega) (by omega)
 obtain ⟨m,m1,m2,m3⟩:=uQ (x:=imm) (p:=2097152) (by omega) (by omega) (by omega)
 rw [show ((2097152 : Nat) : Int) = 2097152 from rfl] at m3
 have b1:=az m 20 1 (by omega) (by omega) (by omega) (by omega)
 have b2:=az m 1 10 (by omega) (by omega) (by omega) (by omega)
 have b3:=az m 11 1 (by omega) (by omega) (by omega) (by omega)
 have b4:=az m 12 8 (by omega) (by omega) (by omega) (by omega)
 have l1 : m / 2 ^ 20 % 2 ^ 1 < 2:=Nat.mod_lt _ (by decide)
 have l2 : m / 2 ^ 1 % 2 ^ 10 < 1024:=Nat.mod_lt _ (by decide)
 have l3 : m / 2 ^ 11 % 2 ^ 1 < 2:=Nat.mod_lt _ (by decide)
 have l4 : m / 2 ^ 12 % 2 ^ 8 < 256:=Nat.mod_lt _ (by decide)
 have p1:=iQ u 20 1 31 u1 (by omega) (by omega) (by omega) (by omega)
 have p2:=iQ u 1 10 21 u1 (by omega) (by omega) (by omega) (by omega)
 have p3:=iQ u 11 1 20 u1 (by omega) (by omega) (by omega) (by omega)
 have p4:=iQ u 12 8 12 u1 (by omega) (by omega) (by omega) (by omega)
 rw [pP (x:=imm) (m:=m) (p:=2097152) u2 m2 (by decide) ⟨2048,rfl⟩] at p1 p2 p3 p4
 have hrel : imm % 2 = 0 → m / 2 ^ 20 % 2 ^ 1 * 1048576 + m / 2 ^ 12 % 2 ^ 8 * 4096 + m / 2 ^ 11 % 2 ^ 1 * 2048 + m / 2 ^ 1 % 2 ^ 10 * 2 = m:=fun he=>by simp only [Nat.reducePow]; omega
 generalize m / 2 ^ 20 % 2 ^ 1 = v1 at b1 p1 l1 hrel
 generalize m / 2 ^ 1 % 2 ^ 10 = v2 at b2 p2 l2 hrel
 generalize m / 2 ^ 11 % 2 ^ 1 = v3 at b3 p3 l3 hrel
 generalize m / 2 ^ 12 % 2 ^ 8 = v4 at b4 p4 l4 hrel
 refine ⟨v1 * 2 ^ 31 + v2 * 2 ^ 21 + v3 * 2 ^ 20 + v4 * 2 ^ 12 + d * 2 ^ 7 + 111,by omega,(fun k' hk h1 h2=>by simp only at hk; omega),?_,fun hv=>?_,fun hI=>Dv (by omega) l1 l2 l3 l4 (hrel (by unfold IOk at hI; simp only at hI; omega)) (by omega) m2⟩
 ·have hj : jJ (Instr.mk 20 d 0 0 imm) = some ((v1 * 2 ^ 31 + v2 * 2 ^ 21 + v3 * 2 ^ 20 + v4 * 2 ^ 12 + d * 2 ^ 7 + 111 : Nat) : Int):=by
   unfold jJ
   refine aa m3 (aa b1 (aa (eo v1 31 (by omega) (by omega)) (aa b2 (aa (eo v2 21 (by omega) (by omega)) (aa b3 (aa (eo v3 20 (by omega) (by omega)) (aa b4 (aa (eo v4 12 (by omega) (by omega)) (aa (eo d 7 (by omega) (by omega)) ?_)))))))))
   rw [dh (by omega),dh (by omega),dh (by omega),dh (by omega)]
   exact congrArg some (dh (a:=v1 * 2 ^ 31 + v2 * 2 ^ 21 + v3 * 2 ^ 20 + v4 * 2 ^ 12 + d * 2 ^ 7) (b:=111) (by omega))
  unfold bB
  exact aa (y:=false) rfl (ac rfl (ac rfl (ac rfl (ac rfl (aa (y:=false) rfl (ac rfl (ac rfl (bt rfl (aa hj rfl)))))))))
 ·rw [kw (r:=none) hv]
  refine aa g1 (aa u3 (aa (y:=74) rfl ?_))
  refine ac rfl (ac rfl (ac rfl (ac rfl (ac rfl (bt rfl ?_)))))
  refine aa p1 (aa p2 (aa p3 (aa p4 ?_)))
  have d1 : d ≤ 31:=by omega
  have z1 : v1 * 2 ^ 31 < 4294967296:=Nat.lt_of_le_of_lt (Nat.mul_le_mul_right _ (Nat.le_of_lt_succ l1)) (by decide)
  have z2 : v2 * 2 ^ 21 < 4294967296:=Nat.lt_of_le_of_lt (Nat.mul_le_mul_right _ (Nat.le_of_lt_succ l2)) (by decide)
  have z3 : v3 * 2 ^ 20 < 4294967296:=Nat.lt_of_le_of_lt (Nat.mul_le_mul_right _ (Nat.le_of_lt_succ l3)) (by decide)
  have z4 : v4 * 2 ^ 12 < 4294967296:=Nat.lt_of_le_of_lt (Nat.mul_le_mul_right _ (Nat.le_of_lt_succ l4)) (by decide)
  have z5 : d * 2 ^ 7 < 4294967296:=Nat.lt_of_le_of_lt (Nat.mul_le_mul_right _ d1) (by decide)
  have z8 : 111 < 4294967296:=by decide
  rw [g4,sh7 (Nat.lt_succ_of_le d1),lw z1 z2,lw (cq z1 z2) z3,lw (cq (cq z1 z2) z3) z4,lw (cq (cq (cq z1 z2) z3) z4) z5,lw (cq (cq (cq (cq z1 z2) z3) z4) z5) z8,DC l2 l3 l4 (Nat.lt_succ_of_le d1)]
theorem BH : Enc (Instr.mk 21 0 0 0 0):=by
 obtain ⟨x,f3,f7,opc,g1,g2,g3,g4,g5,g6,g7,g8,g9,g10,g11,g12,g13,g14,g15,g16,g17⟩:=tab 20 (by omega)
 obtain rfl:=g17 rfl
 obtain ⟨u,u1,u2,u3,_⟩:=jP (x:=0) (by omega) (by omega)
 refine ⟨115,by omega,(fun k' hk h1 h2=>by simp only at hk; omega),?_,fun hv=>?_,fun _=>Dw⟩
 ·unfold bB
  exact aa (y:=false) rfl (ac rfl (ac rfl (ac rfl (ac rfl (aa (y:=false) rfl (ac rfl (ac rfl (ac rfl (bt rfl rfl)))))))))
 ·rw [kw (r:=none) hv]
  refine aa g1 (aa u3 (aa (y:=69) rfl ?_))
  refine ac rfl (ac rfl (ac rfl (ac rfl (ac rfl (ac rfl (?_))))))
  rw [g4]
end
noncomputable section
theorem BI {op rd rs imm : Int} (h : 12 ≤ op ∧ op ≤ 15) (hd : 0 ≤ rd ∧ rd ≤ 31) (hs : 0 ≤ rs ∧ rs ≤ 31) (hi : -2048 ≤ imm ∧ imm ≤ 2047) : Enc (Instr.mk op rd rs 0 imm):=by
 obtain ⟨d,rfl,hd2⟩:=i9 hd.1 hd.2
 obtain ⟨s,rfl,hs2⟩:=i9 hs.1 hs.2
 obtain ⟨k,rfl⟩ : ∃ k : Nat,op = (k : Int) + 1:=⟨(op - 1).toNat,by omega⟩
 obtain ⟨x,f3,f7,opc,g1,g2,g3,g4,g5,g6,g7,g8,g9,g10,g11,g12,_⟩:=tab k (by omega)
 obtain ⟨u,u1,u2,u3,_⟩:=jP (x:=imm) (by omega) (by omega)
 obtain ⟨m,m1,m2,m3⟩:=uQ (x:=imm) (p:=4096) (by omega) (by omega) (by omega)
 rw [show ((4096 : Nat) : Int) = 4096 from rfl] at m3
 have hm:=uR (op:=(k : Int) + 1) (rd:=d) (rs:=s) (rt:=0) (imm:=imm) (k:=k) (srs:=s) (f3:=f3) (opc:=opc) rfl (by omega) rfl (by omega) g8 g5 g7
 have him : gw (Instr.mk ((k : Int) + 1) d s 0 imm) opc = some ((m * 2 ^ 20 + (s * 2 ^ 15 + f3 * 2 ^ 12 + opc) + d * 2 ^ 7 : Nat) : Int):=by
  unfold gw
  rw [hm]
  simp only
  rw [m3]
  simp only [ob9]
  rw [show (20 : Int) = ((20 : Nat) : Int) from rfl,show (7 : Int) = ((7 : Nat) : Int) from rfl,eo m 20 (by omega) (by omega),eo d 7 (by omega) (by omega)]
  simp only [ob9]
  rw [dh (by omega),dh (by omega)]
 refine ⟨m * 2 ^ 20 + (s * 2 ^ 15 + f3 * 2 ^ 12 + opc) + d * 2 ^ 7,by omega,(fun k' hk h1 h2=>by
  obtain rfl : k' = k:=by simp only at hk; omega
  rw [g8]
  exact congrArg (fun n : Nat=>some (n : Int)) (by simp only [Nat.reducePow]; omega)),?_,fun hv=>?_,fun _=>Dq (by omega) (by omega) (by omega) (by omega) (xy (by omega) g8) g5 (by rcases (by omega : k = 11 ∨ k = 12 ∨ k = 13 ∨ k = 14) with rfl | rfl | rfl | rfl <;> first | exact g10 (.inl rfl) | exact g10 (.inr rfl) | exact g11 rfl | exact g12 rfl) g7 hi m2⟩
 ·unfold bB
  simp only
  rcases (by omega : k = 11 ∨ k = 12 ∨ k = 13 ∨ k = 14) with rfl | rfl | rfl | rfl
  ·obtain rfl:=g10 (by omega)
   exact aa (y:=true) rfl (aa him rfl)
  ·obtain rfl:=g10 (by omega)
   exact aa (y:=true) rfl (aa him rfl)
  ·obtain rfl:=g11 (by omega)
   exact aa (y:=false) rfl (aa him rfl)
  ·obtain rfl:=g12 (by omega)
   exact aa (y:=false) rfl (aa him rfl)
 ·rw [kw (r:=none) hv]
  have hp:=iQ u 0 12 20 u1 (by omega) (by omega) (by omega) (by omega)
  rw [pP (x:=imm) (m:=m) (p:=4096) u2 m2 (by decide) ⟨1048576,rfl⟩] at hp
  have hp' : ay 0 12 20 (u : Int) = some ((m * 2 ^ 20 : Nat) : Int):=by
   rw [show m * 2 ^ 20 = m / 2 ^ 0 % 2 ^ 12 * 2 ^ 20 by omega]
   exact hp
  have h0 : w64 (0 * 2 ^ (min 20 (IntKind.bits .i64))) = ((0 : Nat) : Int):=by decide
  simp only
  rw [show (k : Int) + 1 - 1 = k by omega,ax (x:=(k : Int)) (by omega) (by omega)]
  refine aa g1 (aa u3 (aa (vG (by omega)) ?_))
  refine ac rfl (bt rfl ?_)
  refine aa hp' ?_
  rw [g2,g4,h0,AH (by omega),AI g5,sh7 (by omega),or4 (a:=0) (by omega) (by omega) (by omega) (by omega),lw (by omega) (cq (cq (cq (by omega) (by omega)) (by omega)) (by omega)),lw (cq (by omega) (cq (cq (cq (by omega) (by omega)) (by omega)) (by omega))) (by omega),Dy g7 (by omega) g5 (by omega)]
end

end Go.Proofs.YtgcmopfhafoabaaGreatDoor.N
