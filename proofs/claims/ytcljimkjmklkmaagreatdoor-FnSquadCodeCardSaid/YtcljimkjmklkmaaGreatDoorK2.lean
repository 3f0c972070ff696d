/- The program logic: rows that are only read from now on (frozen); one row several times in a row of rows. The program logic: a row's first element is taken out:  -/
import Derived.Test.YtcljimkjmklkmaaGreatDoorK1
import Derived.Laws.Cover3
import Derived.Test.YtcljimkjmklkmaaGreatDoorProg
set_option linter.unusedVariables false
set_option linter.unusedSimpArgs false
set_option maxRecDepth 100000
set_option maxHeartbeats 40000000
namespace Go.Proofs.YtcljimkjmklkmaaGreatDoor.X
noncomputable section
variable {P : Program} {n : Nat} {ops : Array Oper} {o : Oper} {rest : List Oper} {E E' : Env} {W W' w w0 : World} {a : Act} {v u v2 : Value} {K : Env → World → Prop} {M T S : Nat → Prop} {L L0 L1 : List Ent}
variable {t e : TypeId} {ag : Bool} {z : Option Value} {zv : Value} {size bytes : Nat} {α β : Type} {enc : α → D} {l l2 r : List α} {i : Int} {x y : α} {d : D} {ds xs ys : List D} {cs c1 : List Value}
variable {rs : List (Value × Nat × Nat × List D)} {ls : List (Value × Nat × Value)}
def Frz (rs : List (Value × Nat × Nat × List D)) (ls : List (Value × Nat × Value)) (W : World) (S : Nat → Prop) : Prop:=
 (∀ r ∈ rs,D.rd W (.row r.2.1 r.2.2.1 r.2.2.2) S [r.1]) ∧ ∀ q ∈ ls,∃ ad,adr q.1 = some ad ∧ S ad.block ∧ W.cell? (ad.add q.2.1) = some q.2.2
theorem t9 (ad : Addr) (j : Nat) : (ad.add j).block = ad.block:=by unfold Addr.add; split <;> rfl
theorem Frz.agree (h : Frz rs ls W S) (ha : eB S W W') : Frz rs ls W' S:=
 ⟨fun r hr=>D.rd_agree (h.1 r hr) ha,fun q hq=>by
  obtain ⟨ad,h1,h2,h3⟩:=h.2 q hq
  refine ⟨ad,h1,h2,?_⟩
  rw [World.cell?_of_block (w:=W) (w':=W') (by rw [t9]; exact ha _ h2)]
  exact h3⟩
theorem Frz.mono (h : Frz rs ls W S) (hs : ∀ b,S b → T b) : Frz rs ls W T:=
 ⟨fun r hr=>D.rd_mono (h.1 r hr) hs,fun q hq=>let ⟨ad,h1,h2,h3⟩:=h.2 q hq; ⟨ad,h1,hs _ h2,h3⟩⟩
abbrev iy (rs : List (Value × Nat × Nat × List D)) (ls : List (Value × Nat × Value)) : Ent:=.any (Frz rs ls) Frz.agree Frz.mono
theorem Sep.frz (h : Sep M w0 W (ae v e size enc l :: L)) : Sep M w0 W (iy [(v,e,size,l.map enc)] [] :: L):=by
 obtain ⟨S,hS,h1,hrest⟩:=h.own
 refine Sep.of_parts (L':=[iy [(v,e,size,l.map enc)] []]) h.frame hS hrest (dh.refl _ _) ⟨S,fun b hb=>.inl hb,⟨fun r hr=>?_,fun q hq=>by simp at hq⟩,trivial⟩
 simp only [List.mem_singleton] at hr
 subst hr
 exact D.own_rd (d:=.row e size (l.map enc)) h1
theorem Sep.lendz (h : Sep M w0 W (iy rs ls :: L)) (j : Nat) (hj : rs[j]? = some (v,e,size,l.map enc)) : RV W (Old No W) v e size enc l:=by
 obtain ⟨S,hS,h1,_⟩:=h.own
 exact D.rd_mono (h1.1 _ (List.mem_of_getElem? hj)) fun b hb=>⟨(hS b hb).2,id⟩
theorem Sep.cellz {k : Nat} (h : Sep M w0 W (iy rs ls :: L)) (j : Nat) (hj : ls[j]? = some (v,k,u)) : ∀ i u',[u][i]? = some u' → W.cell? (co (adr v) (k + i)) = some u':=by
 obtain ⟨S,hS,h1,_⟩:=h.own
 obtain ⟨ad,k1,k2,k3⟩:=h1.2 _ (List.mem_of_getElem? hj)
 intro i u' hi
 match i,hi with
 | 0,hi =>
  have : u = u':=by simpa using hi
  subst this
  have k1' : adr v = some ad:=k1
  rw [k1']
  exact k3
 | i + 1,hi=>simp at hi
theorem Sep.wkz {r0 : Value × Nat × Nat × List D} (h : Sep M w0 W (iy (r0 :: rs) ls :: L)) : Sep M w0 W (iy [r0] [] :: L):=by
 obtain ⟨S,hS,h1,hrest⟩:=h.own
 refine Sep.of_parts (L':=[iy [r0] []]) h.frame hS hrest (dh.refl _ _) ⟨S,fun b hb=>.inl hb,⟨fun r hr=>h1.1 r ?_,fun q hq=>by simp at hq⟩,trivial⟩
 simp only [List.mem_singleton] at hr
 subst hr
 simp
theorem Sep.opz {e2 s2 : Nat} {enc2 : β → D} {y : List β} (h : Sep M w0 W (iy ((v,e,1,l.map enc) :: rs) ls :: L)) (hx : nth l i = some x) (hf : enc x = .row e2 s2 (y.map enc2)) :
  ∃ k : Hd,Sep M w0 W (iy ((v,e,1,l.map enc) :: (sv k,e2,s2,y.map enc2) :: rs) ((v,i.toNat * 1,sv k) :: ls) :: L):=by
 obtain ⟨S,hS,h1,hrest⟩:=h.own
 have hr : RV W S v e 1 enc l:=h1.1 _ (List.mem_cons_self ..)
 obtain ⟨A,c,rfl⟩:=hr.shape
 obtain ⟨ad,rfl⟩:=Rd.some hr hx
 have hbl : S ad.block:=by
  obtain ⟨A',cap,cc,e1,e2,e3,e4,e5,e6⟩:=hr
  simp only [List.cons.injEq,and_true,Value.slice.injEq] at e1
  obtain ⟨h0,hl,h2⟩:=fb hx
  obtain ⟨ad',f1,f2,_⟩:=e5 (by intro hn; rw [List.map_eq_nil_iff] at hn; subst hn; simp at hl)
  rw [← e1.1] at f1
  injection f1 with f1
  subst f1
  exact f2
 obtain ⟨cs,q1,q2⟩:=RV.el2 hr hx
 have q3:=q1 S hr
 rw [hf] at q3
 obtain ⟨d1,d2,g1,g2,g3,g4⟩:=q3
 have g4' : d2 = []:=g4
 subst g4'
 rw [List.append_nil] at g1
 subst g1
 have g3':=g3
 obtain ⟨A2,cap2,c2,f1,_⟩:=g3
 refine ⟨⟨A2,(y.map enc2).length,cap2⟩,Sep.of_parts (L':=[_]) h.frame hS hrest (dh.refl _ _) ⟨S,fun b hb=>.inl hb,⟨fun r hr'=>?_,fun q hq=>?_⟩,trivial⟩⟩
 ·rcases List.mem_cons.1 hr' with rfl | hr'
  ·exact hr
  ·rcases List.mem_cons.1 hr' with rfl | hr'
   ·rw [f1] at g3'; exact g3'
   ·exact h1.1 r (List.mem_cons_of_mem _ hr')
 ·rcases List.mem_cons.1 hq with rfl | hq
  ·refine ⟨ad,rfl,hbl,?_⟩
   have:=q2 W (eB.refl _ _) 0 (sv ⟨A2,(y.map enc2).length,cap2⟩) (by rw [f1]; rfl)
   exact this
  ·exact h1.2 q hq
def Mul (v : Value) (e size : Nat) (xs : List D) (j : Nat) (cs : List Value) (d : D) (W : World) (S : Nat → Prop) : Prop:=bJ W [.dat [d] cs,.hole v e size xs j cs] S
theorem Mul.agree {j : Nat} (h : Mul v e size xs j cs d W S) (ha : eB S W W') : Mul v e size xs j cs d W' S:=bJ.agree h ha
theorem Mul.mono {j : Nat} (h : Mul v e size xs j cs d W S) (hs : ∀ b,S b → T b) : Mul v e size xs j cs d W T:=bJ.mono h hs
abbrev zO (v : Value) (e size : Nat) (xs : List D) (j : Nat) (cs : List Value) (d : D) : Ent:=.any (Mul v e size xs j cs d) Mul.agree Mul.mono
theorem Sep.mul {j : Nat} (h : Sep M w0 W (.dat [d] cs :: .hole v e size xs j cs :: L)) : Sep M w0 W (zO v e size xs j cs d :: L):=by
 obtain ⟨S,h1,h2,h3⟩:=bJ.split (L1:=[.dat [d] cs,.hole v e size xs j cs]) h.own
 exact ⟨h.frame,S,h1,h2,h3⟩
theorem Mul.parts {j : Nat} (h : Mul v e size xs j cs d W S) : ∃ (c1 c2 : List Value) (S1 : Nat → Prop),W.ownsRow 0 e size v xs.length (c1 ++ (cs ++ c2)) ∧ (∀ g,v.ownBlock = some g → S g) ∧ (∀ b,S1 b → S b ∧ v.ownBlock ≠ some b) ∧ c1.length = j * size ∧ cs.length = size ∧ j < xs.length ∧
  (∀ x ∈ xs,x.sz = size) ∧ d.sz = size ∧ D.rds W (xs.set j d) S1 (c1 ++ (cs ++ c2)) ∧ D.rd W d S1 cs ∧ ∀ u ∈ cs,u.oneCell' = true:=by
 obtain ⟨Sa,hSa,⟨S3,d1,d2,g1,g2,g3,g4,g5⟩,Sb,hSb,⟨c1,c2,r1,k2,k3,k4,s1,S',p1,o1⟩,_⟩:=h
 have g5' : d2 = []:=g5
 subst g5'
 rw [List.append_nil] at g1
 subst g1
 have hdown:=D.own_mono g4 g3
 have hin:=uq (S1:=Sa) o1 s1 k2 k4 hdown (fun b hb hb'=>(hSb b (p1 b hb').1).2 hb)
 refine ⟨c1,c2,fun b=>Sa b ∨ S' b,r1.1,fun g hg=>(hSb g (r1.2 g hg)).1,fun b hb=>⟨hb.elim (hSa b) fun hb=>(hSb b (p1 b hb).1).1,fun hv=>?_⟩,k2,k3,k4,s1,by rw [← D.own_length g4,k3],D.owns_rds hin,D.rd_mono (D.own_rd hdown) fun b hb=>.inl hb,D.own_one g4⟩
 rcases hb with hb | hb
 ·exact (hSb b (r1.2 b hv)).2 hb
 ·exact (p1 b hb).2 hv
theorem ve {n j : Nat} (h : W.ownsRow 0 e size v n cs) (hj : cs[j]? = some u) : ∃ g,adr v = some ⟨g,0,none⟩ ∧ v.ownBlock = some g ∧ W.cell? ((⟨g,0,none⟩ : Addr).add j) = some u:=by
 rcases h.2 with ⟨hv,hn⟩ | ⟨g,cap,cur,hv,_,hg,hnc,hcm,hcs,htake⟩
 ·have:=h.1
  rw [hn,Nat.zero_mul] at this
  have:=List.eq_nil_of_length_eq_zero this
  subst this
  simp at hj
 ·subst hv
  refine ⟨g,rfl,rfl,?_⟩
  have hadd : (⟨g,0,none⟩ : Addr).add j = ⟨g,j,none⟩:=by unfold Addr.add; split <;> simp_all
  rw [hadd,cell_of_row W g j cur e (0,0) hg]
  rw [← htake,List.getElem?_take] at hj
  split at hj
  ·simpa using hj
  ·cases hj
theorem yq {ys : List D} {S1 : Nat → Prop} (h : W.ownsRow 0 e size v ys.length cs) (h2 : ∀ g,v.ownBlock = some g → S g) (hs : ∀ y ∈ ys,y.sz = size) (hr : D.rds W ys S1 cs) (h1 : ∀ b,S1 b → S b) : D.rd W (.row e size ys) S [v]:=by
 have hc:=fun j u (hj : cs[j]? = some u)=>ve (j:=j) h hj
 rcases h.2 with ⟨hv,hn⟩ | ⟨g,cap,cur,hv,_,hg,hnc,hcm,hcs,htake⟩
 ·have : ys = []:=List.eq_nil_of_length_eq_zero hn
  subst this hv
  exact ⟨none,0,cs,rfl,Nat.le_refl _,by simp [maxLen],hs,fun hne=>absurd rfl hne,D.rds_mono hr h1⟩
 ·subst hv
  refine ⟨some ⟨g,0,none⟩,cap,cs,rfl,hnc,Nat.le_trans hnc hcm,hs,fun _=>⟨_,rfl,h2 g rfl,fun j u hj=>?_⟩,D.rds_mono hr h1⟩
  obtain ⟨g',e1,_,e3⟩:=hc j u hj
  have e1' : some (⟨g,0,none⟩ : Addr) = some ⟨g',0,none⟩:=e1
  injection e1' with e1'
  rw [e1']
  exact e3
theorem w5 {enc : α → D} (hx : nth l i = some x) : (l.map enc).set i.toNat (enc x) = l.map enc:=by rw [← List.map_set,va hx]
theorem Sep.mulz {e2 s2 : Nat} {enc2 : β → D} {y : List β} (hx : nth l i = some x) (hf : enc x = .row e2 s2 (y.map enc2)) (h : Sep M w0 W (zO v e 1 (l.map enc) i.toNat [u] (enc x) :: L)) : Sep M w0 W (iy [(v,e,1,l.map enc),(u,e2,s2,y.map enc2)] [(v,i.toNat * 1,u)] :: L):=by
 obtain ⟨S,hS,hm,hrest⟩:=h.own
 obtain ⟨c1,c2,S1,p1,p2,p3,p4,p5,p6,p7,p8,p9,p10,p11⟩:=Mul.parts hm
 rw [w5 hx] at p9
 refine Sep.of_parts (L':=[_]) h.frame hS hrest (dh.refl _ _) ⟨S,fun b hb=>.inl hb,⟨fun r hr=>?_,fun q hq=>?_⟩,trivial⟩
 ·simp only [List.mem_cons,List.not_mem_nil,or_false] at hr
  rcases hr with rfl | rfl
  ·exact yq p1 p2 p7 p9 fun b hb=>(p3 b hb).1
  ·have : D.rd W (.row e2 s2 (y.map enc2)) S1 [u]:=by rw [← hf]; exact p10
   exact D.rd_mono this fun b hb=>(p3 b hb).1
 ·simp only [List.mem_cons,List.not_mem_nil,or_false] at hq
  subst hq
  obtain ⟨g,e1,e2,e3⟩:=ve (j:=i.toNat * 1) (u:=u) p1 (by rw [List.getElem?_append_right (by omega),p4,Nat.sub_self]; rfl)
  exact ⟨⟨g,0,none⟩,e1,p2 g e2,e3⟩
def Raw (lit : Value) (cs : List Value) (k : Nat) (W : World) (S : Nat → Prop) : Prop:=∃ g,lit = .slice (some ⟨g,0,none⟩) k k ∧ S g ∧ ∀ j u,(List.replicate k cs).flatten[j]? = some u → W.cell? ((⟨g,0,none⟩ : Addr).add j) = some u
theorem Raw.agree {lit : Value} {k : Nat} (h : Raw lit cs k W S) (ha : eB S W W') : Raw lit cs k W' S:=by
 obtain ⟨g,h10,h11,h12⟩:=h
 refine ⟨g,h10,h11,fun j u hj=>?_⟩
 rw [World.cell?_of_block (w:=W) (w':=W') (by rw [t9]; exact ha _ h11)]
 exact h12 j u hj
theorem Raw.mono {lit : Value} {k : Nat} (h : Raw lit cs k W S) (hs : ∀ b,S b → T b) : Raw lit cs k W T:=let ⟨g,h10,h11,h12⟩:=h; ⟨g,h10,hs g h11,h12⟩
abbrev A9 (lit : Value) (cs : List Value) (k : Nat) : Ent:=.any (Raw lit cs k) Raw.agree Raw.mono
theorem ru {uv : Value} : ∀ {k : Nat},dp (List.replicate k uv) = (List.replicate k uv.cells.toList).flatten
 | 0=>rfl
 | k + 1=>by rw [List.replicate_succ,List.replicate_succ,dp,ru]; rfl
theorem OpW.lir {k : Nat} {parts : Array (Nat × Operand)} {uv : Value} (hS : Sep M w0 W L) (hu : P.underlying t = some (.slice e)) (ht : bu P e = some (ag,some zv,size,bytes)) (ho : o.op = .buildSlice t k parts)
  (hp : lM 0 parts.toList E = some (List.replicate k uv)) (hc : uv.cells.toList = cs) (hl : cs.length = size) (h : ∀ (lit : Hd) W',Sep M w0 W' (A9 (sv lit) cs k :: L) → K (put E o.dst (sv lit)) W')
  (hle : Nat.ble (k * size) 16777216 = true:=by exact rfl) (hg : o.guard = none:=by exact rfl) (hd : okD n o.dst = true:=by exact rfl) : OpW P n ops o E W K:=by
 have hvs : ∀ v ∈ List.replicate k uv,v.cells.toList.length = size:=fun v hv=>by rw [(List.mem_replicate.1 hv).2,hc,hl]
 refine .runs (W':=W.alloc (.cells (dp (List.replicate k uv)).toArray e)) (v:=.slice (some ⟨W.heap.size,0,none⟩) k k) (fun a ha=>?_) hg hd (h ⟨some ⟨W.heap.size,0,none⟩,k,k⟩ _ ?_)
 ·have h1:=mm ha hp
  have h2 : parts.map (fun p=>(p.1,a.eval p.2)) = (d9 0 (List.replicate k uv)).toArray:=by rw [← h1]; apply Array.ext'; simp
  unfold execOp
  simp only [ho,Sem.run_bind]
  rw [show (parts.map fun (x : Nat × Operand)=>match x with | (i,x)=>(i,a.eval x)) = (d9 0 (List.replicate k uv)).toArray from h2,lO hu ht (List.length_replicate ..) hvs (Nat.le_of_ble_eq_true hle)]
  rfl
 ·refine hS.new (L':=[A9 (sv ⟨some ⟨W.heap.size,0,none⟩,k,k⟩) cs k]) d6 ⟨fun b=>b = W.heap.size,fun b hb=>by subst hb; simp,⟨W.heap.size,rfl,rfl,fun j' u hj=>?_⟩,trivial⟩
  have hadd : (⟨W.heap.size,0,none⟩ : Addr).add j' = ⟨W.heap.size,j',none⟩:=by unfold Addr.add; split <;> simp_all
  rw [hadd,cell_of_row _ _ j' (dp (List.replicate k uv)).toArray e (0,0) (heap_alloc_new W _),ru,hc]
  simpa using hj
theorem w6 {cu : List Value} (hd : D.rd W d T cu) (hl : cu.length = d.sz) : ∀ {k : Nat},D.rds W (List.replicate k d) T (List.replicate k cu).flatten
 | 0=>rfl
 | k + 1=>by rw [List.replicate_succ,List.replicate_succ]; exact ⟨cu,_,rfl,hl,hd,w6 hd hl⟩
theorem OpW.apm {p q : Operand} {k : Nat} {lit : Value} (hr : X.app bytes l (List.replicate k x) = some r) (hx : nth l i = some x) (hS : Sep M w0 W (A9 lit cs k :: zO v e size (l.map enc) i.toNat cs (enc x) :: L)) (hu : P.underlying t = some (.slice e)) (ht : bu P e = some (ag,some zv,size,bytes))
  (ho : o.op = .call { callee:=.builtin .append,args:=#[p,q],argTypes:=#[t,t] }) (hp : ev E p = some v) (hq : ev E q = some lit)
  (h : ∀ (v : Hd) W',Sep M w0 W' (iy [(sv v,e,size,r.map enc)] [] :: L) → K (put E o.dst (sv v)) W')
  (hz : zv.cells.size = size:=by exact rfl) (h0 : Nat.blt 0 size = true:=by exact rfl) (hb0 : Nat.blt 0 bytes = true:=by exact rfl) (hg : o.guard = none:=by exact rfl) (hd : okD n o.dst = true:=by exact rfl) : OpW P n ops o E W K:=by
 obtain ⟨rfl,hroom⟩:=nG hr
 obtain ⟨Sl,hSl,⟨g,rfl,h11,h12⟩,S,hSo,hm,hrest⟩:=hS.own
 obtain ⟨c1,c2,S1,p1,p2,p3,p4,h8,p6,h4,h5,p9,p10,h9⟩:=Mul.parts hm
 rw [w5 hx] at p9
 generalize hcc : c1 ++ (cs ++ c2) = cc at *
 obtain ⟨i0,hi,hz0,hz1,hz2⟩:=jq ht
 have hbpos : 0 < bytes:=by simpa [Nat.blt_eq] using hb0
 rw [List.length_map] at p1
 rw [List.length_replicate] at hroom
 have hmaxl : l.length + k ≤ 140737488355328:=Nat.le_trans (Nat.le_mul_of_pos_right _ hbpos) hroom
 have hone : ∀ u ∈ (List.replicate k cs).flatten,u.oneCell' = true:=fun u hu=>by
  obtain ⟨c,hc,hu⟩:=List.mem_flatten.1 hu
  rw [(List.mem_replicate.1 hc).2] at hu
  exact h9 u hu
 obtain ⟨v',W',hrun,hown,hgrow,hn0,hat⟩:=run_append_own_at (P:=P) W 0 t o.type e i0 zv size bytes hu hi hz0 hz1 hz2 hz (by simpa [Nat.blt_eq] using h0) _ _ _ p1 ⟨g,0,none⟩ k k (List.replicate k cs).flatten (by simp [h8]) h12 hone (by simp only [maxLen]; omega) hroom (Nat.zero_le _)
 have hlen : ((l ++ List.replicate k x).map enc).length = l.length + k:=by simp
 obtain ⟨vh,rfl⟩ : ∃ vh : Hd,v' = sv vh:=by
  rcases hown.2 with ⟨h1,h2⟩ | ⟨g,cap,cur,h1,_⟩
  ·exact ⟨aN,h1⟩
  ·exact ⟨⟨_,_,_⟩,h1⟩
 have hrd : D.rds W' ((l ++ List.replicate k x).map enc) S1 (cc ++ (List.replicate k cs).flatten):=by
  have hag : eB S1 W W':=fun b hb=>hgrow.block b (hSo b (p3 b hb).1).1.2 fun he=>(p3 b hb).2 he.symm
  rw [List.map_append,List.map_replicate]
  exact sn (D.rds_agree p9 hag) (w6 (D.rd_agree p10 hag) (by rw [h8,h5]))
 have hsz : ∀ y ∈ (l ++ List.replicate k x).map enc,y.sz = size:=fun y hy=>by
  rw [List.map_append] at hy
  rcases List.mem_append.1 hy with hy | hy
  ·exact h4 y hy
  ·obtain ⟨y',hy',rfl⟩:=List.mem_map.1 hy
   rw [(List.mem_replicate.1 hy').2]
   exact h5
 rw [← hlen] at hown
 refine .runs (W':=W') (v:=sv vh) (fun a ha=>?_) hg hd (h vh _ (Sep.of_parts (L':=[_]) hS.frame (S:=fun b=>Sl b ∨ S b) (fun b hb=>hb.elim (hSl b) fun hb=>(hSo b hb).1) (hrest.mono fun b hb=>⟨hb.1.1,fun hh=>hh.elim hb.1.2 hb.2⟩) (dh.of_grown hgrow fun b hb=>.inr (p2 b hb))
  ⟨fun b=>(Sl b ∨ S b) ∨ (W.heap.size ≤ b ∧ b < W'.heap.size),fun b hb=>hb,⟨fun r hr'=>?_,fun q hq=>by simp at hq⟩,trivial⟩))
 ·unfold execOp
  simp only [ho,resolve,Deferred.ofValue,invoke,builtin,Sem.run_bind,Sem.run_pure,Result.andThen_ok]
  simp [ha.ev hp,ha.ev hq,hrun]
 ·simp only [List.mem_singleton] at hr'
  subst hr'
  refine yq hown (fun g' hg'=>?_) hsz hrd fun b hb=>.inl (.inr (p3 b hb).1)
  rcases hat with hat | hat
  ·exact .inl (.inr (p2 g' (hat ▸ hg')))
  ·have : g' = W.heap.size:=by rw [hat] at hg'; injection hg' with hg'; exact hg'.symm
   subst this
   rcases hown.lt W.heap.size hat with ⟨_,h2⟩
   exact .inr ⟨Nat.le_refl _,h2⟩
variable {Q : Exit → Act → World → Prop} {SW : World → Prop} {k : Nat}
def wpM (P : Program) (ops : Array Oper) (Q : Exit → Act → World → Prop) (SW : World → Prop) (k : Nat) : Nat → Array Bool → Act → World → Prop
 | 0,l,a,w=>Region.ready .any ops l = [] ∧ Q .normal a w
 | f + 1,l,a,w=>(Region.ready .any ops l = [] → Q .normal a w) ∧ ∀ i ∈ Region.ready .any ops l,wpOp P ops Q i (fun a' w'=>((l.setIfInBounds i true).getD k true = false → SW w') ∧ wpM P ops Q SW k f (l.setIfInBounds i true) a' w') a w
theorem w7 : ∀ (f : Nat) (l : Array Bool) (a : Act) (w : World),wpM P ops Q SW k f l a w → wpAny P .any ops Q f l a w
 | 0,_,_,_,h=>h
 | f + 1,_,_,_,h=>⟨h.1,fun i hi=>wpOp_mono (fun a' w' h'=>w7 f _ a' w' h'.2) (h.2 i hi)⟩
theorem xE {i m : Nat} {oi : Oper} {v : Value} (hi : ops[i]? = some oi) (hs : Region.noSelect ops = true) (hQ : ∀ c a w,Q (.panic c) (a.put oi.dst v) w → Q (.panic c) a w) (hkm : m = k ∨ kg ops k m = true) (hmi : kg ops m i = true) (hik : i ≠ k) :
  ∀ {f : Nat} {l : Array Bool} {a : Act} {w : World},l.getD m true = false → l.getD k true = false → qf ops i oi l → i ∈ Region.ready .any ops l → YieldsIf P ops SW oi v a → SW w → wpM P ops Q SW k f (l.setIfInBounds i true) (a.put oi.dst v) w → wpM P ops Q SW k (f + 1) l a w:=by
 intro f
 induction f with
 | zero =>
  intro l a w hm hk hL hr hy hS H
  refine ⟨fun h=>absurd (h ▸ hr) (by simp),fun j hj=>?_⟩
  rcases Nat.decEq j i with hji | hji
  ·exact absurd (ready_mono hj hji) (by rw [H.1]; simp)
  ·subst hji
   exact hy.wpOp hi hS ⟨fun _=>hS,H⟩
 | succ f ih =>
  intro l a w hm hk hL hr hy hS H
  have hl:=(mem_ready.1 hr).1
  refine ⟨fun h=>absurd (h ▸ hr) (by simp),fun j hj=>?_⟩
  rcases Nat.decEq j i with hji | hji
  ·obtain ⟨hjl,oj,hoj,_⟩:=mem_ready.1 hj
   have hjm : j ≠ m:=fun h=>na hmi hl (h ▸ hj)
   have hjk : j ≠ k:=fun h=>by
    rcases hkm with hkm | hkm
    ·exact hjm (h.trans hkm.symm)
    ·exact na hkm hm (h ▸ hj)
   have hm' : (l.setIfInBounds j true).getD m true = false:=by rw [getD_set_ne true hjm]; exact hm
   have hk' : (l.setIfInBounds j true).getD k true = false:=by rw [getD_set_ne true hjk]; exact hk
   have hsel:=Region.noSelect_spec hs
   refine wpOp_mono (fun a' w' ⟨hy',hS',H'⟩=>⟨fun _=>hS' ?_,ih hm' hk' (hL.set hjl) (ready_mono hr fun h=>hji h.symm) hy' (hS' ?_) ?_⟩)
    (wpOp_putIf hoj (hL j oj hoj hji hjl (qe hl hj)) (fun cs b=>hsel i oi cs b hi) (fun cs b=>hsel j oj cs b hoj) hQ hy (H.2 j (ready_mono hj hji)))
   ·rw [Array.setIfInBounds_comm _ _ fun h=>hji h.symm,getD_set_ne true hik]; exact hk'
   ·rw [Array.setIfInBounds_comm _ _ fun h=>hji h.symm,getD_set_ne true hik]; exact hk'
   ·rwa [Array.setIfInBounds_comm _ _ hji]
  ·subst hji
   exact hy.wpOp hi hS ⟨fun _=>hS,H⟩
theorem vV {i : Nat} {oi : Oper} {v : Value} (hi : ops[i]? = some oi) (hs : Region.noSelect ops = true) (hQ : ∀ c a w,Q (.panic c) (a.put oi.dst v) w → Q (.panic c) a w) (hik : i ≠ k) :
  ∀ {f : Nat} {l : Array Bool} {a : Act} {w : World},qf ops i oi l → i ∈ Region.ready .any ops l → YieldsIf P ops (fun _=>True) oi v a → (l.getD k true = false → SW w) → wpM P ops Q SW k f (l.setIfInBounds i true) (a.put oi.dst v) w → wpM P ops Q SW k (f + 1) l a w:=by
 intro f
 induction f with
 | zero =>
  intro l a w hL hr hy hS H
  refine ⟨fun h=>absurd (h ▸ hr) (by simp),fun j hj=>?_⟩
  rcases Nat.decEq j i with hji | hji
  ·exact absurd (ready_mono hj hji) (by rw [H.1]; simp)
  ·subst hji
   exact hy.wpOp hi trivial ⟨fun h=>hS (by rwa [getD_set_ne true hik] at h),H⟩
 | succ f ih =>
  intro l a w hL hr hy hS H
  refine ⟨fun h=>absurd (h ▸ hr) (by simp),fun j hj=>?_⟩
  rcases Nat.decEq j i with hji | hji
  ·obtain ⟨hjl,oj,hoj,_⟩:=mem_ready.1 hj
   have hsel:=Region.noSelect_spec hs
   have hl:=(mem_ready.1 hr).1
   refine wpOp_mono (fun a' w' ⟨hy',hS',H'⟩=>⟨fun h=>hS' ?_,ih (hL.set hjl) (ready_mono hr fun h=>hji h.symm) hy' (fun h=>hS' ?_) ?_⟩)
    (wpOp_putIf hoj (hL j oj hoj hji hjl (qe hl hj)) (fun cs b=>hsel i oi cs b hi) (fun cs b=>hsel j oj cs b hoj) hQ hy (H.2 j (ready_mono hj hji)))
   ·rw [Array.setIfInBounds_comm _ _ fun h=>hji h.symm,getD_set_ne true hik]; exact h
   ·rw [Array.setIfInBounds_comm _ _ fun h=>hji h.symm,getD_set_ne true hik]; exact h
   ·rwa [Array.setIfInBounds_comm _ _ hji]
  ·subst hji
   exact hy.wpOp hi trivial ⟨fun h=>hS (by rwa [getD_set_ne true hik] at h),H⟩
def RM (P : Program) (n : Nat) (ops : Array Oper) (SW : World → Prop) (k : Nat) (f : Nat) (l : Array Bool) (E : Env) (W : World) (K : Env → World → Prop) : Prop:=
 ∀ a Q,gm n E a → (∀ a' E' W',gm n E' a' → K E' W' → Q .normal a' W') → wpM P ops (NoPanic Q) SW k f l a W
theorem CW.rm {R : Exit → Env → World → Prop} {id : Nat} (k : Nat) (SW : World → Prop) (hS : Sep M w0 W L) (hm : P.follows .mixedOrders = true) (h : ∀ W,Sep M w0 W L → RM P n ops SW k ops.size (Array.replicate ops.size false) E W (R .normal)) : CW P n (.region id ops true) E W R:=by
 intro a ha
 refine wp_region_noPanic (wp_region_any hm (w7 _ _ _ _ (h _ (hS.drewN _) a _ ha fun a' E' W' ha' hr=>⟨E',ha',hr⟩)))
theorem RM.done {f : Nat} {l : Array Bool} (h : K E W) (hr : yl (Region.ready .any ops l) = true:=by kernel_rfl) : RM P n ops SW k f l E W K:=by
 intro a Q ha hk
 have h0 : Region.ready .any ops l = []:=by
  cases hq : Region.ready .any ops l with
  | nil=>rfl
  | cons x y=>rw [hq] at hr; cases hr
 have h1 : NoPanic Q .normal a W:=hk _ _ _ ha h
 cases f with
 | zero=>exact ⟨h0,h1⟩
 | succ f=>exact ⟨fun _=>h1,by rw [h0]; simp⟩
theorem RM.t1 {f : Nat} {l : Array Bool} (i m : Nat) (ho : ops[i]? = some o) (hv : ∀ W,SW W → eT P n E o W v W) (hS : SW W) (h : RM P n ops SW k f (l.setIfInBounds i true) (put E o.dst v) W K)
  (hs : (Region.noSelect ops && Region.free .any ops l i && (Region.ready .any ops l).contains i && (Nat.beq m k || kg ops k m) && kg ops m i && !(Nat.beq i k) && !(l.getD m true) && !(l.getD k true)) = true) (hg : o.guard = none) (hd : okD n o.dst = true) : RM P n ops SW k (f + 1) l E W K:=by
 intro a Q ha hk
 simp only [Bool.and_eq_true,Bool.not_eq_true',Bool.or_eq_true] at hs
 obtain ⟨⟨⟨⟨⟨⟨⟨h1,h2⟩,h3⟩,h4⟩,h5⟩,h6⟩,h7⟩,h8⟩:=hs
 exact xE ho h1 (fun c a w h=>h) (h4.imp Nat.eq_of_beq_eq_true id) h5 (by rintro rfl; rw [Nat.beq_refl] at h6; cases h6) h7 h8 (qf.of ho h2) (by simpa using h3) (.inl ⟨by simp [Region.wanted,hg],fun w hw=>hv w hw a ha⟩) hS (h _ Q (ha.put hd v) hk)
theorem RM.tp {f : Nat} {l : Array Bool} (i : Nat) (ho : ops[i]? = some o) (hv : ∀ W,eT P n E o W v W) (hS : SW W) (h : RM P n ops SW k f (l.setIfInBounds i true) (put E o.dst v) W K)
  (hs : (Region.noSelect ops && Region.free .any ops l i && (Region.ready .any ops l).contains i && !(Nat.beq i k)) = true) (hg : o.guard = none) (hd : okD n o.dst = true) : RM P n ops SW k (f + 1) l E W K:=by
 intro a Q ha hk
 simp only [Bool.and_eq_true,Bool.not_eq_true'] at hs
 obtain ⟨⟨⟨h1,h2⟩,h3⟩,h4⟩:=hs
 exact vV ho h1 (fun c a w h=>h) (by rintro rfl; rw [Nat.beq_refl] at h4; cases h4) (qf.of ho h2) (by simpa using h3) (.inl ⟨by simp [Region.wanted,hg],fun w _=>hv w a ha⟩) (fun _=>hS) (h _ Q (ha.put hd v) hk)
theorem RM.by1 {f : Nat} {l : Array Bool} (i : Nat) (ho : ops[i]? = some o) (h : OpW P n ops o E W fun E' W'=>((l.setIfInBounds i true).getD k true = false → SW W') ∧ RM P n ops SW k f (l.setIfInBounds i true) E' W' K)
  (hr : sK (Region.ready .any ops l) [i] = true:=by kernel_rfl) : RM P n ops SW k (f + 1) l E W K:=by
 intro a Q ha hk
 have hq:=sL hr
 refine ⟨fun h0=>?_,fun j hj=>?_⟩
 ·rw [hq] at h0; cases h0
 ·rw [hq] at hj
  obtain rfl:=List.mem_singleton.1 hj
  unfold wpOp
  simp only [ho]
  have:=h a (NoPanic Q) (fun a' w'=>((l.setIfInBounds j true).getD k true = false → SW w') ∧ wpM P ops (NoPanic Q) SW k f (l.setIfInBounds j true) a' w') ha (fun a' E' W' ha' ⟨h1,h2⟩=>⟨h1,h2 a' Q ha' hk⟩)
  split
  ·rename_i hw
   rw [if_pos hw] at this
   exact .inl this
  ·rename_i hw
   rw [if_neg hw] at this
   exact this
theorem RM.byd {f : Nat} {l : Array Bool} (i : Nat) (ho : ops[i]? = some o) (h : OpW P n ops o E W fun E' W'=>RM P n ops SW k f (l.setIfInBounds i true) E' W' K)
  (hr : sK (Region.ready .any ops l) [i] = true:=by kernel_rfl) (hk : (Nat.beq i k || l.getD k true) = true:=by kernel_rfl) : RM P n ops SW k (f + 1) l E W K:=by
 refine .by1 i ho (fun a Q Kc ha hk'=>h a Q Kc ha fun a' E' W' ha' h'=>hk' a' E' W' ha' ⟨fun hh=>?_,h'⟩) hr
 rcases Nat.decEq i k with hik | hik
 ·rw [getD_set_ne true hik] at hh
  have : Nat.beq i k = false:=by
   cases hb : Nat.beq i k
   ·rfl
   ·exact absurd (Nat.eq_of_beq_eq_true hb) hik
  rw [this,Bool.false_or] at hk
  rw [hk] at hh
  cases hh
 ·subst hik
  have : (l.setIfInBounds i true).getD i true = true:=by
   simp only [Array.getD_eq_getD_getElem?,Array.getElem?_setIfInBounds,if_true]
   split <;> rfl
  rw [this] at hh
  cases hh
end
noncomputable section
variable {P : Program} {n : Nat} {ops : Array Oper} {o : Oper} {E : Env} {W W' w0 : World} {v : Value} {K : Env → World → Prop} {M : Nat → Prop} {L : List Ent}
variable {t e : TypeId} {ag : Bool} {zv : Value} {size bytes : Nat} {α : Type} {enc : α → D} {l r r2 : List α}
theorem yr : cut l 0 0 = some []:=by
 unfold cut
 rw [if_pos ⟨Int.le_refl _,Int.le_refl _,by omega⟩]
 rfl
theorem OpW.tak {h : Hd} {p q : Operand} (hc : cut l 1 (l.length : Int) = some r) (hr : X.app bytes [] r = some r2) (hS : Sep M w0 W (ae (sv h) e size enc l :: L)) (hfl : ∀ x,(fc (enc x)).isSome = true) (hu : P.underlying t = some (.slice e)) (ht : bu P e = some (ag,some zv,size,bytes))
  (ho : o.op = .call { callee:=.builtin .append,args:=#[p,q],argTypes:=#[t,t] }) (hp : ev E p = some (sv (py h (Int.toNat 0) size 0))) (hq : ev E q = some (sv (py h (Int.toNat 1) size r.length)))
  (hk : ∀ (v : Hd) W',Sep M w0 W' (ae (sv v) e size enc r2 :: L) → K (put E o.dst (sv v)) W')
  (hz : zv.cells.size = size:=by exact rfl) (h0 : Nat.blt 0 size = true:=by exact rfl) (hb0 : Nat.blt 0 bytes = true:=by exact rfl) (hg : o.guard = none:=by exact rfl) (hd : okD n o.dst = true:=by exact rfl) : OpW P n ops o E W K:=by
 obtain ⟨hrr2,hroom⟩:=nG hr
 have hr2 : r2 = r:=by simpa using hrr2
 rw [hr2] at hk
 have hrd:=us hc hS.lv
 obtain ⟨hrr,_,hl1,_⟩:=nH hc
 obtain ⟨S1,hS1,⟨v1,k1,e1,⟨r1,b1⟩,s1,S1',p1,o1⟩,hrest⟩:=hS.own
 simp only [List.cons.injEq,and_true] at e1
 subst e1
 rw [List.length_map] at r1
 obtain ⟨i0,hi,hz0,hz1,hz2⟩:=jq ht
 rcases r1.2 with ⟨hv,hn⟩ | ⟨g,cap,cur,hv,hb,hgc,hnc,hcm,hcs,htake⟩
 ·omega
 ·obtain ⟨A,m,c⟩:=h
  simp only [sv,Value.slice.injEq] at hv
  obtain ⟨rfl,rfl,rfl⟩:=hv
  have ha0 : py ⟨some ⟨g,0,none⟩,l.length,c⟩ (Int.toNat 0) size 0 = ⟨some ⟨g,0,none⟩,0,c⟩:=by
   unfold py sG
   simp [Addr.add]
  rw [ha0] at hp
  have hown0 : W.ownsRow 0 e size (.slice (some ⟨g,0,none⟩) 0 c) 0 []:=⟨by simp,.inr ⟨g,c,cur,rfl,hb,hgc,Nat.zero_le _,hcm,hcs,by simp⟩⟩
  obtain ⟨A',cap',cs,q1,q2,q3,q4,q5,q6⟩:=hrd
  have o2:=sB (fun x _=>hfl x) q6
  have hlen : cs.length = r.length * size:=by rw [D.owns_length o2,pY q4,List.length_map]
  simp only [py,sv,List.cons.injEq,and_true,Value.slice.injEq] at q1
  obtain ⟨q1a,_,q1c⟩:=q1
  have hrl : r.length ≤ l.length:=by rw [hrr]; simp
  have run : ∃ v' W',(Builtin.append_ #[t,t] o.type #[.slice (some ⟨g,0,none⟩) 0 c,sv (py ⟨some ⟨g,0,none⟩,l.length,c⟩ (Int.toNat 1) size r.length)]).run P W = .ok v' W' ∧ W'.ownsRow 0 e size v' r.length cs ∧ W.grownBy W' (some g) ∧ (v'.ownBlock = some g ∨ v'.ownBlock = some W.heap.size):=by
   by_cases hne : r = []
   ·subst hne
    have hcs0 : cs = []:=List.eq_nil_of_length_eq_zero (by simpa using hlen)
    subst hcs0
    refine ⟨.slice (some ⟨g,0,none⟩) 0 c,W,?_,hown0,⟨rfl,rfl,rfl,Nat.le_refl _,fun _ _ _=>rfl⟩,.inl rfl⟩
    simp only [py,sv,List.length_nil]
    generalize sG (some ⟨g,0,none⟩) c (Int.toNat 1) size = A2
    cases A2 <;> simp [Builtin.append_,run_underlying hu,sizeOf,typeInfo,hi,Builtin.lenOf,Builtin.firstCells,storeCells,loadCells,loadCellsFrom]
   ·obtain ⟨ad,had,_,f3⟩:=q5 (by simpa using hne)
    obtain ⟨v',W',hrun,hown,hgrow,hn0,hat⟩:=run_append_own_at (P:=P) W 0 t o.type e i0 zv size bytes hu hi hz0 hz1 hz2 hz (by simpa [Nat.blt_eq] using h0) _ _ _ hown0 ad r.length cap' cs hlen f3 (D.owns_one o2) (by have:=Rd.lt hS.lend; simp only [maxLen] at *; omega) (by simpa using hroom) (Nat.zero_le _)
    refine ⟨v',W',?_,by simpa using hown,hgrow,hat⟩
    rw [← hrun,← had,← q1a,← q1c]
    rfl
  obtain ⟨v',W',hrun,hown,hgrow,hat⟩:=run
  obtain ⟨vh,rfl⟩ : ∃ vh : Hd,v' = sv vh:=by
   rcases hown.2 with ⟨h1,h2⟩ | ⟨g,cap,cur,h1,_⟩
   ·exact ⟨aN,h1⟩
   ·exact ⟨⟨_,_,_⟩,h1⟩
  have hgS : S1 g:=b1 g rfl
  refine .runs (W':=W') (v:=sv vh) (fun a ha=>?_) hg hd (hk vh _ (Sep.of_parts (L':=[ae (sv vh) e size enc r]) hS.frame (S:=S1) hS1 hrest (dh.of_grown hgrow fun b hb=>by injection hb with hb; exact hb ▸ hgS)
   ⟨fun b=>S1 b ∨ (W.heap.size ≤ b ∧ b < W'.heap.size),fun b hb=>hb,⟨_,cs,rfl,⟨by simpa using hown,fun g' hg'=>?_⟩,fun x hx=>q4 x hx,fun _=>False,fun _ hf=>hf.elim,?_⟩,trivial⟩))
  ·unfold execOp
   simp only [ho,resolve,Deferred.ofValue,invoke,builtin,Sem.run_bind,Sem.run_pure,Result.andThen_ok]
   have hp' : a.eval p = .slice (some ⟨g,0,none⟩) 0 c:=ha.ev hp
   have hq':=ha.ev hq
   generalize sv (py ⟨some ⟨g,0,none⟩,l.length,c⟩ (Int.toNat 1) size r.length) = qv at hq' hrun
   simp [hp',hq',hrun]
  ·rcases hat with hat | hat
   ·rw [hat] at hg'; injection hg' with hg'; exact .inl (hg' ▸ hgS)
   ·have : g' = W.heap.size:=by rw [hat] at hg'; injection hg' with hg'; exact hg'.symm
    subst this
    rcases hown.lt W.heap.size hat with ⟨_,h2⟩
    exact .inr ⟨Nat.le_refl _,h2⟩
  ·-- fc data lie in no block
   have key : ∀ {xs : List α} {c2 : List Value} {T : Nat → Prop},D.rds W (xs.map enc) T c2 → D.owns W' (xs.map enc) (fun _=>False) c2:=by
    intro xs
    induction xs with
    | nil=>intro c2 T h; exact h
    | cons x xs ih =>
     intro c2 T ⟨d1,d2,g1,g2,g3,g4⟩
     obtain ⟨cx,hcx⟩:=Option.isSome_iff_exists.1 (hfl x)
     have:=mj hcx g3
     subst this
     exact ⟨fun _=>False,_,d2,g1,g2,fun _ hf=>hf,kW hcx,D.owns_mono (ih g4) fun _ hf=>hf.elim⟩
   exact key q6
end
noncomputable section
variable {P : Program} {n : Nat} {ops : Array Oper} {E E' : Env} {W : World} {K : Env → World → Prop} {SW : World → Prop} {k : Nat}
def mn (n : Nat) (is : List Nat) : Array Bool:=is.foldl (fun l i=>l.setIfInBounds i true) (Array.replicate n false)
def nK : List Bool → List Bool → Bool
 | [],[]=>true
 | true :: r,true :: q=>nK r q
 | false :: r,false :: q=>nK r q
 | _,_=>false
theorem qi : ∀ {l q : List Bool},nK l q = true → l = q
 | [],[],_=>rfl
 | true :: r,true :: q,h=>by rw [qi (l:=r) (q:=q) h]
 | false :: r,false :: q,h=>by rw [qi (l:=r) (q:=q) h]
 | [],_ :: _,h=>by simp [nK] at h
 | _ :: _,[],h=>by simp [nK] at h
 | true :: _,false :: _,h=>by simp [nK] at h
 | false :: _,true :: _,h=>by simp [nK] at h
theorem RK.sub {f : Nat} {l : Array Bool} (hs : aD E E') (h : RK P n ops SW k f l E' W K) : RK P n ops SW k f l E W K:=fun a Q ha hk=>h a Q (ha.sub hs.sub) hk
theorem RK.atl {f : Nat} {l l' : Array Bool} (h : RK P n ops SW k f l' E W K) (hl : nK l.toList l'.toList = true) : RK P n ops SW k f l E W K:=by
 have : l = l':=Array.ext' (qi hl)
 exact this ▸ h
theorem RK.memo {f : Nat} {l : Array Bool} (X : Env → World → Prop) (f' : Nat) (l' : Array Bool) (hJ : ∀ E W,X E W → RK P n ops SW k f' l' E W K) (h : (∀ E W,X E W → RK P n ops SW k f' l' E W K) → RK P n ops SW k f l E W K) : RK P n ops SW k f l E W K:=h hJ
end
noncomputable section
variable {P : Program} {n : Nat} {E : Env} {W : World}
theorem Cc {α : Type} {M : Nat → Prop} {w0 : World} {L : List Ent} {v : Value} {e size t : Nat} {enc : α → D} {l : List α} {i : Nat} {cs : List Value} {o : Oper} {p : Operand} (hS : Sep M w0 W (bZ v e size enc l i cs :: L)) (hu : P.underlying t = some (.slice e)) (ho : o.op = .call { callee:=.builtin .len,args:=#[p],argTypes:=#[t] }) (hp : ev E p = some v) : eT P n E o W (.int .i64 l.length) W:=by
 obtain ⟨A,c,rfl⟩:=hS.hshape
 exact len hu ho hp
end
end Go.Proofs.YtcljimkjmklkmaaGreatDoor.X
namespace Go.Proofs.YtcljimkjmklkmaaGreatDoor.N
open Go.Proofs.YtcljimkjmklkmaaGreatDoor.X
noncomputable section
structure kY where
 name : ByteArray
 opcode : Int
 funct3 : Int
 funct7 : Int
structure aL where
 b : List Int
 p : Int
structure aj where
 Op : Int
 Dst : Int
 A : Int
 B : Int
 N : Int
def aO (x : aj) : D:=.agg [.int .i64 x.Op,.int .i64 x.Dst,.int .i64 x.A,.int .i64 x.B,.int .i64 x.N]
structure Expr where
 Op : Int
 N : Int
 Args : List Expr
mutual
def a7 : Expr → D
 | ⟨x0,x1,x2⟩=>.agg [.int .i64 x0,.int .i64 x1,.row 158 3 (uw x2)]
def uw : List Expr → List D
 | []=>[]
 | x :: r=>a7 x :: uw r
end
theorem sN : ∀ l,uw l = l.map a7
 | []=>rfl
 | x :: r=>by rw [uw,sN r,List.map]
theorem eC (x : Expr) : a7 x = .agg [.int .i64 x.Op,.int .i64 x.N,.row 158 3 (x.Args.map a7)]:=by
 cases x; simp only [a7,sN]
theorem yt (x : Expr) : (a7 x).sz = 3:=by simp only [eC,D.sz,D.szs]
structure aw where
 Kind : Int
 Var : Int
 Box : Int
 Expr : Expr
 Body : List aw
 Else : List aw
mutual
def aA : aw → D
 | ⟨x0,x1,x2,x3,x4,x5⟩=>.agg [.int .i64 x0,.int .i64 x1,.int .i64 x2,a7 x3,.row 160 8 (sO x4),.row 160 8 (sO x5)]
def sO : List aw → List D
 | []=>[]
 | x :: r=>aA x :: sO r
end
theorem sP : ∀ l,sO l = l.map aA
 | []=>rfl
 | x :: r=>by rw [sO,sP r,List.map]
theorem gp (x : aw) : aA x = .agg [.int .i64 x.Kind,.int .i64 x.Var,.int .i64 x.Box,a7 x.Expr,.row 160 8 (x.Body.map aA),.row 160 8 (x.Else.map aA)]:=by
 cases x; simp only [aA,sP]
theorem kh (x : aw) : (aA x).sz = 8:=by simp only [gp,D.sz,D.szs,yt]
structure a8 where
 Kind : Int
 N : Int
def bO (x : a8) : D:=.agg [.int .i64 x.Kind,.int .i64 x.N]
structure Instr where
 Op : Int
 Rd : Int
 Rs : Int
 Rt : Int
 Imm : Int
def aG (x : Instr) : D:=.agg [.int .i64 x.Op,.int .i64 x.Rd,.int .i64 x.Rs,.int .i64 x.Rt,.int .i64 x.Imm]
structure Box where
 Room : Int
 Items : List Int
def bi (x : Box) : D:=.agg [.int .i64 x.Room,.row 3 1 (x.Items.map (D.int .i64))]
structure ah where
 Regs : List Int
 Pc : Int
 Mem : List Int
def ao (x : ah) : D:=.agg [.row 3 1 (x.Regs.map (D.int .i64)),.int .i64 x.Pc,.row 3 1 (x.Mem.map (D.int .i64))]
structure aE where
 Harts : List ah
 Boxes : List Box
 Turn : Int
 Idle : Int
 Out : List Int
def lP : List Int:=[8,9,10,11,12,3,1,2,6,7,5]
def kj : List kY:=[⟨⟨#[97,100,100]⟩,51,0,0⟩,⟨⟨#[115,117,98]⟩,51,0,32⟩,⟨⟨#[109,117,108]⟩,51,0,1⟩,⟨⟨#[100,105,118]⟩,51,4,1⟩,⟨⟨#[114,101,109]⟩,51,6,1⟩,⟨⟨#[97,110,100]⟩,51,7,0⟩,⟨⟨#[111,114]⟩,51,6,0⟩,⟨⟨#[120,111,114]⟩,51,4,0⟩,⟨⟨#[115,108,108]⟩,51,1,0⟩,⟨⟨#[115,114,97]⟩,51,5,32⟩,⟨⟨#[115,108,116]⟩,51,2,0⟩,⟨⟨#[97,100,100,105]⟩,19,0,0⟩,⟨⟨#[115,108,116,105,117]⟩,19,3,0⟩,⟨⟨#[108,119]⟩,3,2,0⟩,⟨⟨#[106,97,108,114]⟩,103,0,0⟩,⟨⟨#[115,119]⟩,35,2,0⟩,⟨⟨#[98,101,113]⟩,99,0,0⟩,⟨⟨#[98,110,101]⟩,99,1,0⟩,⟨⟨#[108,117,105]⟩,55,0,0⟩,⟨⟨#[106,97,108]⟩,111,0,0⟩,⟨⟨#[101,99,97,108,108]⟩,115,0,0⟩]
def NGl : Nat:=2
def Gl (w : World) : Prop:=Tab 0 1 (fun x : Int=>[.int .i64 x]) lP w ∧ Tab 1 4 (fun x : kY=>[.string x.name,.int .i64 x.opcode,.int .i64 x.funct3,.int .i64 x.funct7]) kj w
theorem Gl.at {w W : World} {M : Nat → Prop} {L : List Ent} (h : Gl w) (hS : Sep M w W L) (hM : ∀ g,g < NGl → ¬ M g) : Gl W:=⟨Tab.at h.1 hS (hM 0 (by decide)),Tab.at h.2 hS (hM 1 (by decide))⟩
theorem Gl.noS {w W : World} {M S : Nat → Prop} (h : Gl w) (hM : ∀ g,g < NGl → ¬ M g) (h1 : ∀ b,S b → OkS M w W b) : ∀ g,g < NGl → ¬ S g:=fun g hg hs=>by
 have h3 : 1 < w.heap.size:=h.2.1
 have hg' : g < 2:=hg
 rcases (h1 g hs).1 with h4 | h4
 ·omega
 ·exact hM g hg h4
theorem T.u22 : Tryz.prog.underlying 22 = some (.slice 5):=by kernel_rfl
theorem T.t5 : bu Tryz.prog 5 = some (false,some (.int .u8 0),1,1):=by kernel_rfl
theorem T.s74 : mF Tryz.prog 74 = some ([(0,1),(1,1)],[.slice none 0 0,.int .i64 0]):=by kernel_rfl
theorem T.f74_1 : eZ Tryz.prog 74 1 = some (1,1,false):=by kernel_rfl
theorem T.t3 : bu Tryz.prog 3 = some (false,some (.int .i64 0),1,8):=by kernel_rfl
theorem T.f74_0 : eZ Tryz.prog 74 0 = some (0,1,false):=by kernel_rfl
theorem T.t22 : bu Tryz.prog 22 = some (false,some (.slice none 0 0),1,24):=by kernel_rfl
theorem T.u5 : Tryz.prog.underlying 5 = some (.int .u8):=by kernel_rfl
theorem T.u3 : Tryz.prog.underlying 3 = some (.int .i64):=by kernel_rfl
theorem T.mix : Tryz.prog.follows .mixedOrders = true:=by kernel_rfl
theorem T.u23 : Tryz.prog.underlying 23 = some (.slice 3):=by kernel_rfl
theorem T.t107 : bu Tryz.prog 107 = some (true,some (.agg #[.int .i64 0,.int .i64 0,.int .i64 0,.int .i64 0,.int .i64 0]),5,40):=by kernel_rfl
theorem T.s107 : mF Tryz.prog 107 = some ([(0,1),(1,1),(2,1),(3,1),(4,1)],[.int .i64 0,.int .i64 0,.int .i64 0,.int .i64 0,.int .i64 0]):=by kernel_rfl
theorem T.u78 : Tryz.prog.underlying 78 = some (.slice 107):=by kernel_rfl
theorem T.u123 : Tryz.prog.underlying 123 = some (.slice 160):=by kernel_rfl
theorem T.t160 : bu Tryz.prog 160 = some (true,some (.agg #[.int .i64 0,.int .i64 0,.int .i64 0,.int .i64 0,.int .i64 0,.slice none 0 0,.slice none 0 0,.slice none 0 0]),8,112):=by kernel_rfl
theorem T.f160_4 : eZ Tryz.prog 160 4 = some (6,1,false):=by kernel_rfl
theorem T.t123 : bu Tryz.prog 123 = some (false,some (.slice none 0 0),1,24):=by kernel_rfl
theorem T.f160_5 : eZ Tryz.prog 160 5 = some (7,1,false):=by kernel_rfl
theorem T.f160_1 : eZ Tryz.prog 160 1 = some (1,1,false):=by kernel_rfl
theorem T.f160_2 : eZ Tryz.prog 160 2 = some (2,1,false):=by kernel_rfl
theorem T.f158_0 : eZ Tryz.prog 158 0 = some (0,1,false):=by kernel_rfl
theorem T.f158_1 : eZ Tryz.prog 158 1 = some (1,1,false):=by kernel_rfl
theorem T.f158_2 : eZ Tryz.prog 158 2 = some (2,1,false):=by kernel_rfl
theorem T.t156 : bu Tryz.prog 156 = some (false,some (.slice none 0 0),1,24):=by kernel_rfl
theorem T.u156 : Tryz.prog.underlying 156 = some (.slice 158):=by kernel_rfl
theorem T.t158 : bu Tryz.prog 158 = some (true,some (.agg #[.int .i64 0,.int .i64 0,.slice none 0 0]),3,40):=by kernel_rfl
theorem T.f160_0 : eZ Tryz.prog 160 0 = some (0,1,false):=by kernel_rfl
theorem T.f160_3 : eZ Tryz.prog 160 3 = some (3,3,true):=by kernel_rfl
theorem T.s158 : mF Tryz.prog 158 = some ([(0,1),(1,1),(2,1)],[.int .i64 0,.int .i64 0,.slice none 0 0]):=by kernel_rfl
theorem T.s160 : mF Tryz.prog 160 = some ([(0,1),(1,1),(2,1),(3,3),(6,1),(7,1)],[.int .i64 0,.int .i64 0,.int .i64 0,.int .i64 0,.int .i64 0,.slice none 0 0,.slice none 0 0,.slice none 0 0]):=by kernel_rfl
theorem T.f107_1 : eZ Tryz.prog 107 1 = some (1,1,false):=by kernel_rfl
theorem T.f107_2 : eZ Tryz.prog 107 2 = some (2,1,false):=by kernel_rfl
theorem T.f107_3 : eZ Tryz.prog 107 3 = some (3,1,false):=by kernel_rfl
theorem T.f107_0 : eZ Tryz.prog 107 0 = some (0,1,false):=by kernel_rfl
theorem T.f107_4 : eZ Tryz.prog 107 4 = some (4,1,false):=by kernel_rfl
theorem T.u176 : Tryz.prog.underlying 176 = some (.slice 196):=by kernel_rfl
theorem T.t196 : bu Tryz.prog 196 = some (true,some (.agg #[.int .i64 0,.int .i64 0]),2,16):=by kernel_rfl
theorem T.f196_0 : eZ Tryz.prog 196 0 = some (0,1,false):=by kernel_rfl
theorem T.f196_1 : eZ Tryz.prog 196 1 = some (1,1,false):=by kernel_rfl
theorem T.s196 : mF Tryz.prog 196 = some ([(0,1),(1,1)],[.int .i64 0,.int .i64 0]):=by kernel_rfl
theorem T.e196 : rq Tryz.prog 196 = some [(0,.int .i64),(1,.int .i64)]:=by kernel_rfl
theorem T.u173 : Tryz.prog.underlying 173 = some (.slice 176):=by kernel_rfl
theorem T.t176 : bu Tryz.prog 176 = some (false,some (.slice none 0 0),1,24):=by kernel_rfl
theorem T.u177 : Tryz.prog.underlying 177 = some (.slice 23):=by kernel_rfl
theorem T.t23 : bu Tryz.prog 23 = some (false,some (.slice none 0 0),1,24):=by kernel_rfl
theorem T.u184 : Tryz.prog.underlying 184 = some (.slice 4):=by kernel_rfl
theorem T.t4 : bu Tryz.prog 4 = some (false,some (.bool false),1,1):=by kernel_rfl
theorem T.u181 : Tryz.prog.underlying 181 = some (.slice 184):=by kernel_rfl
theorem T.t184 : bu Tryz.prog 184 = some (false,some (.slice none 0 0),1,24):=by kernel_rfl
theorem T.u4 : Tryz.prog.underlying 4 = some (.bool):=by kernel_rfl
theorem T.u75 : Tryz.prog.underlying 75 = some (.slice 78):=by kernel_rfl
theorem T.t78 : bu Tryz.prog 78 = some (false,some (.slice none 0 0),1,24):=by kernel_rfl
theorem T.s51 : mF Tryz.prog 51 = some ([(0,1),(1,1),(2,1),(3,1),(4,1)],[.int .i64 0,.int .i64 0,.int .i64 0,.int .i64 0,.int .i64 0]):=by kernel_rfl
theorem T.u35 : Tryz.prog.underlying 35 = some (.slice 51):=by kernel_rfl
theorem T.t51 : bu Tryz.prog 51 = some (true,some (.agg #[.int .i64 0,.int .i64 0,.int .i64 0,.int .i64 0,.int .i64 0]),5,40):=by kernel_rfl
theorem T.u24 : Tryz.prog.underlying 24 = some (.slice 35):=by kernel_rfl
theorem T.t35 : bu Tryz.prog 35 = some (false,some (.slice none 0 0),1,24):=by kernel_rfl
theorem T.s44 : mF Tryz.prog 44 = some ([(0,1),(1,1)],[.int .i64 0,.slice none 0 0]):=by kernel_rfl
theorem T.u28 : Tryz.prog.underlying 28 = some (.slice 44):=by kernel_rfl
theorem T.t44 : bu Tryz.prog 44 = some (true,some (.agg #[.int .i64 0,.slice none 0 0]),2,32):=by kernel_rfl
theorem T.u21 : Tryz.prog.underlying 21 = some (.int .i32):=by kernel_rfl
theorem T.u118 : Tryz.prog.underlying 118 = some (.int .u32):=by kernel_rfl
theorem T.f51_1 : eZ Tryz.prog 51 1 = some (1,1,false):=by kernel_rfl
theorem T.f51_2 : eZ Tryz.prog 51 2 = some (2,1,false):=by kernel_rfl
theorem T.f51_3 : eZ Tryz.prog 51 3 = some (3,1,false):=by kernel_rfl
theorem T.f51_4 : eZ Tryz.prog 51 4 = some (4,1,false):=by kernel_rfl
theorem T.f51_0 : eZ Tryz.prog 51 0 = some (0,1,false):=by kernel_rfl
theorem T.e51 : rq Tryz.prog 51 = some [(0,.int .i64),(1,.int .i64),(2,.int .i64),(3,.int .i64),(4,.int .i64)]:=by kernel_rfl
theorem T.u115 : Tryz.prog.underlying 115 = some (.array 21 114):=by kernel_rfl
theorem T.t114 : bu Tryz.prog 114 = some (true,some (.agg #[.string ⟨#[]⟩,.int .i64 0,.int .i64 0,.int .i64 0]),4,40):=by kernel_rfl
theorem T.f114_2 : eZ Tryz.prog 114 2 = some (2,1,false):=by kernel_rfl
theorem T.f114_1 : eZ Tryz.prog 114 1 = some (1,1,false):=by kernel_rfl
theorem T.f114_3 : eZ Tryz.prog 114 3 = some (3,1,false):=by kernel_rfl
theorem T.t38 : bu Tryz.prog 38 = some (true,some (.agg #[.slice none 0 0,.int .i64 0,.slice none 0 0]),3,56):=by kernel_rfl
theorem T.s38 : mF Tryz.prog 38 = some ([(0,1),(1,1),(2,1)],[.slice none 0 0,.int .i64 0,.slice none 0 0]):=by kernel_rfl
theorem T.f38_0 : eZ Tryz.prog 38 0 = some (0,1,false):=by kernel_rfl
theorem T.f38_2 : eZ Tryz.prog 38 2 = some (2,1,false):=by kernel_rfl
theorem T.t30 : bu Tryz.prog 30 = some (true,some (.agg #[.slice none 0 0,.slice none 0 0,.int .i64 0,.int .i64 0,.slice none 0 0]),5,88):=by kernel_rfl
theorem T.s30 : mF Tryz.prog 30 = some ([(0,1),(1,1),(2,1),(3,1),(4,1)],[.slice none 0 0,.slice none 0 0,.int .i64 0,.int .i64 0,.slice none 0 0]):=by kernel_rfl
theorem T.f30_0 : eZ Tryz.prog 30 0 = some (0,1,false):=by kernel_rfl
theorem T.t27 : bu Tryz.prog 27 = some (false,some (.slice none 0 0),1,24):=by kernel_rfl
theorem T.u27 : Tryz.prog.underlying 27 = some (.slice 38):=by kernel_rfl
theorem T.f38_1 : eZ Tryz.prog 38 1 = some (1,1,false):=by kernel_rfl
theorem T.f44_0 : eZ Tryz.prog 44 0 = some (0,1,false):=by kernel_rfl
theorem T.f44_1 : eZ Tryz.prog 44 1 = some (1,1,false):=by kernel_rfl
theorem T.f30_2 : eZ Tryz.prog 30 2 = some (2,1,false):=by kernel_rfl
theorem T.f30_3 : eZ Tryz.prog 30 3 = some (3,1,false):=by kernel_rfl
theorem T.f30_1 : eZ Tryz.prog 30 1 = some (1,1,false):=by kernel_rfl
theorem T.t28 : bu Tryz.prog 28 = some (false,some (.slice none 0 0),1,24):=by kernel_rfl
theorem T.f30_4 : eZ Tryz.prog 30 4 = some (4,1,false):=by kernel_rfl
theorem T.u91 : Tryz.prog.underlying 91 = some (.pointer 3):=by kernel_rfl
theorem T.u98 : Tryz.prog.underlying 98 = some (.array 11 3):=by kernel_rfl
def kZ (a0 : List Int) : Option (aL):=
(sel (decide ((a0.length : Int) > 2000)) ((cut a0 0 2000).bind fun r1 =>
some r1) <|
some a0 : Option ((List Int))).bind fun y1 =>
some (aL.mk y1 0)
def aq (a0 : aL) (a1 : Int) : Option (Int × Int):=
sel ((decide (a1 < 1)) || ((a0.b.length : Int) == 0)) (some (0,w64 (a0.p + 1))) <|
sel (decide ((w64 ((w64 (a0.p + 1)) - 1)) < (a0.b.length : Int))) ((nth a0.b (w64 ((w64 (a0.p + 1)) - 1))).bind fun x1 =>
(mh (w64 (x1)) a1).bind fun d1 =>
some (d1,w64 (a0.p + 1))) <|
(mh (w64 ((w64 (a0.p + 1)) - 1)) (a0.b.length : Int)).bind fun d2 =>
(nth a0.b d2).bind fun x2 =>
(mh (w64 ((w64 ((w64 ((w64 (a0.p + 1)) - 1)) * 7)) + 3)) (a0.b.length : Int)).bind fun d3 =>
(nth a0.b d3).bind fun x3 =>
(px .i64 (w64 ((w64 (a0.p + 1)) - 1)) (a0.b.length : Int)).bind fun d4 =>
(mh (aF .xor .i64 (w64 ((w64 ((w64 ((w64 ((w64 (x2)) * 131)) + (w64 ((w64 (x3)) * 1117)))) + (w64 ((w64 ((w64 (a0.p + 1)) - 1)) * 29)))) + (w64 (d4 * 53)))) (w64 (Int.tdiv (w64 ((w64 ((w64 ((w64 ((w64 (x2)) * 131)) + (w64 ((w64 (x3)) * 1117)))) + (w64 ((w64 ((w64 (a0.p + 1)) - 1)) * 29)))) + (w64 (d4 * 53)))) 64))) a1).bind fun d5 =>
some (d5,w64 (a0.p + 1))
def cK (a0 : aL) : Option (Int × Int):=
(aq (aL.mk a0.b a0.p) 6).bind fun y1 =>
some (y1.1,y1.2)
def bK (a0 : Int) : Option (Int):=
sel (decide ((Int.tmod a0 4294967296) > 2147483647)) (some (w64 ((Int.tmod a0 4294967296) - 4294967296))) <|
sel (decide ((Int.tmod a0 4294967296) < (-2147483648))) (some (w64 ((Int.tmod a0 4294967296) + 4294967296))) <|
some (Int.tmod a0 4294967296)
def jw (a0 : aL) : Option (Int × Int):=
(aq (aL.mk a0.b a0.p) 6).bind fun y1 =>
sel (y1.1 == 0) ((aq (aL.mk a0.b y1.2) 8).bind fun y2 =>
(nth [(-2147483648),2147483647,(-1),0,1,(-2147483647),65536,(-65536)] y2.1).bind fun x1 =>
some (x1,y2.2)) <|
sel (y1.1 == 1) ((aq (aL.mk a0.b y1.2) 256).bind fun y3 =>
(aq (aL.mk a0.b y3.2) 256).bind fun y4 =>
(aq (aL.mk a0.b y4.2) 256).bind fun y5 =>
(aq (aL.mk a0.b y5.2) 200).bind fun y6 =>
(bK (w64 ((w64 ((w64 ((w64 (y3.1 * 65536)) + (w64 (y4.1 * 256)))) + y5.1)) * (w64 (1 + y6.1))))).bind fun y7 =>
some (y7,y6.2)) <|
sel (y1.1 == 2) ((aq (aL.mk a0.b y1.2) 200).bind fun y8 =>
some (w64 (0 - y8.1),y8.2)) <|
(aq (aL.mk a0.b y1.2) 20).bind fun y9 =>
some (y9.1,y9.2)
def kl (a0 : aL) : Option (Int × Int):=
(aq (aL.mk a0.b a0.p) 12).bind fun y1 =>
some (w64 (1 + y1.1),y1.2)
def jx (a0 : aL) (a1 : Int) : Option (aj × Int):=
(aq (aL.mk a0.b a0.p) 12).bind fun y1 =>
(sel (y1.1 == 0) (some (y1.1 == 0)) <|
some (y1.1 == 1) : Option (Bool)).bind fun y2 =>
sel y2 ((cK (aL.mk a0.b y1.2)).bind fun y3 =>
(jw (aL.mk a0.b y3.2)).bind fun y4 =>
(aq (aL.mk a0.b y4.2) 4).bind fun y5 =>
(nth [0,1,2,y4.1] y5.1).bind fun x1 =>
some ((aj.mk 1 y3.1 0 0 x1),y5.2)) <|
(sel (y1.1 == 2) (some (y1.1 == 2)) <|
some (y1.1 == 3) : Option (Bool)).bind fun y6 =>
sel y6 ((cK (aL.mk a0.b y1.2)).bind fun y7 =>
(cK (aL.mk a0.b y7.2)).bind fun y8 =>
some ((aj.mk 2 y7.1 y8.1 0 0),y8.2)) <|
(sel (y1.1 == 4) (some (y1.1 == 4)) <|
sel (y1.1 == 5) (some (y1.1 == 5)) <|
some (y1.1 == 6) : Option (Bool)).bind fun y9 =>
sel y9 ((cK (aL.mk a0.b y1.2)).bind fun y10 =>
(cK (aL.mk a0.b y10.2)).bind fun y11 =>
(cK (aL.mk a0.b y11.2)).bind fun y12 =>
(kl (aL.mk a0.b y12.2)).bind fun y13 =>
some ((aj.mk 3 y10.1 y11.1 y12.1 y13.1),y13.2)) <|
sel (y1.1 == 7) ((aq (aL.mk a0.b y1.2) a1).bind fun y14 =>
some ((aj.mk 4 0 0 0 y14.1),y14.2)) <|
sel (y1.1 == 8) ((cK (aL.mk a0.b y1.2)).bind fun y15 =>
(aq (aL.mk a0.b y15.2) a1).bind fun y16 =>
some ((aj.mk 5 0 y15.1 0 y16.1),y16.2)) <|
sel (y1.1 == 9) ((cK (aL.mk a0.b y1.2)).bind fun y17 =>
(aq (aL.mk a0.b y17.2) 2).bind fun y18 =>
some ((aj.mk 6 0 y17.1 0 y18.1),y18.2)) <|
sel (y1.1 == 10) ((cK (aL.mk a0.b y1.2)).bind fun y19 =>
(aq (aL.mk a0.b y19.2) 2).bind fun y20 =>
some ((aj.mk 7 y19.1 0 0 y20.1),y20.2)) <|
(aq (aL.mk a0.b y1.2) 4).bind fun y21 =>
sel (y21.1 == 0) (some ((aj.mk 8 0 0 0 0),y21.2)) <|
(cK (aL.mk a0.b y21.2)).bind fun y22 =>
some ((aj.mk 9 0 y22.1 0 0),y22.2)
def jy (a0 : aL) (y1 : Int × Int) (s1 : (List aj) × Int × Int) : Option (((List aj) × Int × Int) ⊕ ((List aj) × Int)):=
sel (decide ((w64 (s1.2.1 + 1)) < (w64 (1 + y1.1)))) ((jx (aL.mk a0.b s1.2.2) (w64 (1 + y1.1))).bind fun y5 =>
(app 40 s1.1 [y5.1]).bind fun r1 =>
some (.inl (r1,w64 (s1.2.1 + 1),y5.2))) <|
some (.inr (s1.1,s1.2.2))
def ff (a0 : aL) : Option ((List aj) × Int):=
(aq (aL.mk a0.b a0.p) 14).bind fun y1 =>
(bE (jy a0 y1) ([],0,y1.2)).bind fun y2 =>
(aq (aL.mk a0.b y2.2) 3).bind fun y6 =>
sel (y6.1 == 0) ((aq (aL.mk a0.b y6.2) (w64 (1 + y1.1))).bind fun y7 =>
(app 40 y2.1 [(aj.mk 4 0 0 0 y7.1)]).bind fun r2 =>
some (r2,y7.2)) <|
(app 40 y2.1 [(aj.mk 10 0 0 0 0)]).bind fun r3 =>
some (r3,y6.2)
def gS (a0 : List aw) (dI : List aw → Option (Int)) (s1 : Int × Int) : Option ((Int × Int) ⊕ Int):=
sel (decide (s1.2 < (a0.length : Int))) ((nth a0 s1.2).bind fun x1 =>
(nth a0 s1.2).bind fun x2 =>
(dI x1.Body).bind fun y4 =>
(dI x2.Else).bind fun y5 =>
some (.inl (w64 ((w64 ((w64 (s1.1 + 1)) + y4)) + y5),w64 (s1.2 + 1)))) <|
some (.inr s1.1)
def dJ (k : Nat) (dI : List aw → Option (Int)) (a0 : List aw) : Option (Int):=
(bE (gS a0 dI) (0,0)).bind fun y1 =>
some y1
def mo : Nat → (List aw → Option (Int))
 | 0=>((fun _=>none))
 | k + 1=>(dJ k (mo k))
def dt (k : Nat) : List aw → Option (Int):=(mo k)
def ax (a0 : Int) (a1 : Int) (a2 : Int) : Option (Bool):=
some ((decide (a0 ≥ a1)) && (decide (a0 ≤ a2)))
def eD (a0 : aw) (a1 : Bool) : Option (Bool):=
sel a1 ((ax a0.Var 0 3).bind fun y1 =>
some y1) <|
some (a0.Var == 0)
def eE (a0 : aw) (a1 : Bool) : Option (Bool):=
sel a1 ((ax a0.Box 0 2).bind fun y1 =>
some y1) <|
some (a0.Box == 0)
def eF (a0 : Int) : Option (Bool):=
(ax a0 1 12).bind fun y1 =>
some y1
def k8 (k : Nat) (k9 : Expr → Int → Option (Bool)) (a0 : Expr) (a1 : Int) : Option (Bool):=
sel (decide (a1 < 1)) (some false) <|
sel (a0.Op == 0) ((ax a0.N 0 99999).bind fun y1 =>
some (y1 && ((a0.Args.length : Int) == 0))) <|
sel (a0.Op == 13) ((ax a0.N 0 3).bind fun y2 =>
some (y2 && ((a0.Args.length : Int) == 0))) <|
(eF a0.Op).bind fun y3 =>
(sel ((y3 && (a0.N == 0)) && ((a0.Args.length : Int) == 2)) ((nth a0.Args 0).bind fun x1=>(k9 (Expr.mk x1.Op x1.N x1.Args) (w64 (a1 - 1))).bind fun y4=>some y4) (some false) : Option (Bool)).bind fun b1 =>
(sel b1 ((nth a0.Args 1).bind fun x2=>(k9 (Expr.mk x2.Op x2.N x2.Args) (w64 (a1 - 1))).bind fun y5=>some y5) (some false) : Option (Bool)).bind fun b2 =>
some b2
def oO : Nat → (Expr → Int → Option (Bool))
 | 0=>((fun _ _=>none))
 | k + 1=>(k8 k (oO k))
def mI (k : Nat) : Expr → Int → Option (Bool):=(oO k)
def da (k : Nat) (a0 : Expr) : Option (Bool):=
(mI k (Expr.mk a0.Op a0.N a0.Args) 5).bind fun y1 =>
some y1
def fW (a0 : Expr) : Option (Bool):=
some (((a0.Op == 0) && (a0.N == 0)) && ((a0.Args.length : Int) == 0))
def fg (k : Nat) (a0 : aw) : Option (Bool):=
sel ((decide ((a0.Body.length : Int) > 0)) || (decide ((a0.Else.length : Int) > 0))) (some false) <|
sel (a0.Kind == 1) ((eD (aw.mk a0.Kind a0.Var a0.Box (Expr.mk a0.Expr.Op a0.Expr.N a0.Expr.Args) a0.Body a0.Else) true).bind fun y1 =>
(sel y1 ((eE (aw.mk a0.Kind a0.Var a0.Box (Expr.mk a0.Expr.Op a0.Expr.N a0.Expr.Args) a0.Body a0.Else) false).bind fun y2=>some y2) (some false) : Option (Bool)).bind fun b1 =>
(sel b1 ((da k (Expr.mk a0.Expr.Op a0.Expr.N a0.Expr.Args)).bind fun y3=>some y3) (some false) : Option (Bool)).bind fun b2 =>
some b2) <|
sel (a0.Kind == 4) ((eD (aw.mk a0.Kind a0.Var a0.Box (Expr.mk a0.Expr.Op a0.Expr.N a0.Expr.Args) a0.Body a0.Else) false).bind fun y4 =>
(sel y4 ((eE (aw.mk a0.Kind a0.Var a0.Box (Expr.mk a0.Expr.Op a0.Expr.N a0.Expr.Args) a0.Body a0.Else) true).bind fun y5=>some y5) (some false) : Option (Bool)).bind fun b3 =>
(sel b3 ((da k (Expr.mk a0.Expr.Op a0.Expr.N a0.Expr.Args)).bind fun y6=>some y6) (some false) : Option (Bool)).bind fun b4 =>
some b4) <|
sel (a0.Kind == 5) ((eD (aw.mk a0.Kind a0.Var a0.Box (Expr.mk a0.Expr.Op a0.Expr.N a0.Expr.Args) a0.Body a0.Else) true).bind fun y7 =>
(sel y7 ((eE (aw.mk a0.Kind a0.Var a0.Box (Expr.mk a0.Expr.Op a0.Expr.N a0.Expr.Args) a0.Body a0.Else) true).bind fun y8=>some y8) (some false) : Option (Bool)).bind fun b5 =>
(sel b5 ((fW (Expr.mk a0.Expr.Op a0.Expr.N a0.Expr.Args)).bind fun y9=>some y9) (some false) : Option (Bool)).bind fun b6 =>
some b6) <|
sel (a0.Kind == 6) ((eD (aw.mk a0.Kind a0.Var a0.Box (Expr.mk a0.Expr.Op a0.Expr.N a0.Expr.Args) a0.Body a0.Else) false).bind fun y10 =>
(sel y10 ((eE (aw.mk a0.Kind a0.Var a0.Box (Expr.mk a0.Expr.Op a0.Expr.N a0.Expr.Args) a0.Body a0.Else) false).bind fun y11=>some y11) (some false) : Option (Bool)).bind fun b7 =>
(sel b7 ((fW (Expr.mk a0.Expr.Op a0.Expr.N a0.Expr.Args)).bind fun y12=>some y12) (some false) : Option (Bool)).bind fun b8 =>
some b8) <|
sel (a0.Kind == 7) ((eD (aw.mk a0.Kind a0.Var a0.Box (Expr.mk a0.Expr.Op a0.Expr.N a0.Expr.Args) a0.Body a0.Else) false).bind fun y13 =>
(sel y13 ((eE (aw.mk a0.Kind a0.Var a0.Box (Expr.mk a0.Expr.Op a0.Expr.N a0.Expr.Args) a0.Body a0.Else) false).bind fun y14=>some y14) (some false) : Option (Bool)).bind fun b9 =>
(sel b9 ((da k (Expr.mk a0.Expr.Op a0.Expr.N a0.Expr.Args)).bind fun y15=>some y15) (some false) : Option (Bool)).bind fun b10 =>
some b10) <|
some false
def jz (a0 : List aw) (a1 : Int) (du : aw → Int → Option (Bool)) (s1 : Int) : Option (Int ⊕ (Bool ⊕ Unit)):=
sel (decide (s1 < (a0.length : Int))) ((nth a0 s1).bind fun x1 =>
(du (aw.mk x1.Kind x1.Var x1.Box (Expr.mk x1.Expr.Op x1.Expr.N x1.Expr.Args) x1.Body x1.Else) a1).bind fun y4 =>
sel (!y4) (some (.inr (.inl false))) <|
some (.inl (w64 (s1 + 1)))) <|
some (.inr (.inr ()))
def fh (k : Nat) (cB : List aw → Int → Option (Bool)) (du : aw → Int → Option (Bool)) (a0 : List aw) (a1 : Int) : Option (Bool):=
(bE (jz a0 a1 du) 0).bind fun y1 =>
fd y1 (fun o3=>some o3) (fun o4 =>
some true)
def jA (k : Nat) (cB : List aw → Int → Option (Bool)) (du : aw → Int → Option (Bool)) (a0 : aw) (a1 : Int) : Option (Bool):=
sel ((a0.Kind != 2) && (a0.Kind != 3)) ((fg k (aw.mk a0.Kind a0.Var a0.Box (Expr.mk a0.Expr.Op a0.Expr.N a0.Expr.Args) a0.Body a0.Else)).bind fun y1 =>
some y1) <|
sel ((decide (a1 < 1)) || ((a0.Kind == 3) && (decide ((a0.Else.length : Int) > 0)))) (some false) <|
(eD (aw.mk a0.Kind a0.Var a0.Box (Expr.mk a0.Expr.Op a0.Expr.N a0.Expr.Args) a0.Body a0.Else) false).bind fun y2 =>
(sel y2 ((eE (aw.mk a0.Kind a0.Var a0.Box (Expr.mk a0.Expr.Op a0.Expr.N a0.Expr.Args) a0.Body a0.Else) false).bind fun y3=>some y3) (some false) : Option (Bool)).bind fun b1 =>
(sel b1 ((da k (Expr.mk a0.Expr.Op a0.Expr.N a0.Expr.Args)).bind fun y4=>some y4) (some false) : Option (Bool)).bind fun b2 =>
(sel b2 ((cB a0.Body (w64 (a1 - 1))).bind fun y5=>some y5) (some false) : Option (Bool)).bind fun b3 =>
(sel b3 ((cB a0.Else (w64 (a1 - 1))).bind fun y6=>some y6) (some false) : Option (Bool)).bind fun b4 =>
some b4
def dj : Nat → (List aw → Int → Option (Bool)) × (aw → Int → Option (Bool))
 | 0=>((fun _ _=>none),(fun _ _=>none))
 | k + 1=>(fh k (dj k).1 (dj k).2,jA k (dj k).1 (dj k).2)
def cP (k : Nat) : List aw → Int → Option (Bool):=(dj k).1
def oY (k : Nat) : aw → Int → Option (Bool):=(dj k).2
def fO (k : Nat) (a0 : List aw) : Option (Bool):=
(cP k a0 3).bind fun y1 =>
(sel y1 ((dt k a0).bind fun y2=>some (decide (y2 ≤ 16))) (some false) : Option (Bool)).bind fun b1 =>
some b1
def gq (k : Nat) (gr : Expr → Int → Option ((List aj))) (a0 : Expr) (a1 : Int) : Option ((List aj)):=
sel (a0.Op == 0) (some [(aj.mk 1 a1 0 0 a0.N)]) <|
sel (a0.Op == 13) (some [(aj.mk 2 a1 a0.N 0 0)]) <|
(nth a0.Args 0).bind fun x1 =>
(nth a0.Args 1).bind fun x2 =>
(gr (Expr.mk x1.Op x1.N x1.Args) a1).bind fun y1 =>
(gr (Expr.mk x2.Op x2.N x2.Args) (w64 (a1 + 1))).bind fun y2 =>
(app 40 y1 y2).bind fun r1 =>
(app 40 r1 [(aj.mk 3 a1 a1 (w64 (a1 + 1)) a0.Op)]).bind fun r2 =>
some r2
def mJ : Nat → (Expr → Int → Option ((List aj)))
 | 0=>((fun _ _=>none))
 | k + 1=>(gq k (mJ k))
def dv (k : Nat) : Expr → Int → Option ((List aj)):=(mJ k)
def lk (a0 : List aw) (a1 : Int) (bk : aw → Int → Option ((List aj))) (s1 : (List aj) × Int) : Option (((List aj) × Int) ⊕ ((List aj))):=
sel (decide (s1.2 < (a0.length : Int))) ((nth a0 s1.2).bind fun x1 =>
(bk (aw.mk x1.Kind x1.Var x1.Box (Expr.mk x1.Expr.Op x1.Expr.N x1.Expr.Args) x1.Body x1.Else) (w64 (a1 + (s1.1.length : Int)))).bind fun y4 =>
(app 40 s1.1 y4).bind fun r1 =>
some (.inl (r1,w64 (s1.2 + 1)))) <|
some (.inr s1.1)
def gu (k : Nat) (bn : List aw → Int → Option ((List aj))) (bk : aw → Int → Option ((List aj))) (ce : aw → Int → Option ((List aj))) (bt : aw → Int → Option ((List aj))) (a0 : List aw) (a1 : Int) : Option ((List aj)):=
(bE (lk a0 a1 bk) ([],0)).bind fun y1 =>
some y1
def gv (k : Nat) (bn : List aw → Int → Option ((List aj))) (bk : aw → Int → Option ((List aj))) (ce : aw → Int → Option ((List aj))) (bt : aw → Int → Option ((List aj))) (a0 : aw) (a1 : Int) : Option ((List aj)):=
(dv k (Expr.mk a0.Expr.Op a0.Expr.N a0.Expr.Args) 4).bind fun y1 =>
sel (a0.Kind == 2) ((ce (aw.mk a0.Kind a0.Var a0.Box (Expr.mk a0.Expr.Op a0.Expr.N a0.Expr.Args) a0.Body a0.Else) a1).bind fun y2 =>
some y2) <|
sel (a0.Kind == 3) ((bt (aw.mk a0.Kind a0.Var a0.Box (Expr.mk a0.Expr.Op a0.Expr.N a0.Expr.Args) a0.Body a0.Else) a1).bind fun y3 =>
some y3) <|
sel (a0.Kind == 1) ((app 40 y1 [(aj.mk 2 a0.Var 4 0 0)]).bind fun r1 =>
some r1) <|
sel (a0.Kind == 4) ((app 40 y1 [(aj.mk 6 0 4 0 a0.Box)]).bind fun r2 =>
some r2) <|
sel (a0.Kind == 7) ((app 40 y1 [(aj.mk 9 0 4 0 0)]).bind fun r3 =>
some r3) <|
sel (a0.Kind == 5) (some [(aj.mk 7 a0.Var 0 0 a0.Box)]) <|
some [(aj.mk 8 0 0 0 0)]
def jB (k : Nat) (bn : List aw → Int → Option ((List aj))) (bk : aw → Int → Option ((List aj))) (ce : aw → Int → Option ((List aj))) (bt : aw → Int → Option ((List aj))) (a0 : aw) (a1 : Int) : Option ((List aj)):=
(dv k (Expr.mk a0.Expr.Op a0.Expr.N a0.Expr.Args) 4).bind fun y1 =>
(bn a0.Body (w64 ((w64 (a1 + (y1.length : Int))) + 1))).bind fun y2 =>
sel ((a0.Else.length : Int) == 0) ((app 40 y1 [(aj.mk 5 0 4 0 (w64 ((w64 ((w64 (a1 + (y1.length : Int))) + 1)) + (y2.length : Int))))]).bind fun r1 =>
(app 40 r1 y2).bind fun r2 =>
some r2) <|
(bn a0.Else (w64 ((w64 ((w64 ((w64 (a1 + (y1.length : Int))) + 1)) + (y2.length : Int))) + 1))).bind fun y3 =>
(app 40 y1 [(aj.mk 5 0 4 0 (w64 ((w64 ((w64 ((w64 (a1 + (y1.length : Int))) + 1)) + (y2.length : Int))) + 1)))]).bind fun r3 =>
(app 40 r3 y2).bind fun r4 =>
(app 40 r4 [(aj.mk 4 0 0 0 (w64 ((w64 ((w64 ((w64 ((w64 (a1 + (y1.length : Int))) + 1)) + (y2.length : Int))) + 1)) + (y3.length : Int))))]).bind fun r5 =>
(app 40 r5 y3).bind fun r6 =>
some r6
def fP (k : Nat) (bn : List aw → Int → Option ((List aj))) (bk : aw → Int → Option ((List aj))) (ce : aw → Int → Option ((List aj))) (bt : aw → Int → Option ((List aj))) (a0 : aw) (a1 : Int) : Option ((List aj)):=
(dv k (Expr.mk a0.Expr.Op a0.Expr.N a0.Expr.Args) 4).bind fun y1 =>
(bn a0.Body (w64 ((w64 (a1 + (y1.length : Int))) + 1))).bind fun y2 =>
(app 40 y1 [(aj.mk 5 0 4 0 (w64 ((w64 ((w64 ((w64 (a1 + (y1.length : Int))) + 1)) + (y2.length : Int))) + 1)))]).bind fun r1 =>
(app 40 r1 y2).bind fun r2 =>
(app 40 r2 [(aj.mk 4 0 0 0 a1)]).bind fun r3 =>
some r3
def aR : Nat → (List aw → Int → Option ((List aj))) × (aw → Int → Option ((List aj))) × (aw → Int → Option ((List aj))) × (aw → Int → Option ((List aj)))
 | 0=>((fun _ _=>none),(fun _ _=>none),(fun _ _=>none),(fun _ _=>none))
 | k + 1=>(gu k (aR k).1 (aR k).2.1 (aR k).2.2.1 (aR k).2.2.2,gv k (aR k).1 (aR k).2.1 (aR k).2.2.1 (aR k).2.2.2,jB k (aR k).1 (aR k).2.1 (aR k).2.2.1 (aR k).2.2.2,fP k (aR k).1 (aR k).2.1 (aR k).2.2.1 (aR k).2.2.2)
def eG (k : Nat) : List aw → Int → Option ((List aj)):=(aR k).1
def gU (k : Nat) : aw → Int → Option ((List aj)):=(aR k).2.1
def lQ (k : Nat) : aw → Int → Option ((List aj)):=(aR k).2.2.1
def iC (k : Nat) : aw → Int → Option ((List aj)):=(aR k).2.2.2
def fi (k : Nat) (a0 : List aw) : Option ((List aj) × Bool):=
(fO k a0).bind fun y1 =>
sel (!y1) (some ([],false)) <|
(eG k a0 0).bind fun y2 =>
(app 40 y2 [(aj.mk 10 0 0 0 0)]).bind fun r1 =>
some (r1,true)
def jr (a0 : Int) (a1 : Expr) (a2 : Expr) : Option (Expr):=
some (Expr.mk a0 0 [(Expr.mk a1.Op a1.N a1.Args),(Expr.mk a2.Op a2.N a2.Args)])
def dC (a0 : Int) (a1 : Int) : Option (Expr):=
some (Expr.mk a0 a1 [])
def gV (a0 : aL) : Option (Expr × Int):=
(aq (aL.mk a0.b a0.p) 4).bind fun y1 =>
sel (y1.1 == 0) ((aq (aL.mk a0.b y1.2) 4).bind fun y2 =>
(dC 0 y2.1).bind fun y3 =>
some ((Expr.mk y3.Op y3.N y3.Args),y2.2)) <|
sel (y1.1 == 1) ((aq (aL.mk a0.b y1.2) 8).bind fun y4 =>
(nth [5,31,32,100,2047,2048,65536,99999] y4.1).bind fun x1 =>
(dC 0 x1).bind fun y5 =>
some ((Expr.mk y5.Op y5.N y5.Args),y4.2)) <|
(aq (aL.mk a0.b y1.2) 4).bind fun y6 =>
(dC 13 y6.1).bind fun y7 =>
some ((Expr.mk y7.Op y7.N y7.Args),y6.2)
def gw (k : Nat) (gx : aL → Int → Option (Expr × Int)) (a0 : aL) (a1 : Int) : Option (Expr × Int):=
(sel (decide (a1 < 2)) (some (true,a0.p)) ((aq (aL.mk a0.b a0.p) 3).bind fun y1=>some (y1.1 == 0,y1.2)) : Option (Bool × Int)).bind fun b1 =>
sel b1.1 ((gV (aL.mk a0.b b1.2)).bind fun y2 =>
some ((Expr.mk y2.1.Op y2.1.N y2.1.Args),y2.2)) <|
(kl (aL.mk a0.b b1.2)).bind fun y3 =>
(gx (aL.mk a0.b y3.2) (w64 (a1 - 1))).bind fun y4 =>
(gx (aL.mk a0.b y4.2) (w64 (a1 - 1))).bind fun y5 =>
(jr y3.1 (Expr.mk y4.1.Op y4.1.N y4.1.Args) (Expr.mk y5.1.Op y5.1.N y5.1.Args)).bind fun y6 =>
some ((Expr.mk y6.Op y6.N y6.Args),y5.2)
def mK : Nat → (aL → Int → Option (Expr × Int))
 | 0=>((fun _ _=>none))
 | k + 1=>(gw k (mK k))
def dT (k : Nat) : aL → Int → Option (Expr × Int):=(mK k)
def js (k : Nat) (a0 : aL) : Option (aw × Int):=
(aq (aL.mk a0.b a0.p) 3).bind fun y1 =>
(aq (aL.mk a0.b y1.2) 3).bind fun y2 =>
(dT k (aL.mk a0.b y2.2) (w64 (1 + y2.1))).bind fun y3 =>
some ((aw.mk 1 y1.1 0 (Expr.mk y3.1.Op y3.1.N y3.1.Args) [] []),y3.2)
def jC (k : Nat) (a0 : aL) (a1 : Int) : Option (aw × Int):=
sel (decide (a1 < 1)) ((js k (aL.mk a0.b a0.p)).bind fun y1 =>
some ((aw.mk y1.1.Kind y1.1.Var y1.1.Box (Expr.mk y1.1.Expr.Op y1.1.Expr.N y1.1.Expr.Args) y1.1.Body y1.1.Else),y1.2)) <|
(aq (aL.mk a0.b a0.p) a1).bind fun y2 =>
(aq (aL.mk a0.b y2.2) 2).bind fun y3 =>
sel (y3.1 == 0) ((aq (aL.mk a0.b y3.2) 3).bind fun y4 =>
(dT k (aL.mk a0.b y4.2) (w64 (1 + y4.1))).bind fun y5 =>
some ((aw.mk 4 0 y2.1 (Expr.mk y5.1.Op y5.1.N y5.1.Args) [] []),y5.2)) <|
(aq (aL.mk a0.b y3.2) 3).bind fun y6 =>
some ((aw.mk 5 y6.1 y2.1 (Expr.mk 0 0 []) [] []),y6.2)
def km (a0 : aL) (a1 : Int) (a2 : Int) (a3 : Int) (a4 : Bool) (bo : aL → Int → Int → Bool → Option ((List aw) × Int)) (s1 : (List aw) × Int × Int) : Option (((List aw) × Int × Int) ⊕ ((List aw) × Int)):=
sel (decide (s1.2.1 < a3)) ((bo (aL.mk a0.b s1.2.2) a1 a2 a4).bind fun y4 =>
(app 112 s1.1 y4.1).bind fun r1 =>
some (.inl (r1,w64 (s1.2.1 + 1),y4.2))) <|
some (.inr (s1.1,s1.2.2))
def fQ (k : Nat) (ba : aL → Int → Int → Int → Bool → Option ((List aw) × Int)) (bo : aL → Int → Int → Bool → Option ((List aw) × Int)) (cf : aL → Int → Int → Bool → Option (aw × Int)) (bF : aL → Int → Int → Option ((List aw) × Int)) (a0 : aL) (a1 : Int) (a2 : Int) (a3 : Int) (a4 : Bool) : Option ((List aw) × Int):=
(bE (km a0 a1 a2 a3 a4 bo) ([],0,a0.p)).bind fun y1 =>
some (y1.1,y1.2)
def gy (k : Nat) (ba : aL → Int → Int → Int → Bool → Option ((List aw) × Int)) (bo : aL → Int → Int → Bool → Option ((List aw) × Int)) (cf : aL → Int → Int → Bool → Option (aw × Int)) (bF : aL → Int → Int → Option ((List aw) × Int)) (a0 : aL) (a1 : Int) (a2 : Int) (a3 : Bool) : Option ((List aw) × Int):=
((aq (aL.mk a0.b a0.p) 10).bind fun y2 =>
(sel (y2.1 == 0) (some (y2.1 == 0)) <|
some (y2.1 == 1) : Option (Bool)).bind fun y3 =>
sel y3 ((js k (aL.mk a0.b y2.2)).bind fun y4 =>
some (.inr ([(aw.mk y4.1.Kind y4.1.Var y4.1.Box (Expr.mk y4.1.Expr.Op y4.1.Expr.N y4.1.Expr.Args) y4.1.Body y4.1.Else)],y4.2))) <|
sel (y2.1 == 2) (sel (decide (a2 > 0)) ((cf (aL.mk a0.b y2.2) a1 a2 a3).bind fun y5 =>
some (.inr ([(aw.mk y5.1.Kind y5.1.Var y5.1.Box (Expr.mk y5.1.Expr.Op y5.1.Expr.N y5.1.Expr.Args) y5.1.Body y5.1.Else)],y5.2))) <|
some (.inl y2.2)) <|
sel (y2.1 == 3) (sel ((decide (a2 > 0)) && a3) ((bF (aL.mk a0.b y2.2) a1 a2).bind fun y6 =>
some (.inr (y6.1,y6.2))) <|
some (.inl y2.2)) <|
(sel (y2.1 == 4) (some (y2.1 == 4)) <|
sel (y2.1 == 5) (some (y2.1 == 5)) <|
some (y2.1 == 6) : Option (Bool)).bind fun y7 =>
sel y7 ((jC k (aL.mk a0.b y2.2) a1).bind fun y8 =>
some (.inr ([(aw.mk y8.1.Kind y8.1.Var y8.1.Box (Expr.mk y8.1.Expr.Op y8.1.Expr.N y8.1.Expr.Args) y8.1.Body y8.1.Else)],y8.2))) <|
sel (y2.1 == 7) (some (.inr ([(aw.mk 6 0 0 (Expr.mk 0 0 []) [] [])],y2.2))) <|
some (.inl y2.2) : Option (Int ⊕ ((List aw) × Int))).bind fun y1 =>
fd y1 (fun o3=>(aq (aL.mk a0.b o3) 3).bind fun y9 =>
(dT k (aL.mk a0.b y9.2) (w64 (1 + y9.1))).bind fun y10 =>
some ([(aw.mk 7 0 0 (Expr.mk y10.1.Op y10.1.N y10.1.Args) [] [])],y10.2)) (fun o4 =>
some o4)
def jD (k : Nat) (ba : aL → Int → Int → Int → Bool → Option ((List aw) × Int)) (bo : aL → Int → Int → Bool → Option ((List aw) × Int)) (cf : aL → Int → Int → Bool → Option (aw × Int)) (bF : aL → Int → Int → Option ((List aw) × Int)) (a0 : aL) (a1 : Int) (a2 : Int) (a3 : Bool) : Option (aw × Int):=
(aq (aL.mk a0.b a0.p) 2).bind fun y1 =>
(dT k (aL.mk a0.b y1.2) (w64 (1 + y1.1))).bind fun y2 =>
(aq (aL.mk a0.b y2.2) 3).bind fun y3 =>
(ba (aL.mk a0.b y3.2) a1 (w64 (a2 - 1)) y3.1 a3).bind fun y4 =>
(aq (aL.mk a0.b y4.2) 3).bind fun y5 =>
(ba (aL.mk a0.b y5.2) a1 (w64 (a2 - 1)) y5.1 a3).bind fun y6 =>
some ((aw.mk 2 0 0 (Expr.mk y2.1.Op y2.1.N y2.1.Args) y4.1 y6.1),y6.2)
def gz (k : Nat) (ba : aL → Int → Int → Int → Bool → Option ((List aw) × Int)) (bo : aL → Int → Int → Bool → Option ((List aw) × Int)) (cf : aL → Int → Int → Bool → Option (aw × Int)) (bF : aL → Int → Int → Option ((List aw) × Int)) (a0 : aL) (a1 : Int) (a2 : Int) : Option ((List aw) × Int):=
(aq (aL.mk a0.b a0.p) 3).bind fun y1 =>
(ba (aL.mk a0.b y1.2) a1 (w64 (a2 - 1)) y1.1 false).bind fun y2 =>
(dC 13 3).bind fun y3 =>
(dC 0 1).bind fun y4 =>
(jr 8 (Expr.mk y3.Op y3.N y3.Args) (Expr.mk y4.Op y4.N y4.Args)).bind fun y5 =>
(dC 13 3).bind fun y6 =>
(aq (aL.mk a0.b y2.2) 3).bind fun y7 =>
(dC 0 (w64 (1 + y7.1))).bind fun y8 =>
(jr 5 (Expr.mk y6.Op y6.N y6.Args) (Expr.mk y8.Op y8.N y8.Args)).bind fun y9 =>
(app 112 y2.1 [(aw.mk 1 3 0 (Expr.mk y5.Op y5.N y5.Args) [] [])]).bind fun r1 =>
(dC 0 0).bind fun y10 =>
some ([(aw.mk 1 3 0 (Expr.mk y10.Op y10.N y10.Args) [] []),(aw.mk 3 0 0 (Expr.mk y9.Op y9.N y9.Args) r1 [])],y7.2)
def aQ : Nat → (aL → Int → Int → Int → Bool → Option ((List aw) × Int)) × (aL → Int → Int → Bool → Option ((List aw) × Int)) × (aL → Int → Int → Bool → Option (aw × Int)) × (aL → Int → Int → Option ((List aw) × Int))
 | 0=>((fun _ _ _ _ _=>none),(fun _ _ _ _=>none),(fun _ _ _ _=>none),(fun _ _ _=>none))
 | k + 1=>(fQ k (aQ k).1 (aQ k).2.1 (aQ k).2.2.1 (aQ k).2.2.2,gy k (aQ k).1 (aQ k).2.1 (aQ k).2.2.1 (aQ k).2.2.2,jD k (aQ k).1 (aQ k).2.1 (aQ k).2.2.1 (aQ k).2.2.2,gz k (aQ k).1 (aQ k).2.1 (aQ k).2.2.1 (aQ k).2.2.2)
def dw (k : Nat) : aL → Int → Int → Int → Bool → Option ((List aw) × Int):=(aQ k).1
def gW (k : Nat) : aL → Int → Int → Bool → Option ((List aw) × Int):=(aQ k).2.1
def lR (k : Nat) : aL → Int → Int → Bool → Option (aw × Int):=(aQ k).2.2.1
def jE (k : Nat) : aL → Int → Int → Option ((List aw) × Int):=(aQ k).2.2.2
def ko (k : Nat) (s1 : (List aw)) : Option (((List aw)) ⊕ ((List aw))):=
(dt k s1).bind fun y6 =>
sel (decide (y6 > 16)) ((cut s1 0 (w64 ((s1.length : Int) - 1))).bind fun r1 =>
some (.inl r1)) <|
some (.inr s1)
def iE (k : Nat) (a0 : aL) (a1 : Int) : Option ((List aw) × Int):=
(aq (aL.mk a0.b a0.p) 6).bind fun y1 =>
(dw k (aL.mk a0.b y1.2) a1 3 (w64 (1 + y1.1)) true).bind fun y2 =>
(bE (ko k) y2.1).bind fun y3 =>
some (y3,y2.2)
def bV (a0 : Int) : Option (Bool):=
(ax a0 (-2147483648) 2147483647).bind fun y1 =>
some y1
def gA (a0 : Int) (a1 : Bool) : Option (Bool):=
sel a1 ((ax a0 0 11).bind fun y1 =>
some y1) <|
some (a0 == 0)
def cC (a0 : aj) (a1 : Bool) (a2 : Bool) (a3 : Bool) : Option (Bool):=
(gA a0.Dst a1).bind fun y1 =>
(sel y1 ((gA a0.A a2).bind fun y2=>some y2) (some false) : Option (Bool)).bind fun b1 =>
(sel b1 ((gA a0.B a3).bind fun y3=>some y3) (some false) : Option (Bool)).bind fun b2 =>
some b2
def eg (a0 : aj) (a1 : Int) : Option (Bool):=
sel (a0.Op == 1) ((cC a0 true false false).bind fun y1 =>
(sel y1 ((bV a0.N).bind fun y2=>some y2) (some false) : Option (Bool)).bind fun b1 =>
some b1) <|
sel (a0.Op == 2) ((cC a0 true true false).bind fun y3 =>
some (y3 && (a0.N == 0))) <|
sel (a0.Op == 3) ((cC a0 true true true).bind fun y4 =>
(sel y4 ((eF a0.N).bind fun y5=>some y5) (some false) : Option (Bool)).bind fun b2 =>
some b2) <|
sel (a0.Op == 4) ((cC a0 false false false).bind fun y6 =>
some ((y6 && (decide (a0.N ≥ 0))) && (decide (a0.N < a1)))) <|
sel (a0.Op == 5) ((cC a0 false true false).bind fun y7 =>
some ((y7 && (decide (a0.N ≥ 0))) && (decide (a0.N < a1)))) <|
sel (a0.Op == 6) ((cC a0 false true false).bind fun y8 =>
(sel y8 ((ax a0.N 0 2).bind fun y9=>some y9) (some false) : Option (Bool)).bind fun b3 =>
some b3) <|
sel (a0.Op == 7) ((cC a0 true false false).bind fun y10 =>
(sel y10 ((ax a0.N 0 2).bind fun y11=>some y11) (some false) : Option (Bool)).bind fun b4 =>
some b4) <|
sel (a0.Op == 9) ((cC a0 false true false).bind fun y12 =>
some (y12 && (a0.N == 0))) <|
(sel (a0.Op == 8) (some (a0.Op == 8)) <|
some (a0.Op == 10) : Option (Bool)).bind fun y13 =>
sel y13 ((cC a0 false false false).bind fun y14 =>
some (y14 && (a0.N == 0))) <|
some false
def jF (a0 : List aj) (s1 : Int) : Option (Int ⊕ (Bool ⊕ Unit)):=
sel (decide (s1 < (a0.length : Int))) ((nth a0 s1).bind fun x1 =>
(eg x1 (a0.length : Int)).bind fun y5 =>
sel (!y5) (some (.inr (.inl false))) <|
some (.inl (w64 (s1 + 1)))) <|
some (.inr (.inr ()))
def bP (a0 : List aj) : Option (Bool):=
(ax (a0.length : Int) 1 600).bind fun y1 =>
sel (!y1) (some false) <|
(bE (jF a0) 0).bind fun y2 =>
fd y2 (fun o3=>some o3) (fun o4 =>
(nth a0 (w64 ((a0.length : Int) - 1))).bind fun x2 =>
(sel (x2.Op == 10) (some true) ((nth a0 (w64 ((a0.length : Int) - 1))).bind fun x3=>some (x3.Op == 4)) : Option (Bool)).bind fun b1 =>
some b1)
def dx (a0 : List aj) (a1 : Int) : Option ((List Int)):=
(nth a0 a1).bind fun x1 =>
sel (x1.Op == 10) (some []) <|
sel (x1.Op == 4) (some [x1.N]) <|
sel ((x1.Op == 5) && (decide (x1.N < (w64 (a1 + 1))))) (some [x1.N,w64 (a1 + 1)]) <|
sel ((x1.Op == 5) && (decide (x1.N > (w64 (a1 + 1))))) (some [w64 (a1 + 1),x1.N]) <|
some [w64 (a1 + 1)]
def iG (a0 : List aj) (a1 : List a8) (a2 : Int) : Option ((List Int)):=
(nth a0 a2).bind fun x1 =>
(sel (x1.Op != 5) (some true) ((nth a1 x1.A).bind fun x2=>some (x2.Kind != 1)) : Option (Bool)).bind fun b1 =>
sel b1 ((dx a0 a2).bind fun y1 =>
some y1) <|
(nth a1 x1.A).bind fun x3 =>
sel (x3.N == 0) (some [x1.N]) <|
some [w64 (a2 + 1)]
def fD (a0 : Bool) : Option (Int):=
sel a0 (some 1) <|
some 0
def eH (a0 : Int) (a1 : Int) (a2 : Bool) : Option (Int):=
sel a2 ((shO .shr .i64 a0 (aF .and .i64 a1 31)).bind fun d1 =>
some d1) <|
(shO .shl .i64 a0 (aF .and .i64 a1 31)).bind fun d2 =>
(bK d2).bind fun y1 =>
some y1
def fX (a0 : Int) (a1 : Int) : Option (Int):=
sel (a1 == 0) (some (-1)) <|
(px .i64 a0 a1).bind fun d1 =>
(bK d1).bind fun y1 =>
some y1
def fY (a0 : Int) (a1 : Int) : Option (Int):=
sel (a1 == 0) (some a0) <|
(mh a0 a1).bind fun d1 =>
some d1
def gB (a0 : Int) (a1 : Int) (a2 : Int) : Option (Int × Bool):=
(eF a0).bind fun y1 =>
(sel (!y1) (some true) ((bV a1).bind fun y2=>some (!y2)) : Option (Bool)).bind fun b1 =>
(sel b1 (some true) ((bV a2).bind fun y3=>some (!y3)) : Option (Bool)).bind fun b2 =>
sel b2 (some (0,false)) <|
sel (a0 == 1) (some (aF .or .i64 a1 a2,true)) <|
sel (a0 == 2) (some (aF .xor .i64 a1 a2,true)) <|
sel (a0 == 3) (some (aF .and .i64 a1 a2,true)) <|
sel (a0 == 4) ((fD (a1 == a2)).bind fun y4 =>
some (y4,true)) <|
sel (a0 == 5) ((fD (decide (a1 < a2))).bind fun y5 =>
some (y5,true)) <|
sel (a0 == 6) ((eH a1 a2 false).bind fun y6 =>
some (y6,true)) <|
sel (a0 == 7) ((eH a1 a2 true).bind fun y7 =>
some (y7,true)) <|
sel (a0 == 8) ((bK (w64 (a1 + a2))).bind fun y8 =>
some (y8,true)) <|
sel (a0 == 9) ((bK (w64 (a1 - a2))).bind fun y9 =>
some (y9,true)) <|
sel (a0 == 10) ((bK (w64 (a1 * a2))).bind fun y10 =>
some (y10,true)) <|
sel (a0 == 11) ((fX a1 a2).bind fun y11 =>
some (y11,true)) <|
(fY a1 a2).bind fun y12 =>
some (y12,true)
def fj (a0 : aj) (a1 : a8) (a2 : a8) : Option (a8):=
sel ((a1.Kind != 1) || (a2.Kind != 1)) (some (a8.mk 2 0)) <|
(gB a0.N a1.N a2.N).bind fun y1 =>
some (a8.mk 1 y1.1)
def iH (a0 : aj) (a1 : List a8) : Option ((List a8)):=
(app 16 [] a1).bind fun r1 =>
sel (a0.Op == 1) ((nth r1 a0.Dst).bind fun x1 =>
(upd r1 a0.Dst (a8.mk 1 a0.N)).bind fun r2 =>
some r2) <|
sel (a0.Op == 2) ((nth a1 a0.A).bind fun x2 =>
(nth r1 a0.Dst).bind fun x3 =>
(upd r1 a0.Dst x2).bind fun r3 =>
some r3) <|
sel (a0.Op == 7) ((nth r1 a0.Dst).bind fun x4 =>
(upd r1 a0.Dst (a8.mk 2 0)).bind fun r4 =>
some r4) <|
sel (a0.Op == 3) ((nth a1 a0.A).bind fun x5 =>
(nth a1 a0.B).bind fun x6 =>
(fj a0 x5 x6).bind fun y1 =>
(nth r1 a0.Dst).bind fun x7 =>
(upd r1 a0.Dst y1).bind fun r5 =>
some r5) <|
some r1
def jG (a0 : a8) (a1 : a8) : Option (a8):=
sel (a0.Kind == 0) (some a1) <|
sel ((a1.Kind == 0) || ((a0.Kind == a1.Kind) && ((a0.N == a1.N) && true))) (some a0) <|
some (a8.mk 2 0)
def kr (a1 : Int) (a2 : List a8) (s1 : Bool × Int × (List (List a8))) : Option ((Bool × Int × (List (List a8))) ⊕ (Bool × (List (List a8)))):=
sel (decide (s1.2.1 < 12)) (((nth s1.2.2 a1).bind fun x1 =>
(nth x1 s1.2.1).bind fun x4 =>
(nth a2 s1.2.1).bind fun x5 =>
(jG x4 x5).bind fun y6 =>
(nth s1.2.2 a1).bind fun x6 =>
(nth x6 s1.2.1).bind fun x8 =>
sel (!((y6.Kind == x8.Kind) && ((y6.N == x8.N) && true))) ((nth x6 s1.2.1).bind fun x9 =>
(upd x6 s1.2.1 y6).bind fun r1 =>
some (true,(s1.2.2.set (Int.toNat a1) r1))) <|
some (s1.1,s1.2.2) : Option (Bool × (List (List a8)))).bind fun y4 =>
some (.inl (y4.1,w64 (s1.2.1 + 1),y4.2))) <|
some (.inr (s1.1,s1.2.2))
def iI (a0 : List (List a8)) (a1 : Int) (a2 : List a8) : Option (Bool × (List (List a8))):=
(bE (kr a1 a2) (false,0,a0)).bind fun y1 =>
some (y1.1,y1.2)
def kt (y5 : (List Int)) (y6 : (List a8)) (s2 : Bool × Int × (List (List a8))) : Option ((Bool × Int × (List (List a8))) ⊕ (Bool × (List (List a8)))):=
sel (decide (s2.2.1 < (y5.length : Int))) (((nth y5 s2.2.1).bind fun x4 =>
(iI s2.2.2 x4 y6).bind fun y11 =>
sel y11.1 (some (true,y11.2)) <|
some (s2.1,y11.2) : Option (Bool × (List (List a8)))).bind fun y10 =>
some (.inl (y10.1,w64 (s2.2.1 + 1),y10.2))) <|
some (.inr (s2.1,s2.2.2))
def ku (a0 : List aj) (s1 : Bool × Int × (List (List a8))) : Option ((Bool × Int × (List (List a8))) ⊕ (Bool × (List (List a8)))):=
sel (decide (s1.2.1 < (a0.length : Int))) (((nth s1.2.2 s1.2.1).bind fun x1 =>
(nth x1 0).bind fun x2 =>
sel (x2.Kind == 0) (some (s1.1,s1.2.2)) <|
(iG a0 x1 s1.2.1).bind fun y5 =>
(nth a0 s1.2.1).bind fun x3 =>
(iH x3 x1).bind fun y6 =>
(bE (kt y5 y6) (s1.1,0,s1.2.2)).bind fun y7 =>
some (y7.1,y7.2) : Option (Bool × (List (List a8)))).bind fun y4 =>
some (.inl (y4.1,w64 (s1.2.1 + 1),y4.2))) <|
some (.inr (s1.1,s1.2.2))
def iJ (a0 : List aj) (a1 : List (List a8)) : Option (Bool × (List (List a8))):=
(bE (ku a0) (false,0,a1)).bind fun y1 =>
some (y1.1,y1.2)
def ll (a0 : List aj) (s1 : (List (List a8)) × Int) : Option (((List (List a8)) × Int) ⊕ ((List (List a8)))):=
sel (decide (s1.2 < (a0.length : Int))) ((mk 16 12 (a8.mk 0 0)).bind fun r1 =>
(app 24 s1.1 [r1]).bind fun r2 =>
some (.inl (r2,w64 (s1.2 + 1)))) <|
some (.inr s1.1)
def lm (s2 : Int × (List (List a8))) : Option ((Int × (List (List a8))) ⊕ ((List (List a8)))):=
sel (decide (s2.1 < 12)) ((nth s2.2 0).bind fun x1 =>
(nth x1 s2.1).bind fun x2 =>
(upd x1 s2.1 (a8.mk 1 0)).bind fun r3 =>
some (.inl (w64 (s2.1 + 1),(s2.2.set (Int.toNat 0) r3)))) <|
some (.inr s2.2)
def ln (a0 : List aj) (s3 : (List (List a8))) : Option (((List (List a8))) ⊕ ((List (List a8)))):=
(iJ a0 s3).bind fun y11 =>
sel y11.1 (some (.inl y11.2)) <|
some (.inr y11.2)
def jH (a0 : List aj) : Option ((List (List a8))):=
(bP a0).bind fun y1 =>
sel (!y1) (some []) <|
(bE (ll a0) ([],0)).bind fun y2 =>
(bE (lm) (0,y2)).bind fun y5 =>
(bE (ln a0) y5).bind fun y8 =>
some y8
def eU (a0 : a8) (a1 : Int) : Option (Bool):=
some ((a0.Kind == 1) && (a0.N == a1))
def lS (a0 : List Int) (a1 : Int) (s1 : Int) : Option (Int ⊕ (Bool ⊕ Unit)):=
sel (decide (s1 < (a0.length : Int))) ((nth a0 s1).bind fun x1 =>
sel (x1 == a1) (some (.inr (.inl true))) <|
some (.inl (w64 (s1 + 1)))) <|
some (.inr (.inr ()))
def la (a0 : List Int) (a1 : Int) : Option (Bool):=
(bE (lS a0 a1) 0).bind fun y1 =>
fd y1 (fun o3=>some o3) (fun o4 =>
some false)
def fE (a0 : Int) (a1 : List Int) : Option (Bool):=
(la a1 a0).bind fun y1 =>
some y1
def lb (a0 : aj) (a1 : a8) (a2 : a8) : Option (aj):=
(fj a0 a1 a2).bind fun y1 =>
sel (y1.Kind == 1) (some (aj.mk 1 a0.Dst 0 0 y1.N)) <|
(eU a2 0).bind fun y2 =>
(sel y2 ((fE a0.N [1,2,6,7,8,9]).bind fun y3=>some y3) (some false) : Option (Bool)).bind fun b1 =>
sel b1 (some (aj.mk 2 a0.Dst a0.A 0 0)) <|
(eU a2 1).bind fun y4 =>
(sel y4 ((fE a0.N [10,11]).bind fun y5=>some y5) (some false) : Option (Bool)).bind fun b2 =>
sel b2 (some (aj.mk 2 a0.Dst a0.A 0 0)) <|
(eU a1 0).bind fun y6 =>
(sel y6 ((fE a0.N [1,2,8]).bind fun y7=>some y7) (some false) : Option (Bool)).bind fun b3 =>
sel b3 (some (aj.mk 2 a0.Dst a0.B 0 0)) <|
(eU a1 1).bind fun y8 =>
sel (y8 && (a0.N == 10)) (some (aj.mk 2 a0.Dst a0.B 0 0)) <|
(eU a1 0).bind fun y9 =>
(sel y9 (some true) ((eU a2 0).bind fun y10=>some y10) : Option (Bool)).bind fun b4 =>
(sel b4 ((fE a0.N [3,10]).bind fun y11=>some y11) (some false) : Option (Bool)).bind fun b5 =>
sel b5 (some (aj.mk 1 a0.Dst 0 0 0)) <|
some a0
def jI (a0 : aj) (a1 : List a8) (a2 : Int) : Option (aj):=
(nth a1 0).bind fun x1 =>
sel (x1.Kind == 0) (some a0) <|
sel (a0.Op == 2) ((nth a1 a0.A).bind fun x2 =>
sel (x2.Kind == 1) ((nth a1 a0.A).bind fun x3 =>
some (aj.mk 1 a0.Dst 0 0 x3.N)) <|
some a0) <|
sel (a0.Op == 3) ((nth a1 a0.A).bind fun x4 =>
(nth a1 a0.B).bind fun x5 =>
(lb a0 x4 x5).bind fun y1 =>
some y1) <|
sel (a0.Op == 5) ((nth a1 a0.A).bind fun x6 =>
(eU x6 0).bind fun y2 =>
sel y2 (some (aj.mk 4 0 0 0 a0.N)) <|
(nth a1 a0.A).bind fun x7 =>
sel (x7.Kind == 1) (some (aj.mk 4 0 0 0 (w64 (a2 + 1)))) <|
some a0) <|
some a0
def gX (a0 : List aj) (y2 : (List (List a8))) (s1 : (List aj) × Int) : Option (((List aj) × Int) ⊕ ((List aj))):=
sel (decide (s1.2 < (a0.length : Int))) ((nth y2 s1.2).bind fun x1 =>
(nth a0 s1.2).bind fun x3 =>
(jI x3 x1 s1.2).bind fun y7 =>
(app 40 s1.1 [y7]).bind fun r2 =>
some (.inl (r2,w64 (s1.2 + 1)))) <|
some (.inr s1.1)
def iK (a0 : List aj) : Option ((List aj) × Bool):=
(bP a0).bind fun y1 =>
sel (!y1) (some ([],false)) <|
(jH a0).bind fun y2 =>
(bE (gX a0 y2) ([],0)).bind fun y3 =>
some (y3,true)
def lq (s1 : (List Int) × Int) : Option (((List Int) × Int) ⊕ ((List Int))):=
sel (decide (s1.2 < 12)) ((app 8 s1.1 [s1.2]).bind fun r1 =>
some (.inl (r1,w64 (s1.2 + 1)))) <|
some (.inr s1.1)
def gY : Option ((List Int)):=
(bE (lq) ([],0)).bind fun y1 =>
some y1
def dy (a0 : aj) : Option (Int):=
(eg a0 600).bind fun y1 =>
sel (!y1) (some (-1)) <|
(sel (a0.Op == 1) (some (a0.Op == 1)) <|
sel (a0.Op == 2) (some (a0.Op == 2)) <|
sel (a0.Op == 3) (some (a0.Op == 3)) <|
some (a0.Op == 7) : Option (Bool)).bind fun y2 =>
sel y2 (some a0.Dst) <|
some (-1)
def kv (y1 : Int) (s1 : Int × (List Int)) : Option ((Int × (List Int)) ⊕ ((List Int))):=
sel (decide (s1.1 < 12)) (((nth s1.2 s1.1).bind fun x1 =>
sel (x1 == y1) ((nth s1.2 s1.1).bind fun x2 =>
(upd s1.2 s1.1 s1.1).bind fun r2 =>
some r2) <|
some s1.2 : Option ((List Int))).bind fun y5 =>
some (.inl (w64 (s1.1 + 1),y5))) <|
some (.inr s1.2)
def iL (a0 : aj) (a1 : List Int) : Option ((List Int)):=
(app 8 [] a1).bind fun r1 =>
(dy a0).bind fun y1 =>
sel (decide (y1 < 0)) (some r1) <|
(bE (kv y1) (0,r1)).bind fun y2 =>
(nth y2 y1).bind fun x3 =>
(upd y2 y1 y1).bind fun r3 =>
sel (a0.Op == 2) ((nth r3 y1).bind fun x4 =>
(upd r3 y1 a0.A).bind fun r4 =>
some r4) <|
some r3
def kw (a1 : Int) (a2 : List Int) (s1 : Bool × Int × (List (List Int))) : Option ((Bool × Int × (List (List Int))) ⊕ (Bool × (List (List Int)))):=
sel (decide (s1.2.1 < 12)) (((nth s1.2.2 a1).bind fun x2 =>
(nth x2 s1.2.1).bind fun x6 =>
(sel (x6 != s1.2.1) ((nth x2 s1.2.1).bind fun b_1=>(nth a2 s1.2.1).bind fun b_2=>some (b_1 != b_2)) (some false)).bind fun b2 =>
sel b2 ((nth s1.2.2 a1).bind fun x9 =>
(nth x9 s1.2.1).bind fun x10 =>
(upd x9 s1.2.1 s1.2.1).bind fun r2 =>
some (true,(s1.2.2.set (Int.toNat a1) r2))) <|
some (s1.1,s1.2.2) : Option (Bool × (List (List Int)))).bind fun y4 =>
some (.inl (y4.1,w64 (s1.2.1 + 1),y4.2))) <|
some (.inr (s1.1,s1.2.2))
def iM (a0 : List (List Int)) (a1 : Int) (a2 : List Int) : Option (Bool × (List (List Int))):=
(nth a0 a1).bind fun x1 =>
sel ((x1.length : Int) == 0) ((app 8 [] a2).bind fun r1 =>
some (true,(a0.set (Int.toNat a1) r1))) <|
(bE (kw a1 a2) (false,0,a0)).bind fun y1 =>
some (y1.1,y1.2)
def kx (y5 : (List Int)) (y6 : (List Int)) (s2 : Bool × Int × (List (List Int))) : Option ((Bool × Int × (List (List Int))) ⊕ (Bool × (List (List Int)))):=
sel (decide (s2.2.1 < (y5.length : Int))) (((nth y5 s2.2.1).bind fun x3 =>
(iM s2.2.2 x3 y6).bind fun y11 =>
sel y11.1 (some (true,y11.2)) <|
some (s2.1,y11.2) : Option (Bool × (List (List Int)))).bind fun y10 =>
some (.inl (y10.1,w64 (s2.2.1 + 1),y10.2))) <|
some (.inr (s2.1,s2.2.2))
def ky (a0 : List aj) (s1 : Bool × Int × (List (List Int))) : Option ((Bool × Int × (List (List Int))) ⊕ (Bool × (List (List Int)))):=
sel (decide (s1.2.1 < (a0.length : Int))) (((nth s1.2.2 s1.2.1).bind fun x1 =>
sel ((x1.length : Int) == 0) (some (s1.1,s1.2.2)) <|
(dx a0 s1.2.1).bind fun y5 =>
(nth a0 s1.2.1).bind fun x2 =>
(iL x2 x1).bind fun y6 =>
(bE (kx y5 y6) (s1.1,0,s1.2.2)).bind fun y7 =>
some (y7.1,y7.2) : Option (Bool × (List (List Int)))).bind fun y4 =>
some (.inl (y4.1,w64 (s1.2.1 + 1),y4.2))) <|
some (.inr (s1.1,s1.2.2))
def iO (a0 : List aj) (a1 : List (List Int)) : Option (Bool × (List (List Int))):=
(bE (ky a0) (false,0,a1)).bind fun y1 =>
some (y1.1,y1.2)
def kz (a0 : List aj) (s1 : (List (List Int)) × Int) : Option (((List (List Int)) × Int) ⊕ ((List (List Int)))):=
sel (decide (s1.2 < (a0.length : Int))) ((app 24 s1.1 [[]]).bind fun r1 =>
some (.inl (r1,w64 (s1.2 + 1)))) <|
some (.inr s1.1)
def kA (a0 : List aj) (s2 : (List (List Int))) : Option (((List (List Int))) ⊕ ((List (List Int)))):=
(iO a0 s2).bind fun y9 =>
sel y9.1 (some (.inl y9.2)) <|
some (.inr y9.2)
def kB (a0 : List aj) (s3 : Int × (List (List Int))) : Option ((Int × (List (List Int))) ⊕ ((List (List Int)))):=
sel (decide (s3.1 < (a0.length : Int))) (((nth s3.2 s3.1).bind fun x2 =>
sel ((x2.length : Int) == 0) ((gY).bind fun y14 =>
some (s3.2.set (Int.toNat s3.1) y14)) <|
some s3.2 : Option ((List (List Int)))).bind fun y13 =>
some (.inl (w64 (s3.1 + 1),y13))) <|
some (.inr s3.2)
def iP (a0 : List aj) : Option ((List (List Int))):=
(bP a0).bind fun y1 =>
sel (!y1) (some []) <|
(bE (kz a0) ([],0)).bind fun y2 =>
(gY).bind fun y5 =>
(nth y2 0).bind fun x1 =>
(bE (kA a0) (y2.set (Int.toNat 0) y5)).bind fun y6 =>
(bE (kB a0) (0,y6)).bind fun y10 =>
some y10
def jJ (a0 : aj) (a1 : List Int) : Option (aj):=
(sel (a0.Op == 2) (some (a0.Op == 2)) <|
sel (a0.Op == 5) (some (a0.Op == 5)) <|
sel (a0.Op == 6) (some (a0.Op == 6)) <|
some (a0.Op == 9) : Option (Bool)).bind fun y1 =>
sel y1 ((nth a1 a0.A).bind fun x1 =>
some (aj.mk a0.Op a0.Dst x1 a0.B a0.N)) <|
sel (a0.Op == 3) ((nth a1 a0.A).bind fun x2 =>
(nth a1 a0.B).bind fun x3 =>
some (aj.mk a0.Op a0.Dst x2 x3 a0.N)) <|
some a0
def gZ (a0 : List aj) (y2 : (List (List Int))) (s1 : (List aj) × Int) : Option (((List aj) × Int) ⊕ ((List aj))):=
sel (decide (s1.2 < (a0.length : Int))) ((nth y2 s1.2).bind fun x1 =>
(nth a0 s1.2).bind fun x3 =>
(jJ x3 x1).bind fun y7 =>
(app 40 s1.1 [y7]).bind fun r2 =>
some (.inl (r2,w64 (s1.2 + 1)))) <|
some (.inr s1.1)
def iQ (a0 : List aj) : Option ((List aj) × Bool):=
(bP a0).bind fun y1 =>
sel (!y1) (some ([],false)) <|
(iP a0).bind fun y2 =>
(bE (gZ a0 y2) ([],0)).bind fun y3 =>
some (y3,true)
def jK (a0 : List aj) (s1 : Int × Int) : Option ((Int × Int) ⊕ (Int ⊕ Unit)):=
sel (decide (s1.2 < (a0.length : Int))) ((nth a0 s1.1).bind fun x1 =>
sel (x1.Op != 4) (some (.inr (.inl s1.1))) <|
(nth a0 s1.1).bind fun x2 =>
some (.inl (x2.N,w64 (s1.2 + 1)))) <|
some (.inr (.inr ()))
def gC (a0 : List aj) (a1 : Int) : Option (Int):=
(bE (jK a0) (a1,0)).bind fun y1 =>
fd y1 (fun o3=>some o3) (fun o4 =>
some a1)
def hH (a0 : List aj) (s1 : (List aj) × Int) : Option (((List aj) × Int) ⊕ ((List aj))):=
sel (decide (s1.2 < (a0.length : Int))) ((nth a0 s1.2).bind fun x1 =>
(sel ((x1.Op == 4) || (x1.Op == 5)) ((gC a0 x1.N).bind fun y6 =>
some (aj.mk x1.Op x1.Dst x1.A x1.B y6)) <|
some x1 : Option (aj)).bind fun y5 =>
(app 40 s1.1 [y5]).bind fun r1 =>
some (.inl (r1,w64 (s1.2 + 1)))) <|
some (.inr s1.1)
def iR (a0 : List aj) : Option ((List aj) × Bool):=
(bP a0).bind fun y1 =>
sel (!y1) (some ([],false)) <|
(bE (hH a0) ([],0)).bind fun y2 =>
some (y2,true)
def kC (a1 : List (List Bool)) (y1 : (List Int)) (s1 : Int × (List Bool)) (s2 : Int × (List Bool)) : Option ((Int × (List Bool)) ⊕ ((List Bool))):=
sel (decide (s2.1 < 12)) ((nth s2.2 s2.1).bind fun x1 =>
(sel x1 (some true) ((nth y1 s1.1).bind fun x2=>(nth a1 x2).bind fun x3=>(nth x3 s2.1).bind fun x4=>some x4) : Option (Bool)).bind fun b1 =>
(nth s2.2 s2.1).bind fun x5 =>
(upd s2.2 s2.1 b1).bind fun r2 =>
some (.inl (w64 (s2.1 + 1),r2))) <|
some (.inr s2.2)
def kD (a1 : List (List Bool)) (y1 : (List Int)) (s1 : Int × (List Bool)) : Option ((Int × (List Bool)) ⊕ ((List Bool))):=
sel (decide (s1.1 < (y1.length : Int))) ((bE (kC a1 y1 s1) (0,s1.2)).bind fun y5 =>
some (.inl (w64 (s1.1 + 1),y5))) <|
some (.inr s1.2)
def fZ (a0 : List aj) (a1 : List (List Bool)) (a2 : Int) : Option ((List Bool)):=
(mk 1 12 false).bind fun r1 =>
(dx a0 a2).bind fun y1 =>
(bE (kD a1 y1) (0,r1)).bind fun y2 =>
some y2
def iU (a0 : aj) : Option ((List Int)):=
(eg a0 600).bind fun y1 =>
sel (!y1) (some []) <|
(sel (a0.Op == 2) (some (a0.Op == 2)) <|
sel (a0.Op == 5) (some (a0.Op == 5)) <|
sel (a0.Op == 6) (some (a0.Op == 6)) <|
some (a0.Op == 9) : Option (Bool)).bind fun y2 =>
sel y2 (some [a0.A]) <|
sel (a0.Op == 3) (sel (a0.A == a0.B) (some [a0.A]) <|
some [min a0.A a0.B,max a0.A a0.B]) <|
some []
def jL (y4 : (List Int)) (s1 : Int × (List Bool)) : Option ((Int × (List Bool)) ⊕ ((List Bool))):=
sel (decide (s1.1 < (y4.length : Int))) ((nth y4 s1.1).bind fun x2 =>
(nth s1.2 x2).bind fun x3 =>
(upd s1.2 x2 true).bind fun r3 =>
some (.inl (w64 (s1.1 + 1),r3))) <|
some (.inr s1.2)
def gD (a0 : aj) (a1 : List Bool) : Option ((List Bool)):=
(app 1 [] a1).bind fun r1 =>
((dy a0).bind fun y2 =>
sel (decide (y2 ≥ 0)) ((dy a0).bind fun y3 =>
(nth r1 y3).bind fun x1 =>
(upd r1 y3 false).bind fun r2 =>
some r2) <|
some r1 : Option ((List Bool))).bind fun y1 =>
(iU a0).bind fun y4 =>
(bE (jL y4) (0,y1)).bind fun y5 =>
some y5
def lr (a0 : List Bool) (a1 : List Bool) (s1 : Int) : Option (Int ⊕ (Bool ⊕ Unit)):=
sel (decide (s1 < (a0.length : Int))) ((nth a0 s1).bind fun x1 =>
(nth a1 s1).bind fun x2 =>
sel (x1 != x2) (some (.inr (.inl false))) <|
some (.inl (w64 (s1 + 1)))) <|
some (.inr (.inr ()))
def jM (a0 : List Bool) (a1 : List Bool) : Option (Bool):=
(bE (lr a0 a1) 0).bind fun y1 =>
fd y1 (fun o3=>some o3) (fun o4 =>
some ((a0.length : Int) == (a1.length : Int)))
def kE (a0 : List aj) (s1 : Bool × Int × (List (List Bool))) : Option ((Bool × Int × (List (List Bool))) ⊕ (Bool × (List (List Bool)))):=
sel (decide (s1.2.1 ≥ 0)) (((nth a0 s1.2.1).bind fun x1 =>
(fZ a0 s1.2.2 s1.2.1).bind fun y5 =>
(gD x1 y5).bind fun y6 =>
(nth s1.2.2 s1.2.1).bind fun x2 =>
(jM y6 x2).bind fun y7 =>
sel (!y7) (some (true,(s1.2.2.set (Int.toNat s1.2.1) y6))) <|
some (s1.1,s1.2.2) : Option (Bool × (List (List Bool)))).bind fun y4 =>
some (.inl (y4.1,w64 (s1.2.1 - 1),y4.2))) <|
some (.inr (s1.1,s1.2.2))
def iV (a0 : List aj) (a1 : List (List Bool)) : Option (Bool × (List (List Bool))):=
(bE (kE a0) (false,w64 ((a0.length : Int) - 1),a1)).bind fun y1 =>
some (y1.1,y1.2)
def lU (a0 : List aj) (s1 : (List (List Bool)) × Int) : Option (((List (List Bool)) × Int) ⊕ ((List (List Bool)))):=
sel (decide (s1.2 < (a0.length : Int))) ((mk 1 12 false).bind fun r1 =>
(app 24 s1.1 [r1]).bind fun r2 =>
some (.inl (r2,w64 (s1.2 + 1)))) <|
some (.inr s1.1)
def lV (a0 : List aj) (s2 : (List (List Bool))) : Option (((List (List Bool))) ⊕ ((List (List Bool)))):=
(iV a0 s2).bind fun y8 =>
sel y8.1 (some (.inl y8.2)) <|
some (.inr y8.2)
def lc (a0 : List aj) : Option ((List (List Bool))):=
(bP a0).bind fun y1 =>
sel (!y1) (some []) <|
(bE (lU a0) ([],0)).bind fun y2 =>
(bE (lV a0) y2).bind fun y5 =>
some y5
def jN (a0 : aj) (a1 : List Bool) : Option (Bool):=
(sel (a0.Op == 1) (some (a0.Op == 1)) <|
sel (a0.Op == 2) (some (a0.Op == 2)) <|
some (a0.Op == 3) : Option (Bool)).bind fun y1 =>
sel y1 ((nth a1 a0.Dst).bind fun x1 =>
some (!x1)) <|
some false
def hP (a0 : List aj) (y2 : (List (List Bool))) (s1 : (List aj) × Int) : Option (((List aj) × Int) ⊕ ((List aj))):=
sel (decide (s1.2 < (a0.length : Int))) ((nth a0 s1.2).bind fun x1 =>
((fZ a0 y2 s1.2).bind fun y7 =>
(jN x1 y7).bind fun y8 =>
sel y8 (some (aj.mk 4 0 0 0 (w64 (s1.2 + 1)))) <|
some x1 : Option (aj)).bind fun y6 =>
(app 40 s1.1 [y6]).bind fun r1 =>
some (.inl (r1,w64 (s1.2 + 1)))) <|
some (.inr s1.1)
def iW (a0 : List aj) : Option ((List aj) × Bool):=
(bP a0).bind fun y1 =>
sel (!y1) (some ([],false)) <|
(lc a0).bind fun y2 =>
(bE (hP a0 y2) ([],0)).bind fun y3 =>
some (y3,true)
def jO (y5 : (List Int)) (s2 : Bool × Int × (List Bool)) : Option ((Bool × Int × (List Bool)) ⊕ (Bool × (List Bool))):=
sel (decide (s2.2.1 < (y5.length : Int))) (((nth y5 s2.2.1).bind fun x2 =>
(nth s2.2.2 x2).bind fun x3 =>
sel (!x3) ((nth y5 s2.2.1).bind fun x4 =>
(nth s2.2.2 x4).bind fun x5 =>
(upd s2.2.2 x4 true).bind fun r1 =>
some (true,r1)) <|
some (s2.1,s2.2.2) : Option (Bool × (List Bool))).bind fun y9 =>
some (.inl (y9.1,w64 (s2.2.1 + 1),y9.2))) <|
some (.inr (s2.1,s2.2.2))
def jP (a0 : List aj) (s1 : Bool × Int × (List Bool)) : Option ((Bool × Int × (List Bool)) ⊕ (Bool × (List Bool))):=
sel (decide (s1.2.1 < (a0.length : Int))) (((nth s1.2.2 s1.2.1).bind fun x1 =>
sel (!x1) (some (s1.1,s1.2.2)) <|
(dx a0 s1.2.1).bind fun y5 =>
(bE (jO y5) (s1.1,0,s1.2.2)).bind fun y6 =>
some (y6.1,y6.2) : Option (Bool × (List Bool))).bind fun y4 =>
some (.inl (y4.1,w64 (s1.2.1 + 1),y4.2))) <|
some (.inr (s1.1,s1.2.2))
def gF (a0 : List aj) (a1 : List Bool) : Option (Bool × (List Bool)):=
(bE (jP a0) (false,0,a1)).bind fun y1 =>
some (y1.1,y1.2)
def jQ (a0 : List aj) (s1 : (List Bool)) : Option (((List Bool)) ⊕ ((List Bool))):=
(gF a0 s1).bind fun y5 =>
sel y5.1 (some (.inl y5.2)) <|
some (.inr y5.2)
def gG (a0 : List aj) : Option ((List Bool)):=
(bP a0).bind fun y1 =>
sel (!y1) (some []) <|
(mk 1 (a0.length : Int) false).bind fun r1 =>
(nth r1 0).bind fun x1 =>
(upd r1 0 true).bind fun r2 =>
(bE (jQ a0) r2).bind fun y2 =>
some y2
def jR (a0 : aj) (a1 : Int) : Option (Bool):=
(sel (a0.Op == 4) (some (a0.Op == 4)) <|
some (a0.Op == 5) : Option (Bool)).bind fun y1 =>
sel y1 (some (a0.N == (w64 (a1 + 1)))) <|
sel (a0.Op == 2) (some (a0.Dst == a0.A)) <|
some false
def kF (a0 : List Bool) (a1 : Int) (s1 : Int × Int) : Option ((Int × Int) ⊕ Int):=
sel (decide (s1.2 < a1)) (((nth a0 s1.2).bind fun x1 =>
sel x1 (some (w64 (s1.1 + 1))) <|
some s1.1 : Option (Int)).bind fun y4 =>
some (.inl (y4,w64 (s1.2 + 1)))) <|
some (.inr s1.1)
def iX (a0 : List Bool) (a1 : Int) : Option (Int):=
(bE (kF a0 a1) (0,0)).bind fun y1 =>
some y1
def iz (a0 : List aj) (s1 : Int × (List Bool)) : Option ((Int × (List Bool)) ⊕ ((List Bool))):=
sel (decide (s1.1 < (a0.length : Int))) ((nth s1.2 s1.1).bind fun x1 =>
(sel x1 ((nth a0 s1.1).bind fun x2=>(jR x2 s1.1).bind fun y6=>some (!y6)) (some false) : Option (Bool)).bind fun b1 =>
(nth s1.2 s1.1).bind fun x3 =>
(upd s1.2 s1.1 b1).bind fun r1 =>
some (.inl (w64 (s1.1 + 1),r1))) <|
some (.inr s1.2)
def iA (a0 : List aj) (y3 : (List Bool)) (s2 : (List aj) × Int) : Option (((List aj) × Int) ⊕ ((List aj))):=
sel (decide (s2.2 < (a0.length : Int))) (((nth a0 s2.2).bind fun x4 =>
(nth y3 s2.2).bind fun x5 =>
sel (!x5) (some s2.1) <|
(sel ((x4.Op == 4) || (x4.Op == 5)) ((iX y3 x4.N).bind fun y12 =>
some (aj.mk x4.Op x4.Dst x4.A x4.B y12)) <|
some x4 : Option (aj)).bind fun y11 =>
(app 40 s2.1 [y11]).bind fun r2 =>
some r2 : Option ((List aj))).bind fun y10 =>
some (.inl (y10,w64 (s2.2 + 1)))) <|
some (.inr s2.1)
def fk (a0 : List aj) : Option ((List aj) × Bool):=
(bP a0).bind fun y1 =>
sel (!y1) (some ([],false)) <|
(gG a0).bind fun y2 =>
(bE (iz a0) (0,y2)).bind fun y3 =>
(bE (iA a0 y3) ([],0)).bind fun y7 =>
some (y7,true)
def jS (a0 : List aj) : Option ((List aj)):=
(iK a0).bind fun y1 =>
(iQ y1.1).bind fun y2 =>
(iR y2.1).bind fun y3 =>
(iW y3.1).bind fun y4 =>
(fk y4.1).bind fun y5 =>
some y5.1
def gH (a1 : Int) (s1 : (List aj) × Int) : Option (((List aj) × Int) ⊕ ((List aj))):=
sel (decide (s1.2 < a1)) ((jS s1.1).bind fun y6 =>
some (.inl (y6,w64 (s1.2 + 1)))) <|
some (.inr s1.1)
def eI (a0 : List aj) (a1 : Int) : Option ((List aj) × Bool):=
(bP a0).bind fun y1 =>
(sel (!y1) (some true) ((ax a1 0 4).bind fun y2=>some (!y2)) : Option (Bool)).bind fun b1 =>
sel b1 (some ([],false)) <|
(app 40 [] a0).bind fun r1 =>
(bE (gH a1) (r1,0)).bind fun y3 =>
some (y3,true)
def jT (k : Nat) (a0 : aL) : Option ((List aj) × Int):=
(aq (aL.mk a0.b a0.p) 2).bind fun y1 =>
sel (y1.1 == 0) ((ff (aL.mk a0.b y1.2)).bind fun y2 =>
some (y2.1,y2.2)) <|
(iE k (aL.mk a0.b y1.2) 2).bind fun y3 =>
(fi k y3.1).bind fun y4 =>
sel (decide ((y4.1.length : Int) > 40)) ((ff (aL.mk a0.b y3.2)).bind fun y5 =>
some (y5.1,y5.2)) <|
(aq (aL.mk a0.b y3.2) 3).bind fun y6 =>
(eI y4.1 (w64 (Int.tdiv y6.1 2))).bind fun y7 =>
some (y7.1,y6.2)
def kG (a0 : aL) (k : Nat) (y1 : Int × Int) (s1 : (List (List aj)) × Int × Int) : Option (((List (List aj)) × Int × Int) ⊕ ((List (List aj)) × Int)):=
sel (decide (s1.2.1 < (w64 (1 + y1.1)))) ((jT k (aL.mk a0.b s1.2.2)).bind fun y5 =>
(app 24 s1.1 [y5.1]).bind fun r1 =>
some (.inl (r1,w64 (s1.2.1 + 1),y5.2))) <|
some (.inr (s1.1,s1.2.2))
def iY (k : Nat) (a0 : aL) : Option ((List (List aj)) × Int):=
(aq (aL.mk a0.b a0.p) 3).bind fun y1 =>
(bE (kG a0 k y1) ([],0,y1.2)).bind fun y2 =>
some (y2.1,y2.2)
def dD (a0 : Int) (a1 : Int) (a2 : Int) : Option (Int):=
sel (decide (a0 ≥ a1)) (some a2) <|
(nth [8,9,18,19,20,21,22,23] a0).bind fun x1 =>
some x1
def d7 (a0 : List Instr) (a1 : Int) (a2 : Int) : Option ((List Instr)):=
sel (decide (a1 < a2)) (some a0) <|
(app 40 a0 [(Instr.mk 16 0 2 7 (w64 (4 * (w64 (a1 - a2)))))]).bind fun r1 =>
some r1
def cQ (a0 : Int) : Option (Int):=
(bV a0).bind fun y1 =>
sel (!y1) (some (-1)) <|
sel (decide (a0 < 0)) (some (w64 (a0 + 4294967296))) <|
some a0
def et (a0 : Int) (s1 : Int × Int) : Option ((Int × Int) ⊕ Int):=
sel (decide (s1.2 < a0)) (some (.inl (w64 (s1.1 * 2),w64 (s1.2 + 1)))) <|
some (.inr s1.1)
def cl (a0 : Int) : Option (Int):=
(bE (et a0) (1,0)).bind fun y1 =>
some y1
def cq (a0 : Int) (a1 : Int) : Option (Int):=
(ax a1 1 32).bind fun y1 =>
(sel (!y1) (some true) ((cl a1).bind fun y2=>(ax a0 0 (w64 (y2 - 1))).bind fun y3=>some (!y3)) : Option (Bool)).bind fun b1 =>
sel b1 (some 0) <|
(cl (w64 (a1 - 1))).bind fun y4 =>
sel (decide (a0 ≥ y4)) ((cl a1).bind fun y5 =>
some (w64 (a0 - y5))) <|
some a0
def aY (a0 : Int) (a1 : Int) (a2 : Int) : Option (Int):=
(ax a0 0 4294967295).bind fun y1 =>
(sel (!y1) (some true) ((ax a1 0 31).bind fun y2=>some (!y2)) : Option (Bool)).bind fun b1 =>
(sel b1 (some true) ((ax a2 1 (w64 (32 - a1))).bind fun y3=>some (!y3)) : Option (Bool)).bind fun b2 =>
sel b2 (some 0) <|
(cl a1).bind fun y4 =>
(px .i64 a0 y4).bind fun d1 =>
(cl a2).bind fun y5 =>
(mh d1 y5).bind fun d2 =>
some d2
def iZ (a0 : Int) (a1 : Int) : Option ((List Instr)):=
(ax a1 (-2048) 2047).bind fun y1 =>
sel y1 (some [(Instr.mk 12 a0 0 0 a1)]) <|
(cQ a1).bind fun y2 =>
(aY y2 0 12).bind fun y3 =>
(cq y3 12).bind fun y4 =>
(bK (w64 (a1 - y4))).bind fun y5 =>
(cQ y5).bind fun y6 =>
(aY y6 12 20).bind fun y7 =>
(app 40 [(Instr.mk 19 a0 0 0 y7)] [(Instr.mk 12 a0 a0 0 y4)]).bind fun r1 =>
some r1
def dU (a0 : Int) (a1 : Int) (a2 : Int) : Option ((List Instr)):=
sel (decide (a0 < a1)) (some []) <|
some [(Instr.mk 14 a2 2 0 (w64 (4 * (w64 (a0 - a1)))))]
def eJ (a0 : Int) (a1 : Int) : Option (Instr):=
some (Instr.mk 12 a0 a1 0 0)
def lW (a0 : Int) : Option (Int):=
(nth [7,8,6,8,11,9,10,1,2,3,4,5] (w64 (a0 - 1))).bind fun x1 =>
some x1
def mq (a0 : aj) (a1 : Int) : Option ((List Instr)):=
(dU a0.A a1 5).bind fun y1 =>
(dU a0.B a1 6).bind fun y2 =>
(app 40 y1 y2).bind fun r1 =>
(dD a0.Dst a1 7).bind fun y3 =>
(lW a0.N).bind fun y4 =>
(dD a0.A a1 5).bind fun y5 =>
(dD a0.B a1 6).bind fun y6 =>
(app 40 r1 [(Instr.mk y4 y3 y5 y6 0)]).bind fun r2 =>
(sel (a0.N == 4) ((app 40 r2 [(Instr.mk 13 y3 y3 0 1)]).bind fun r3 =>
some r3) <|
some r2 : Option ((List Instr))).bind fun y7 =>
(d7 y7 a0.Dst a1).bind fun y8 =>
some y8
def lB (a0 : aj) (a1 : Int) (a2 : Int) : Option ((List Instr)):=
(dU a0.A a1 5).bind fun y1 =>
(dD a0.A a1 5).bind fun y2 =>
(app 40 y1 [(Instr.mk 18 0 y2 0 8)]).bind fun r1 =>
(app 40 r1 [(Instr.mk 20 0 0 0 (w64 (a2 - (w64 (4 * (r1.length : Int))))))]).bind fun r2 =>
some r2
def dV (a0 : List Instr) (a1 : Int) : Option ((List Instr)):=
(app 40 a0 [(Instr.mk 12 17 0 0 a1)]).bind fun r1 =>
(app 40 r1 [(Instr.mk 15 1 0 0 0)]).bind fun r2 =>
some r2
def hU (a0 : Int) (a1 : Int) : Option ((List Instr)):=
(dU a0 a1 5).bind fun y1 =>
(dD a0 a1 5).bind fun y2 =>
(eJ 10 y2).bind fun y3 =>
(app 40 y1 [y3]).bind fun r1 =>
some r1
def jt (a0 : Int) : Option (Instr):=
some (Instr.mk 12 11 0 0 a0)
def hY (a0 : aj) (a1 : Int) (a2 : Int) : Option ((List Instr)):=
(dD a0.Dst a1 7).bind fun y1 =>
sel (a0.Op == 1) ((iZ y1 a0.N).bind fun y2 =>
(d7 y2 a0.Dst a1).bind fun y3 =>
some y3) <|
sel (a0.Op == 2) ((dU a0.A a1 5).bind fun y4 =>
(dD a0.A a1 5).bind fun y5 =>
(eJ y1 y5).bind fun y6 =>
(app 40 y4 [y6]).bind fun r1 =>
(d7 r1 a0.Dst a1).bind fun y7 =>
some y7) <|
sel (a0.Op == 3) ((mq a0 a1).bind fun y8 =>
some y8) <|
sel (a0.Op == 4) (some [(Instr.mk 20 0 0 0 a2)]) <|
sel (a0.Op == 5) ((lB a0 a1 a2).bind fun y9 =>
some y9) <|
sel (a0.Op == 6) ((hU a0.A a1).bind fun y10 =>
(jt a0.N).bind fun y11 =>
(app 40 y10 [y11]).bind fun r2 =>
(dV r2 1).bind fun y12 =>
some y12) <|
sel (a0.Op == 7) ((jt a0.N).bind fun y13 =>
(dV [y13] 2).bind fun y14 =>
(eJ y1 10).bind fun y15 =>
(app 40 y14 [y15]).bind fun r3 =>
(d7 r3 a0.Dst a1).bind fun y16 =>
some y16) <|
sel (a0.Op == 8) ((dV [] 3).bind fun y17 =>
some y17) <|
sel (a0.Op == 9) ((hU a0.A a1).bind fun y18 =>
(dV y18 4).bind fun y19 =>
some y19) <|
(dV [] 5).bind fun y20 =>
some y20
def jU (a0 : List aj) (a1 : Int) (s1 : (List Int) × Int × Int) : Option (((List Int) × Int × Int) ⊕ ((List Int))):=
sel (decide (s1.2.2 < (a0.length : Int))) ((app 8 s1.1 [s1.2.1]).bind fun r1 =>
(nth a0 s1.2.2).bind fun x1 =>
(hY x1 a1 0).bind fun y4 =>
some (.inl (r1,w64 (s1.2.1 + (y4.length : Int)),w64 (s1.2.2 + 1)))) <|
some (.inr s1.1)
def gI (a0 : List aj) (a1 : Int) : Option ((List Int)):=
(bE (jU a0 a1) ([],0,0)).bind fun y1 =>
some y1
def lu (a0 : List aj) (a1 : Int) (y1 : (List Int)) (s1 : (List Instr) × Int) : Option (((List Instr) × Int) ⊕ ((List Instr))):=
sel (decide (s1.2 < (a0.length : Int))) (((nth a0 s1.2).bind fun x1 =>
(sel (x1.Op == 4) (some true) ((nth a0 s1.2).bind fun x2=>some (x2.Op == 5)) : Option (Bool)).bind fun b1 =>
sel b1 ((nth a0 s1.2).bind fun x3 =>
(nth y1 x3.N).bind fun x4 =>
(nth y1 s1.2).bind fun x5 =>
some (w64 (4 * (w64 (x4 - x5))))) <|
some 0 : Option (Int)).bind fun y5 =>
(nth a0 s1.2).bind fun x6 =>
(hY x6 a1 y5).bind fun y6 =>
(app 40 s1.1 y6).bind fun r1 =>
some (.inl (r1,w64 (s1.2 + 1)))) <|
some (.inr s1.1)
def jV (a0 : List aj) (a1 : Int) : Option ((List Instr)):=
(gI a0 a1).bind fun y1 =>
(bE (lu a0 a1 y1) ([],0)).bind fun y2 =>
some y2
def kH (y1 : (List (List aj)) × Int) (y2 : Int × Int) (s1 : (List (List Instr)) × Int) : Option (((List (List Instr)) × Int) ⊕ ((List (List Instr)))):=
sel (decide (s1.2 < (y1.1.length : Int))) ((nth y1.1 s1.2).bind fun x1 =>
(jV x1 (w64 (1 + y2.1))).bind fun y6 =>
(app 24 s1.1 [y6]).bind fun r1 =>
some (.inl (r1,w64 (s1.2 + 1)))) <|
some (.inr s1.1)
def i3 (k : Nat) (a0 : aL) : Option ((List (List Instr)) × Int):=
(iY k (aL.mk a0.b a0.p)).bind fun y1 =>
(aq (aL.mk a0.b y1.2) 8).bind fun y2 =>
(bE (kH y1 y2) ([],0)).bind fun y3 =>
some (y3,y2.2)
def eK (k : Nat) (a0 : List Int) : Option ((List Int) × (List (List Instr))):=
(kZ a0).bind fun y1 =>
(i3 k (aL.mk y1.b y1.p)).bind fun y2 =>
(aq (aL.mk y1.b y2.2) 4).bind fun y3 =>
(aq (aL.mk y1.b y3.2) 4).bind fun y4 =>
((aq (aL.mk y1.b y4.2) 24).bind fun y6 =>
sel (y6.1 == 0) ((nth [w64 (1 + y3.1),w64 (1 + y4.1)] 0).bind fun x1 =>
(upd [w64 (1 + y3.1),w64 (1 + y4.1)] 0 0).bind fun r1 =>
some (y2.1,y6.2,r1)) <|
sel (y6.1 == 1) ((nth y2.1 0).bind fun x2 =>
(app 24 y2.1 (List.replicate 3 x2)).bind fun r2 =>
some (r2,y6.2,[w64 (1 + y3.1),w64 (1 + y4.1)])) <|
sel (y6.1 == 2) ((nth y2.1 0).bind fun x3 =>
(app 40 x3 [(Instr.mk 0 0 0 0 0)]).bind fun r3 =>
some ((y2.1.set (Int.toNat 0) r3),y6.2,[w64 (1 + y3.1),w64 (1 + y4.1)])) <|
some (y2.1,y6.2,[w64 (1 + y3.1),w64 (1 + y4.1)]) : Option ((List (List Instr)) × Int × (List Int))).bind fun y5 =>
some (y5.2.2,y5.1)
def dk (a0 : List Int) (s1 : Int) : Option (Int ⊕ (Bool ⊕ Unit)):=
sel (decide (s1 < (a0.length : Int))) ((nth a0 s1).bind fun x1 =>
sel ((decide (x1 < 1)) || (decide (x1 > 4))) (some (.inr (.inl false))) <|
some (.inl (w64 (s1 + 1)))) <|
some (.inr (.inr ()))
def fR (a0 : List Int) : Option (Bool):=
(bE (dk a0) 0).bind fun y1 =>
fd y1 (fun o3=>some o3) (fun o4 =>
some (decide ((a0.length : Int) ≤ 3)))
def hZ (a0 : List Int) (s1 : (List Box) × Int) : Option (((List Box) × Int) ⊕ ((List Box))):=
sel (decide (s1.2 < (a0.length : Int))) ((nth a0 s1.2).bind fun x1 =>
(app 32 s1.1 [(Box.mk x1 [])]).bind fun r1 =>
some (.inl (r1,w64 (s1.2 + 1)))) <|
some (.inr s1.1)
def i4 (a0 : List Int) : Option ((List Box)):=
(bE (hZ a0) ([],0)).bind fun y1 =>
some y1
def bR (a0 : Int) : Option (Int):=
some (w64 (jv .i32 (a0)))
def cR (a0 : Int) : Option (Bool):=
some ((decide (a0 ≥ (-2147483648))) && (decide (a0 ≤ 2147483647)))
def bW (a0 : Int) : Option (Int):=
(cR a0).bind fun y1 =>
sel (!y1) (some (-1)) <|
some (w64 (jv .u32 (a0)))
def bC (a0 : Int) : Option (Int):=
sel ((decide (a0 ≥ 1)) && (decide (a0 ≤ 11))) (some 82) <|
sel ((decide (a0 ≥ 12)) && (decide (a0 ≤ 15))) (some 73) <|
sel (a0 == 16) (some 83) <|
sel ((a0 == 17) || (a0 == 18)) (some 66) <|
sel (a0 == 19) (some 85) <|
sel (a0 == 20) (some 74) <|
sel (a0 == 21) (some 69) <|
some 32
def cr (a0 : Int) : Option (Bool):=
some ((decide (a0 ≥ 0)) && (decide (a0 < 32)))
def bh (a0 : Instr) : Option (Bool):=
(cr a0.Rd).bind fun y1 =>
(cr a0.Rs).bind fun y2 =>
(cr a0.Rt).bind fun y3 =>
(bC a0.Op).bind fun y4 =>
sel (y4 == 82) (some (((y1 && y2) && y3) && (a0.Imm == 0))) <|
sel (y4 == 73) (some (((y1 && y2) && (a0.Rt == 0)) && ((decide (a0.Imm ≥ (-2048))) && (decide (a0.Imm ≤ 2047))))) <|
sel (y4 == 83) (some ((((a0.Rd == 0) && y2) && y3) && ((decide (a0.Imm ≥ (-2048))) && (decide (a0.Imm ≤ 2047))))) <|
sel (y4 == 66) (some ((((((a0.Rd == 0) && y2) && y3) && (decide (a0.Imm ≥ (-4096)))) && (decide (a0.Imm ≤ 4094))) && ((Int.tmod a0.Imm 2) == 0))) <|
sel (y4 == 85) (some ((((y1 && (a0.Rs == 0)) && (a0.Rt == 0)) && (decide (a0.Imm ≥ 0))) && (decide (a0.Imm ≤ 1048575)))) <|
sel (y4 == 74) (some (((((y1 && (a0.Rs == 0)) && (a0.Rt == 0)) && (decide (a0.Imm ≥ (-1048576)))) && (decide (a0.Imm ≤ 1048574))) && ((Int.tmod a0.Imm 2) == 0))) <|
sel (y4 == 69) (some ((a0.Op == 21) && ((a0.Rd == 0) && ((a0.Rs == 0) && ((a0.Rt == 0) && ((a0.Imm == 0) && true)))))) <|
some false
def dK (a0 : Int) : Option (Bool):=
some ((decide (a0 ≥ 0)) && (decide (a0 < 4294967296)))
def bz (a0 : Int) (a1 : Int) (a2 : Int) : Option (Int):=
(dK a0).bind fun y1 =>
sel (((((!y1) || (decide (a1 < 0))) || (decide (a1 > 31))) || (decide (a2 < 1))) || (decide (a2 > (w64 (32 - a1))))) (some 0) <|
(shO .shr .i64 a0 a1).bind fun d1 =>
(shO .shl .i64 1 a2).bind fun d2 =>
some (aF .and .i64 d1 (w64 (d2 - 1)))
def ay (a0 : Int) (a1 : Int) (a2 : Int) (a3 : Int) : Option (Int):=
(bz a3 a0 a1).bind fun y1 =>
(shO .shl .i64 y1 a2).bind fun d1 =>
some d1
def bL (a0 : Instr) : Option (Int × Bool):=
(bh a0).bind fun y1 =>
sel (!y1) (some (0,false)) <|
(nth kj (w64 (a0.Op - 1))).bind fun x1 =>
(bW a0.Imm).bind fun y2 =>
(bC a0.Op).bind fun y3 =>
sel (y3 == 82) (some (aF .or .i64 (aF .or .i64 (w64 (x1.funct7 * 2 ^ (min 25 (IntKind.bits .i64)))) (aF .or .i64 (aF .or .i64 (aF .or .i64 (w64 (a0.Rt * 2 ^ (min 20 (IntKind.bits .i64)))) (w64 (a0.Rs * 2 ^ (min 15 (IntKind.bits .i64))))) (w64 (x1.funct3 * 2 ^ (min 12 (IntKind.bits .i64))))) x1.opcode)) (w64 (a0.Rd * 2 ^ (min 7 (IntKind.bits .i64)))),true)) <|
sel (y3 == 73) ((ay 0 12 20 y2).bind fun y4 =>
some (aF .or .i64 (aF .or .i64 y4 (aF .or .i64 (aF .or .i64 (aF .or .i64 (w64 (a0.Rt * 2 ^ (min 20 (IntKind.bits .i64)))) (w64 (a0.Rs * 2 ^ (min 15 (IntKind.bits .i64))))) (w64 (x1.funct3 * 2 ^ (min 12 (IntKind.bits .i64))))) x1.opcode)) (w64 (a0.Rd * 2 ^ (min 7 (IntKind.bits .i64)))),true)) <|
sel (y3 == 83) ((ay 5 7 25 y2).bind fun y5 =>
(ay 0 5 7 y2).bind fun y6 =>
some (aF .or .i64 (aF .or .i64 y5 (aF .or .i64 (aF .or .i64 (aF .or .i64 (w64 (a0.Rt * 2 ^ (min 20 (IntKind.bits .i64)))) (w64 (a0.Rs * 2 ^ (min 15 (IntKind.bits .i64))))) (w64 (x1.funct3 * 2 ^ (min 12 (IntKind.bits .i64))))) x1.opcode)) y6,true)) <|
sel (y3 == 66) ((ay 12 1 31 y2).bind fun y7 =>
(ay 5 6 25 y2).bind fun y8 =>
(ay 1 4 8 y2).bind fun y9 =>
(ay 11 1 7 y2).bind fun y10 =>
some (aF .or .i64 (aF .or .i64 (aF .or .i64 (aF .or .i64 y7 y8) (aF .or .i64 (aF .or .i64 (aF .or .i64 (w64 (a0.Rt * 2 ^ (min 20 (IntKind.bits .i64)))) (w64 (a0.Rs * 2 ^ (min 15 (IntKind.bits .i64))))) (w64 (x1.funct3 * 2 ^ (min 12 (IntKind.bits .i64))))) x1.opcode)) y9) y10,true)) <|
sel (y3 == 85) ((ay 0 20 12 y2).bind fun y11 =>
some (aF .or .i64 (aF .or .i64 y11 (w64 (a0.Rd * 2 ^ (min 7 (IntKind.bits .i64))))) x1.opcode,true)) <|
sel (y3 == 74) ((ay 20 1 31 y2).bind fun y12 =>
(ay 1 10 21 y2).bind fun y13 =>
(ay 11 1 20 y2).bind fun y14 =>
(ay 12 8 12 y2).bind fun y15 =>
some (aF .or .i64 (aF .or .i64 (aF .or .i64 (aF .or .i64 (aF .or .i64 y12 y13) y14) y15) (w64 (a0.Rd * 2 ^ (min 7 (IntKind.bits .i64))))) x1.opcode,true)) <|
some (x1.opcode,true)
def eu (a0 : List Instr) (s1 : (List Int) × Int) : Option (((List Int) × Int) ⊕ (((List Int) × Bool) ⊕ ((List Int)))):=
sel (decide (s1.2 < (a0.length : Int))) ((nth a0 s1.2).bind fun x1 =>
(bL x1).bind fun y4 =>
sel (!y4.2) (some (.inr (.inl ([],false)))) <|
(bR y4.1).bind fun y5 =>
(app 8 s1.1 [y5]).bind fun r1 =>
some (.inl (r1,w64 (s1.2 + 1)))) <|
some (.inr (.inr s1.1))
def jW (a0 : List Instr) : Option ((List Int) × Bool):=
(bE (eu a0) ([],0)).bind fun y1 =>
fd y1 (fun o3=>some o3) (fun o4 =>
some (o4,true))
def eL (a0 : List Instr) : Option (ah × Bool):=
(jW a0).bind fun y1 =>
sel ((!y1.2) || (decide ((w64 ((w64 ((y1.1.length : Int) + 1)) + 12)) > 10000))) (some ((ah.mk [] 0 []),false)) <|
(mk 8 32 0).bind fun r1 =>
(app 8 [0] y1.1).bind fun r2 =>
(nth r1 2).bind fun x1 =>
(upd r1 2 (w64 (4 * (r2.length : Int)))).bind fun r3 =>
(vd 8 r2 12 0).bind fun r4 =>
some ((ah.mk r3 4 r4),true)
def fp (a1 : List (List Instr)) (s1 : Int × (List ah)) : Option ((Int × (List ah)) ⊕ ((aE × Bool) ⊕ ((List ah)))):=
sel (decide (s1.1 < (a1.length : Int))) ((nth a1 s1.1).bind fun x1 =>
(eL x1).bind fun y6 =>
sel (!y6.2) (some (.inr (.inl ((aE.mk [] [] 0 0 []),false)))) <|
(app 56 s1.2 [(ah.mk y6.1.Regs y6.1.Pc y6.1.Mem)]).bind fun r1 =>
some (.inl (w64 (s1.1 + 1),r1))) <|
some (.inr (.inr s1.2))
def f0 (a0 : List Int) (a1 : List (List Instr)) : Option (aE × Bool):=
(fR a0).bind fun y1 =>
sel (((!y1) || (decide ((a1.length : Int) < 1))) || (decide ((a1.length : Int) > 3))) (some ((aE.mk [] [] 0 0 []),false)) <|
(i4 a0).bind fun y2 =>
(bE (fp a1) (0,[])).bind fun y3 =>
fd y3 (fun o3=>some o3) (fun o4 =>
some ((aE.mk o4 y2 0 0 []),true))
def bU (a0 : List Int) (s1 : Int) : Option (Int ⊕ (Bool ⊕ Unit)):=
sel (decide (s1 < (a0.length : Int))) ((nth a0 s1).bind fun x1 =>
(ax x1 1 4).bind fun y4 =>
sel (!y4) (some (.inr (.inl false))) <|
some (.inl (w64 (s1 + 1)))) <|
some (.inr (.inr ()))
def d8 (a0 : List Int) : Option (Bool):=
(bE (bU a0) 0).bind fun y1 =>
fd y1 (fun o3=>some o3) (fun o4 =>
some (decide ((a0.length : Int) ≤ 3)))
def ia (a0 : List Int) (s1 : (List Box) × Int) : Option (((List Box) × Int) ⊕ ((List Box))):=
sel (decide (s1.2 < (a0.length : Int))) ((nth a0 s1.2).bind fun x1 =>
(app 32 s1.1 [(Box.mk x1 [])]).bind fun r1 =>
some (.inl (r1,w64 (s1.2 + 1)))) <|
some (.inr s1.1)
def i5 (a0 : List Int) : Option ((List Box)):=
(bE (ia a0) ([],0)).bind fun y1 =>
some y1
def db (a0 : Instr) (a1 : Int) (a2 : Int) (a3 : Int) : Option (Bool):=
(ax a0.Rd 0 (w64 (a1 * 31))).bind fun y1 =>
(sel y1 ((ax a0.Rs 0 (w64 (a2 * 31))).bind fun y2=>some y2) (some false) : Option (Bool)).bind fun b1 =>
(sel b1 ((ax a0.Rt 0 (w64 (a3 * 31))).bind fun y3=>some y3) (some false) : Option (Bool)).bind fun b2 =>
some b2
def ib (a0 : Int) (a1 : Int) (a2 : Int) : Option (Bool):=
(ax a0 a1 a2).bind fun y1 =>
some (y1 && ((Int.tmod a0 2) == 0))
def dL (a0 : Instr) : Option (Bool):=
(ax a0.Op 1 11).bind fun y1 =>
sel y1 ((db a0 1 1 1).bind fun y2 =>
some (y2 && (a0.Imm == 0))) <|
(ax a0.Op 12 15).bind fun y3 =>
sel y3 ((db a0 1 1 0).bind fun y4 =>
(sel y4 ((ax a0.Imm (-2048) 2047).bind fun y5=>some y5) (some false) : Option (Bool)).bind fun b1 =>
some b1) <|
sel (a0.Op == 16) ((db a0 0 1 1).bind fun y6 =>
(sel y6 ((ax a0.Imm (-2048) 2047).bind fun y7=>some y7) (some false) : Option (Bool)).bind fun b2 =>
some b2) <|
sel ((a0.Op == 17) || (a0.Op == 18)) ((db a0 0 1 1).bind fun y8 =>
(sel y8 ((ib a0.Imm (-4096) 4094).bind fun y9=>some y9) (some false) : Option (Bool)).bind fun b3 =>
some b3) <|
sel (a0.Op == 19) ((db a0 1 0 0).bind fun y10 =>
(sel y10 ((ax a0.Imm 0 1048575).bind fun y11=>some y11) (some false) : Option (Bool)).bind fun b4 =>
some b4) <|
sel (a0.Op == 20) ((db a0 1 0 0).bind fun y12 =>
(sel y12 ((ib a0.Imm (-1048576) 1048574).bind fun y13=>some y13) (some false) : Option (Bool)).bind fun b5 =>
some b5) <|
(sel (a0.Op == 21) ((db a0 0 0 0).bind fun y14=>some y14) (some false) : Option (Bool)).bind fun b6 =>
some (b6 && (a0.Imm == 0))
def fF (a0 : Int) (a1 : Int) : Option (Int):=
sel (decide (a0 < 0)) (some (w64 (a0 + a1))) <|
some a0
def be (a0 : Int) (a1 : Int) : Option (Int):=
(cl a1).bind fun y1 =>
some (w64 (a0 * y1))
def ga (a0 : Int) : Option (Int):=
(nth [0,0,0,4,6,7,6,4,1,5,2,0,3,2,0,2,0,1,0,0,0] (w64 (a0 - 1))).bind fun x1 =>
some x1
def fG (a0 : Instr) (a1 : Int) : Option (Int):=
(be a0.Rs 15).bind fun y1 =>
(ga a0.Op).bind fun y2 =>
(be y2 12).bind fun y3 =>
some (w64 ((w64 (y1 + y3)) + a1))
def gJ (a0 : Instr) (a1 : Int) : Option (Int):=
(fF a0.Imm 4096).bind fun y1 =>
(be y1 20).bind fun y2 =>
(fG a0 a1).bind fun y3 =>
(be a0.Rd 7).bind fun y4 =>
some (w64 ((w64 (y2 + y3)) + y4))
def gK (a0 : Instr) : Option (Int):=
(fF a0.Imm 8192).bind fun y1 =>
(aY y1 12 1).bind fun y2 =>
(be y2 31).bind fun y3 =>
(aY y1 5 6).bind fun y4 =>
(be y4 25).bind fun y5 =>
(be a0.Rt 20).bind fun y6 =>
(fG a0 99).bind fun y7 =>
(aY y1 1 4).bind fun y8 =>
(be y8 8).bind fun y9 =>
(aY y1 11 1).bind fun y10 =>
(be y10 7).bind fun y11 =>
some (w64 ((w64 ((w64 ((w64 ((w64 (y3 + y5)) + y6)) + y7)) + y9)) + y11))
def jX (a0 : Instr) : Option (Int):=
(fF a0.Imm 2097152).bind fun y1 =>
(aY y1 20 1).bind fun y2 =>
(be y2 31).bind fun y3 =>
(aY y1 1 10).bind fun y4 =>
(be y4 21).bind fun y5 =>
(aY y1 11 1).bind fun y6 =>
(be y6 20).bind fun y7 =>
(aY y1 12 8).bind fun y8 =>
(be y8 12).bind fun y9 =>
(be a0.Rd 7).bind fun y10 =>
some (w64 ((w64 ((w64 ((w64 ((w64 (y3 + y5)) + y7)) + y9)) + y10)) + 111))
def gb (a0 : Int) : Option (Int):=
(nth [0,32,1,1,1,0,0,0,0,32,0] (w64 (a0 - 1))).bind fun x1 =>
some x1
def bG (a0 : Instr) : Option (Int):=
(sel (a0.Op == 12) (some (a0.Op == 12)) <|
some (a0.Op == 13) : Option (Bool)).bind fun y1 =>
sel y1 ((gJ a0 19).bind fun y2 =>
some y2) <|
sel (a0.Op == 14) ((gJ a0 3).bind fun y3 =>
some y3) <|
sel (a0.Op == 15) ((gJ a0 103).bind fun y4 =>
some y4) <|
sel (a0.Op == 16) ((fF a0.Imm 4096).bind fun y5 =>
(aY y5 5 7).bind fun y6 =>
(be y6 25).bind fun y7 =>
(be a0.Rt 20).bind fun y8 =>
(fG a0 35).bind fun y9 =>
(aY y5 0 5).bind fun y10 =>
(be y10 7).bind fun y11 =>
some (w64 ((w64 ((w64 (y7 + y8)) + y9)) + y11))) <|
(sel (a0.Op == 17) (some (a0.Op == 17)) <|
some (a0.Op == 18) : Option (Bool)).bind fun y12 =>
sel y12 ((gK a0).bind fun y13 =>
some y13) <|
sel (a0.Op == 19) ((be a0.Imm 12).bind fun y14 =>
(be a0.Rd 7).bind fun y15 =>
some (w64 ((w64 (y14 + y15)) + 55))) <|
sel (a0.Op == 20) ((jX a0).bind fun y16 =>
some y16) <|
sel (a0.Op == 21) (some 115) <|
(gb a0.Op).bind fun y17 =>
(be y17 25).bind fun y18 =>
(be a0.Rt 20).bind fun y19 =>
(fG a0 51).bind fun y20 =>
(be a0.Rd 7).bind fun y21 =>
some (w64 ((w64 ((w64 (y18 + y19)) + y20)) + y21))
def cD (a0 : Instr) : Option (Int × Bool):=
(dL a0).bind fun y1 =>
sel (!y1) (some (0,false)) <|
(bG a0).bind fun y2 =>
some (y2,true)
def ew (a1 : List Instr) (s1 : (List Int) × Int) : Option (((List Int) × Int) ⊕ (((List Int) × Bool) ⊕ ((List Int)))):=
sel (decide (s1.2 < (a1.length : Int))) ((nth a1 s1.2).bind fun x1 =>
(cD x1).bind fun y4 =>
sel (!y4.2) (some (.inr (.inl (s1.1,false)))) <|
(bK y4.1).bind fun y5 =>
(app 8 s1.1 [y5]).bind fun r1 =>
some (.inl (r1,w64 (s1.2 + 1)))) <|
some (.inr (.inr s1.1))
def jY (a0 : List Int) (a1 : List Instr) : Option ((List Int) × Bool):=
(bE (ew a1) (a0,0)).bind fun y1 =>
fd y1 (fun o3=>some o3) (fun o4 =>
some (o4,true))
def dW (a0 : List Instr) : Option (ah × Bool):=
sel (decide ((a0.length : Int) > 9987)) (some ((ah.mk [] 0 []),false)) <|
(jY [0] a0).bind fun y1 =>
sel (!y1.2) (some ((ah.mk [] 0 []),false)) <|
(mk 8 32 0).bind fun r1 =>
(nth r1 2).bind fun x1 =>
(upd r1 2 (w64 (4 * (y1.1.length : Int)))).bind fun r2 =>
(vd 8 y1.1 12 0).bind fun r3 =>
some ((ah.mk r2 4 r3),true)
def fq (a1 : List (List Instr)) (s1 : Int × (List ah)) : Option ((Int × (List ah)) ⊕ ((aE × Bool) ⊕ ((List ah)))):=
sel (decide (s1.1 < (a1.length : Int))) ((nth a1 s1.1).bind fun x1 =>
(dW x1).bind fun y7 =>
sel (!y7.2) (some (.inr (.inl ((aE.mk [] [] 0 0 []),false)))) <|
(app 56 s1.2 [(ah.mk y7.1.Regs y7.1.Pc y7.1.Mem)]).bind fun r1 =>
some (.inl (w64 (s1.1 + 1),r1))) <|
some (.inr (.inr s1.2))
def i6 (a0 : List Int) (a1 : List (List Instr)) : Option (aE × Bool):=
(d8 a0).bind fun y1 =>
(sel (!y1) (some true) ((ax (a1.length : Int) 1 3).bind fun y2=>some (!y2)) : Option (Bool)).bind fun b1 =>
sel b1 (some ((aE.mk [] [] 0 0 []),false)) <|
(i5 a0).bind fun y3 =>
(bE (fq a1) (0,[])).bind fun y4 =>
fd y4 (fun o3=>some o3) (fun o4 =>
some ((aE.mk o4 y3 0 0 []),true))
def fr (a0 : List Int) (a1 : List Int) (s1 : Int) : Option (Int ⊕ (Bool ⊕ Unit)):=
sel (decide (s1 < (a0.length : Int))) ((nth a0 s1).bind fun x1 =>
(nth a1 s1).bind fun x2 =>
sel (x1 != x2) (some (.inr (.inl false))) <|
some (.inl (w64 (s1 + 1)))) <|
some (.inr (.inr ()))
def dz (a0 : List Int) (a1 : List Int) : Option (Bool):=
sel ((a0.length : Int) != (a1.length : Int)) (some false) <|
(bE (fr a0 a1) 0).bind fun y1 =>
fd y1 (fun o3=>some o3) (fun o4 =>
some true)
def ft (a0 : ah) (a1 : ah) : Option (Bool):=
(sel (a0.Pc == a1.Pc) ((dz a0.Regs a1.Regs).bind fun y1=>some y1) (some false) : Option (Bool)).bind fun b1 =>
(sel b1 ((dz a0.Mem a1.Mem).bind fun y2=>some y2) (some false) : Option (Bool)).bind fun b2 =>
some b2
def jZ (a0 : Box) (a1 : Box) : Option (Bool):=
(sel (a0.Room == a1.Room) ((dz a0.Items a1.Items).bind fun y1=>some y1) (some false) : Option (Bool)).bind fun b1 =>
some b1
def eM (a0 : List Box) (a1 : List Box) (s1 : Int) : Option (Int ⊕ (Bool ⊕ Unit)):=
sel (decide (s1 < (a0.length : Int))) ((nth a0 s1).bind fun x1 =>
(nth a1 s1).bind fun x2 =>
(jZ (Box.mk x1.Room x1.Items) (Box.mk x2.Room x2.Items)).bind fun y4 =>
sel (!y4) (some (.inr (.inl false))) <|
some (.inl (w64 (s1 + 1)))) <|
some (.inr (.inr ()))
def gL (a0 : List Box) (a1 : List Box) : Option (Bool):=
sel ((a0.length : Int) != (a1.length : Int)) (some false) <|
(bE (eM a0 a1) 0).bind fun y1 =>
fd y1 (fun o3=>some o3) (fun o4 =>
some true)
def eN (a0 : aE) (a1 : aE) (s1 : Int) : Option (Int ⊕ (Bool ⊕ Unit)):=
sel (decide (s1 < (a0.Harts.length : Int))) ((nth a0.Harts s1).bind fun x1 =>
(nth a1.Harts s1).bind fun x2 =>
(ft (ah.mk x1.Regs x1.Pc x1.Mem) (ah.mk x2.Regs x2.Pc x2.Mem)).bind fun y4 =>
sel (!y4) (some (.inr (.inl false))) <|
some (.inl (w64 (s1 + 1)))) <|
some (.inr (.inr ()))
def dE (a0 : aE) (a1 : aE) : Option (Bool):=
sel ((((a0.Harts.length : Int) != (a1.Harts.length : Int)) || (a0.Turn != a1.Turn)) || (a0.Idle != a1.Idle)) (some false) <|
(bE (eN a0 a1) 0).bind fun y1 =>
fd y1 (fun o3=>some o3) (fun o4 =>
(gL a0.Boxes a1.Boxes).bind fun y5 =>
(sel y5 ((dz a0.Out a1.Out).bind fun y6=>some y6) (some false) : Option (Bool)).bind fun b1 =>
some b1)
def fu (a0 : List Int) (s1 : Int) : Option (Int ⊕ (Bool ⊕ Unit)):=
sel (decide (s1 < (a0.length : Int))) ((nth a0 s1).bind fun x1 =>
(cR x1).bind fun y4 =>
sel (!y4) (some (.inr (.inl false))) <|
some (.inl (w64 (s1 + 1)))) <|
some (.inr (.inr ()))
def cT (a0 : List Int) : Option (Bool):=
(bE (fu a0) 0).bind fun y1 =>
fd y1 (fun o3=>some o3) (fun o4 =>
some true)
def jc (a0 : Int) (a1 : Int) (a2 : Int) (a3 : List Int) : Option (Bool):=
(sel ((((((decide (a0 ≥ 1)) && (decide (a0 ≤ 3))) && (decide (a1 ≥ 0))) && (decide (a1 < a0))) && (decide (a2 ≥ 0))) && (decide (a2 ≤ a0))) ((cT a3).bind fun y1=>some y1) (some false) : Option (Bool)).bind fun b1 =>
some b1
def i7 (a0 : Box) : Option (Bool):=
(sel (((decide (a0.Room ≥ 1)) && (decide (a0.Room ≤ 4))) && (decide ((a0.Items.length : Int) ≤ a0.Room))) ((cT a0.Items).bind fun y1=>some y1) (some false) : Option (Bool)).bind fun b1 =>
some b1
def eh (a0 : List Box) (s1 : Int) : Option (Int ⊕ (Bool ⊕ Unit)):=
sel (decide (s1 < (a0.length : Int))) ((nth a0 s1).bind fun x1 =>
(i7 (Box.mk x1.Room x1.Items)).bind fun y4 =>
sel (!y4) (some (.inr (.inl false))) <|
some (.inl (w64 (s1 + 1)))) <|
some (.inr (.inr ()))
def fS (a0 : List Box) : Option (Bool):=
(bE (eh a0) 0).bind fun y1 =>
fd y1 (fun o3=>some o3) (fun o4 =>
some (decide ((a0.length : Int) ≤ 3)))
def dc (a0 : ah) : Option (Bool):=
(sel ((a0.Regs.length : Int) == 32) ((cT a0.Regs).bind fun y1=>some y1) (some false) : Option (Bool)).bind fun b1 =>
(sel b1 ((nth a0.Regs 0).bind fun x1=>some (x1 == 0)) (some false) : Option (Bool)).bind fun b2 =>
(sel b2 ((cR a0.Pc).bind fun y2=>some y2) (some false) : Option (Bool)).bind fun b3 =>
(sel (b3 && (decide ((a0.Mem.length : Int) ≤ 10000))) ((cT a0.Mem).bind fun y3=>some y3) (some false) : Option (Bool)).bind fun b4 =>
some b4
def gg (a0 : ah) : Option (Bool):=
(dc (ah.mk a0.Regs a0.Pc a0.Mem)).bind fun y1 =>
some (!y1)
def aM (a0 : List ah) (s1 : Int) : Option (Int ⊕ (Int ⊕ Unit)):=
sel (decide (s1 < (a0.length : Int))) ((nth a0 s1).bind fun x1 =>
(gg (ah.mk x1.Regs x1.Pc x1.Mem)).bind fun y4 =>
sel y4 (some (.inr (.inl s1))) <|
some (.inl (w64 (s1 + 1)))) <|
some (.inr (.inr ()))
def bj (a0 : List ah) : Option (Int):=
(bE (aM a0) 0).bind fun y1 =>
fd y1 (fun o3=>some o3) (fun o4 =>
some (-1))
def aU (a0 : List ah) : Option (Bool):=
(bj a0).bind fun y1 =>
some (decide (y1 ≥ 0))
def fT (a0 : aE) : Option (Bool):=
(jc (a0.Harts.length : Int) a0.Turn a0.Idle a0.Out).bind fun y1 =>
(sel y1 ((fS a0.Boxes).bind fun y2=>some y2) (some false) : Option (Bool)).bind fun b1 =>
(sel b1 ((aU a0.Harts).bind fun y3=>some (!y3)) (some false) : Option (Bool)).bind fun b2 =>
some b2
def bA (a0 : List Int) : Option ((List Int)):=
(app 8 [] a0).bind fun r1 =>
some r1
def eO (a0 : List Box) (s1 : (List Box) × Int) : Option (((List Box) × Int) ⊕ ((List Box))):=
sel (decide (s1.2 < (a0.length : Int))) ((nth a0 s1.2).bind fun x1 =>
(bA x1.Items).bind fun y4 =>
(app 32 s1.1 [(Box.mk x1.Room y4)]).bind fun r1 =>
some (.inl (r1,w64 (s1.2 + 1)))) <|
some (.inr s1.1)
def gM (a0 : List Box) : Option ((List Box)):=
(bE (eO a0) ([],0)).bind fun y1 =>
some y1
def fv (a0 : ah) : Option (ah):=
(bA a0.Regs).bind fun y1 =>
(bA a0.Mem).bind fun y2 =>
some (ah.mk y1 a0.Pc y2)
def dA (a0 : Int) (a1 : Int) (a2 : Int) (a3 : Int) : Option (Int × Int × Bool):=
sel ((((((decide (a0 < 1)) || (decide (a0 > 3))) || (decide (a1 < 0))) || (decide (a1 ≥ a0))) || (decide (a2 < 0))) || (decide (a2 ≥ a0))) (some (0,0,false)) <|
sel (a3 == 1) (some (a1,0,true)) <|
sel (a3 == 2) ((mh (w64 (a1 + 1)) a0).bind fun d1 =>
some (d1,0,true)) <|
(sel (a3 == 3) (some (a3 == 3)) <|
some (a3 == 4) : Option (Bool)).bind fun y1 =>
sel y1 ((mh (w64 (a1 + 1)) a0).bind fun d2 =>
some (d2,w64 (a2 + 1),true)) <|
some (0,0,false)
def fI (a0 : Box) (a1 : Int) : Option (Bool × (List Int)):=
sel ((a0.Items.length : Int) == a0.Room) (some (false,a0.Items)) <|
(app 8 a0.Items [a1]).bind fun r1 =>
some (true,r1)
def eV (a0 : Box) : Option (Int × Bool × (List Int)):=
sel ((a0.Items.length : Int) == 0) (some (0,false,a0.Items)) <|
(nth a0.Items 0).bind fun x1 =>
(cut a0.Items 1 (a0.Items.length : Int)).bind fun r1 =>
(app 8 [] r1).bind fun r2 =>
some (x1,true,r2)
def bp (a0 : ah) (a1 : List Box) (a2 : List Int) : Option (Int × (List Int) × Int × (List Int) × (List Box)):=
(nth a0.Regs 17).bind fun x1 =>
(nth a0.Regs 11).bind fun x2 =>
sel ((a0.Pc != 0) || (((x1 == 1) || (x1 == 2)) && ((decide (x2 < 0)) || (decide (x2 ≥ (a1.length : Int)))))) (some (0,a0.Regs,a0.Pc,a2,a1)) <|
(sel (x1 == 1) ((nth a1 x2).bind fun x3 =>
(nth a0.Regs 10).bind fun x4 =>
(fI (Box.mk x3.Room x3.Items) x4).bind fun y2 =>
sel (!y2.1) (some (.inr (3,a0.Regs,a0.Pc,a2,(a1.set (Int.toNat x2) (Box.mk x3.Room y2.2))))) <|
some (.inl (1,a2,a0.Regs,(a1.set (Int.toNat x2) (Box.mk x3.Room y2.2))))) <|
sel (x1 == 2) ((nth a1 x2).bind fun x5 =>
(eV (Box.mk x5.Room x5.Items)).bind fun y3 =>
sel (!y3.2.1) (some (.inr (3,a0.Regs,a0.Pc,a2,(a1.set (Int.toNat x2) (Box.mk x5.Room y3.2.2))))) <|
(nth a0.Regs 10).bind fun x6 =>
(upd a0.Regs 10 y3.1).bind fun r1 =>
some (.inl (1,a2,r1,(a1.set (Int.toNat x2) (Box.mk x5.Room y3.2.2))))) <|
sel (x1 == 3) (some (.inl (2,a2,a0.Regs,a1))) <|
sel (x1 == 4) ((nth a0.Regs 10).bind fun x7 =>
(app 8 a2 [x7]).bind fun r2 =>
some (.inl (1,r2,a0.Regs,a1))) <|
sel (x1 == 5) (some (.inr (4,a0.Regs,a0.Pc,a2,a1))) <|
some (.inr (0,a0.Regs,a0.Pc,a2,a1)) : Option ((Int × (List Int) × (List Int) × (List Box)) ⊕ (Int × (List Int) × Int × (List Int) × (List Box)))).bind fun y1 =>
fd y1 (fun o3=>(nth o3.2.2.1 1).bind fun x8 =>
some (o3.1,o3.2.2.1,x8,o3.2.1,o3.2.2.2)) (fun o4 =>
some o4)
def cL (a0 : ah) (a1 : Int) : Option (Int):=
sel (((decide (a1 < 0)) || ((Int.tmod a1 4) != 0)) || (decide ((w64 (Int.tdiv a1 4)) ≥ (a0.Mem.length : Int)))) (some (-1)) <|
(nth a0.Mem (w64 (Int.tdiv a1 4))).bind fun x1 =>
some (w64 (Int.tdiv a1 4))
def bD (a0 : kY) (a1 : Int) (a2 : Int) : Option (Bool):=
sel (a0.opcode != (aF .and .i64 a2 127)) (some false) <|
(bC a1).bind fun y1 =>
sel (y1 == 82) ((bz a2 12 3).bind fun y2 =>
(sel (a0.funct3 == y2) ((bz a2 25 7).bind fun b_1=>some (a0.funct7 == b_1)) (some false)).bind fun b1 =>
some b1) <|
(sel (y1 == 73) (some (y1 == 73)) <|
sel (y1 == 83) (some (y1 == 83)) <|
some (y1 == 66) : Option (Bool)).bind fun y4 =>
sel y4 ((bz a2 12 3).bind fun y5 =>
some (a0.funct3 == y5)) <|
some true
def cz (a0 : Int) (a1 : Int) : Option (Int):=
(sel (((decide (a1 < 1)) || (decide (a1 > 32))) || (decide (a0 < 0))) (some true) ((shO .shl .i64 1 a1).bind fun d1=>some (decide (a0 ≥ d1))) : Option (Bool)).bind fun b1 =>
sel b1 (some 0) <|
(shO .shl .i64 1 (w64 (a1 - 1))).bind fun d2 =>
sel (decide (a0 ≥ d2)) ((shO .shl .i64 1 a1).bind fun d3 =>
some (w64 (a0 - d3))) <|
some a0
def cA (a0 : Int) (a1 : Int) : Option (Instr):=
(bz a1 7 5).bind fun y1 =>
(bz a1 15 5).bind fun y2 =>
(bz a1 20 5).bind fun y3 =>
(bC a0).bind fun y4 =>
sel (y4 == 82) (some (Instr.mk a0 y1 y2 y3 0)) <|
sel (y4 == 73) ((bz a1 20 12).bind fun y5 =>
(cz y5 12).bind fun y6 =>
some (Instr.mk a0 y1 y2 0 y6)) <|
sel (y4 == 83) ((bz a1 25 7).bind fun y7 =>
(cz (aF .or .i64 (w64 (y7 * 2 ^ (min 5 (IntKind.bits .i64)))) y1) 12).bind fun y8 =>
some (Instr.mk a0 0 y2 y3 y8)) <|
sel (y4 == 66) ((bz a1 31 1).bind fun y9 =>
(bz a1 7 1).bind fun y10 =>
(bz a1 25 6).bind fun y11 =>
(bz a1 8 4).bind fun y12 =>
(cz (aF .or .i64 (aF .or .i64 (aF .or .i64 (w64 (y9 * 2 ^ (min 12 (IntKind.bits .i64)))) (w64 (y10 * 2 ^ (min 11 (IntKind.bits .i64))))) (w64 (y11 * 2 ^ (min 5 (IntKind.bits .i64))))) (w64 (y12 * 2 ^ (min 1 (IntKind.bits .i64))))) 13).bind fun y13 =>
some (Instr.mk a0 0 y2 y3 y13)) <|
sel (y4 == 85) ((bz a1 12 20).bind fun y14 =>
some (Instr.mk a0 y1 0 0 y14)) <|
sel (y4 == 74) ((bz a1 31 1).bind fun y15 =>
(bz a1 12 8).bind fun y16 =>
(bz a1 20 1).bind fun y17 =>
(bz a1 21 10).bind fun y18 =>
(cz (aF .or .i64 (aF .or .i64 (aF .or .i64 (w64 (y15 * 2 ^ (min 20 (IntKind.bits .i64)))) (w64 (y16 * 2 ^ (min 12 (IntKind.bits .i64))))) (w64 (y17 * 2 ^ (min 11 (IntKind.bits .i64))))) (w64 (y18 * 2 ^ (min 1 (IntKind.bits .i64))))) 21).bind fun y19 =>
some (Instr.mk a0 y1 0 0 y19)) <|
some (Instr.mk a0 0 0 0 0)
def dg (a0 : Int) (s1 : Int) : Option (Int ⊕ ((Instr × Bool) ⊕ Unit)):=
sel (decide (s1 ≤ 21)) (((nth kj (w64 (s1 - 1))).bind fun x1 =>
(bD x1 s1 a0).bind fun y6 =>
sel (!y6) (some (.inl ())) <|
(cA s1 a0).bind fun y7 =>
(bL y7).bind fun y8 =>
sel (y8.2 && (y8.1 == a0)) (some (.inr (y7,true))) <|
some (.inl ()) : Option (Unit ⊕ (Instr × Bool))).bind fun y5 =>
fd y5 (fun o5=>some (.inl (w64 (s1 + 1)))) (fun o6 =>
some (.inr (.inl o6)))) <|
some (.inr (.inr ()))
def cE (a0 : Int) : Option (Instr × Bool):=
(dK a0).bind fun y1 =>
sel (!y1) (some ((Instr.mk 0 0 0 0 0),false)) <|
(bE (dg a0) 1).bind fun y2 =>
fd y2 (fun o7=>some o7) (fun o8 =>
some ((Instr.mk 0 0 0 0 0),false))
def aV (a0 : ah) (a1 : Int) (a2 : Int) : Option ((List Int)):=
sel (a1 != 0) ((nth a0.Regs a1).bind fun x1 =>
(upd a0.Regs a1 a2).bind fun r1 =>
some r1) <|
some a0.Regs
def jo (a0 : Bool) : Option (Int):=
sel a0 (some 1) <|
some 0
def lX (a0 : Int) (a1 : Int) (a2 : Int) : Option (Int):=
sel (a0 == 1) (some (aF .or .i64 a1 a2)) <|
sel (a0 == 2) (some (aF .xor .i64 a1 a2)) <|
sel (a0 == 3) (some (aF .and .i64 a1 a2)) <|
sel (a0 == 4) ((jo (a1 == a2)).bind fun y1 =>
some y1) <|
sel (a0 == 5) ((jo (decide (a1 < a2))).bind fun y2 =>
some y2) <|
sel (a0 == 6) ((shO .shl .i64 a1 (aF .and .i64 a2 31)).bind fun d1 =>
(bR d1).bind fun y3 =>
some y3) <|
sel (a0 == 7) ((shO .shr .i64 a1 (aF .and .i64 a2 31)).bind fun d2 =>
some d2) <|
sel (a0 == 8) ((bR (w64 (a1 + a2))).bind fun y4 =>
some y4) <|
sel (a0 == 9) ((bR (w64 (a1 - a2))).bind fun y5 =>
some y5) <|
sel (a0 == 10) ((bR (w64 (a1 * a2))).bind fun y6 =>
some y6) <|
sel (a0 == 11) (sel (a2 == 0) (some (-1)) <|
(px .i64 a1 a2).bind fun d3 =>
(bR d3).bind fun y7 =>
some y7) <|
sel (a2 == 0) (some a1) <|
(mh a1 a2).bind fun d4 =>
some d4
def cM (a0 : ah) : Option (Int × (List Int) × Int × (List Int)):=
(cL (ah.mk a0.Regs a0.Pc a0.Mem) a0.Pc).bind fun y1 =>
sel (decide (y1 < 0)) (some (3,a0.Regs,a0.Pc,a0.Mem)) <|
(nth a0.Mem y1).bind fun x1 =>
(bW x1).bind fun y2 =>
(cE y2).bind fun y3 =>
sel (!y3.2) (some (3,a0.Regs,a0.Pc,a0.Mem)) <|
(nth a0.Regs y3.1.Rs).bind fun x2 =>
(nth a0.Regs y3.1.Rt).bind fun x3 =>
(bR (w64 (a0.Pc + 4))).bind fun y4 =>
(sel (y3.1.Op == 21) (some (.inr (2,a0.Regs,a0.Pc,a0.Mem))) <|
sel (y3.1.Op == 12) ((bR (w64 (x2 + y3.1.Imm))).bind fun y6 =>
(aV (ah.mk a0.Regs a0.Pc a0.Mem) y3.1.Rd y6).bind fun y7 =>
some (.inl (y4,y7,a0.Mem))) <|
sel (y3.1.Op == 13) ((bW x2).bind fun y8 =>
(bW y3.1.Imm).bind fun y9 =>
(jo (decide (y8 < y9))).bind fun y10 =>
(aV (ah.mk a0.Regs a0.Pc a0.Mem) y3.1.Rd y10).bind fun y11 =>
some (.inl (y4,y11,a0.Mem))) <|
(sel (y3.1.Op == 14) (some (y3.1.Op == 14)) <|
some (y3.1.Op == 16) : Option (Bool)).bind fun y12 =>
sel y12 ((bR (w64 (x2 + y3.1.Imm))).bind fun y13 =>
(cL (ah.mk a0.Regs a0.Pc a0.Mem) y13).bind fun y14 =>
sel (decide (y14 < 0)) (some (.inr (3,a0.Regs,a0.Pc,a0.Mem))) <|
sel (y3.1.Op == 16) ((nth a0.Mem y14).bind fun x4 =>
(upd a0.Mem y14 x3).bind fun r1 =>
some (.inl (y4,a0.Regs,r1))) <|
(nth a0.Mem y14).bind fun x5 =>
(aV (ah.mk a0.Regs a0.Pc a0.Mem) y3.1.Rd x5).bind fun y15 =>
some (.inl (y4,y15,a0.Mem))) <|
sel (y3.1.Op == 15) ((aV (ah.mk a0.Regs a0.Pc a0.Mem) y3.1.Rd y4).bind fun y16 =>
(bR (w64 (x2 + y3.1.Imm))).bind fun y17 =>
some (.inl (aF .andNot .i64 y17 1,y16,a0.Mem))) <|
(sel (y3.1.Op == 17) (some (y3.1.Op == 17)) <|
some (y3.1.Op == 18) : Option (Bool)).bind fun y18 =>
sel y18 (sel ((x2 == x3) == (y3.1.Op == 17)) ((bR (w64 (a0.Pc + y3.1.Imm))).bind fun y19 =>
some (.inl (y19,a0.Regs,a0.Mem))) <|
some (.inl (y4,a0.Regs,a0.Mem))) <|
sel (y3.1.Op == 19) ((bR (w64 (y3.1.Imm * 4096))).bind fun y20 =>
(aV (ah.mk a0.Regs a0.Pc a0.Mem) y3.1.Rd y20).bind fun y21 =>
some (.inl (y4,y21,a0.Mem))) <|
sel (y3.1.Op == 20) ((aV (ah.mk a0.Regs a0.Pc a0.Mem) y3.1.Rd y4).bind fun y22 =>
(bR (w64 (a0.Pc + y3.1.Imm))).bind fun y23 =>
some (.inl (y23,y22,a0.Mem))) <|
(nth lP (w64 (y3.1.Op - 1))).bind fun x6 =>
(lX x6 x2 x3).bind fun y24 =>
(aV (ah.mk a0.Regs a0.Pc a0.Mem) y3.1.Rd y24).bind fun y25 =>
some (.inl (y4,y25,a0.Mem)) : Option ((Int × (List Int) × (List Int)) ⊕ (Int × (List Int) × Int × (List Int)))).bind fun y5 =>
fd y5 (fun o3=>some (1,o3.2.1,o3.1,o3.2.2)) (fun o4 =>
some o4)
def cY (a0 : Int) (a1 : aE) : Option (Int × (List ah) × (List Box) × (List Int)):=
(nth a1.Harts a0).bind fun x1 =>
sel (x1.Pc == 0) ((bp (ah.mk x1.Regs x1.Pc x1.Mem) a1.Boxes a1.Out).bind fun y1 =>
some (y1.1,(a1.Harts.set (Int.toNat a0) (ah.mk y1.2.1 y1.2.2.1 x1.Mem)),y1.2.2.2.2,y1.2.2.2.1)) <|
(cM (ah.mk x1.Regs x1.Pc x1.Mem)).bind fun y2 =>
sel (y2.1 == 1) (some (1,(a1.Harts.set (Int.toNat a0) (ah.mk y2.2.1 y2.2.2.1 y2.2.2.2)),a1.Boxes,a1.Out)) <|
some (0,(a1.Harts.set (Int.toNat a0) (ah.mk y2.2.1 y2.2.2.1 y2.2.2.2)),a1.Boxes,a1.Out)
def a6 (a1 : Int) (a4 : aE) (s1 : Int × Int × Int × (List ah) × (List Box) × (List Int)) : Option ((Int × Int × Int × (List ah) × (List Box) × (List Int)) ⊕ ((Int × Int × Bool × (List ah) × (List Box) × (List Int)) ⊕ (Int × Int × (List ah) × (List Box) × (List Int)))):=
sel ((decide (s1.1 > 0)) && (decide (s1.2.2.1 < a1))) ((cY s1.2.1 (aE.mk s1.2.2.2.1 s1.2.2.2.2.1 a4.Turn a4.Idle s1.2.2.2.2.2)).bind fun y4 =>
(dA a1 s1.2.1 s1.2.2.1 y4.1).bind fun y5 =>
sel (!y5.2.2) (some (.inr (.inl (0,0,false,y4.2.1,y4.2.2.1,y4.2.2.2)))) <|
some (.inl (w64 (s1.1 - 1),y5.1,y5.2.1,y4.2.1,y4.2.2.1,y4.2.2.2))) <|
some (.inr (.inr (s1.2.1,s1.2.2.1,s1.2.2.2.1,s1.2.2.2.2.1,s1.2.2.2.2.2)))
def gh (a0 : Int) (a1 : Int) (a2 : Int) (a3 : Int) (a4 : aE) : Option (Int × Int × Bool × (List ah) × (List Box) × (List Int)):=
(bE (a6 a1 a4) (a0,a2,a3,a4.Harts,a4.Boxes,a4.Out)).bind fun y1 =>
fd y1 (fun o3=>some o3) (fun o4 =>
some (o4.1,o4.2.1,true,o4.2.2.1,o4.2.2.2.1,o4.2.2.2.2))
def ea (a0 : aE) (s1 : Int × (List ah)) : Option ((Int × (List ah)) ⊕ ((List ah))):=
sel (decide (s1.1 < (a0.Harts.length : Int))) ((nth a0.Harts s1.1).bind fun x1 =>
(fv (ah.mk x1.Regs x1.Pc x1.Mem)).bind fun y7 =>
(app 56 s1.2 [(ah.mk y7.Regs y7.Pc y7.Mem)]).bind fun r1 =>
some (.inl (w64 (s1.1 + 1),r1))) <|
some (.inr s1.2)
def gc (a0 : aE) (a1 : Int) : Option (aE × Bool):=
(fT (aE.mk a0.Harts a0.Boxes a0.Turn a0.Idle a0.Out)).bind fun y1 =>
sel (((!y1) || (decide (a1 < 0))) || (decide (a1 > 1000000))) (some ((aE.mk [] [] 0 0 []),false)) <|
(gM a0.Boxes).bind fun y2 =>
(bA a0.Out).bind fun y3 =>
(bE (ea a0) (0,[])).bind fun y4 =>
(gh a1 (y4.length : Int) a0.Turn a0.Idle (aE.mk y4 y2 0 0 y3)).bind fun y8 =>
sel (!y8.2.2.1) (some ((aE.mk [] [] 0 0 []),false)) <|
some ((aE.mk y8.2.2.2.1 y8.2.2.2.2.1 y8.1 y8.2.1 y8.2.2.2.2.2),true)
def j0 (a0 : List Int) (a1 : List (List Instr)) (a2 : Int) : Option (aE):=
(f0 a0 a1).bind fun y1 =>
(gc (aE.mk y1.1.Harts y1.1.Boxes y1.1.Turn y1.1.Idle y1.1.Out) a2).bind fun y2 =>
sel ((!y1.2) || (!y2.2)) (some (aE.mk [] [] 0 0 [])) <|
some (aE.mk y2.1.Harts y2.1.Boxes y2.1.Turn y2.1.Idle y2.1.Out)
def dR (y1 : (List Int) × (List (List Instr))) (y2 : aE × Bool) (y6 : aE) (s1 : Int) : Option (Int ⊕ (Bool ⊕ Unit)):=
sel (decide (s1 < (y1.2.length : Int))) ((nth y1.2 s1).bind fun x1 =>
(nth y6.Harts s1).bind fun x2 =>
(nth y2.1.Harts s1).bind fun x3 =>
(sel ((y6.Harts.length : Int) != (y1.2.length : Int)) (some true) ((cut x2.Mem 0 (w64 (1 + (x1.length : Int)))).bind fun b_1=>(cut x3.Mem 0 (w64 (1 + (x1.length : Int)))).bind fun b_2=>(dz b_1 b_2).bind fun b_3=>some (!b_3))).bind fun b5 =>
(sel b5 (some true) ((nth x2.Regs 2).bind fun b_1=>some (b_1 != (w64 (4 * (w64 (1 + (x1.length : Int)))))))).bind fun b6 =>
sel b6 (some (.inr (.inl false))) <|
some (.inl (w64 (s1 + 1)))) <|
some (.inr (.inr ()))
def ic (k : Nat) (a0 : List Int) (a1 : List Int) : Option (Bool):=
sel ((decide ((a0.length : Int) > 1048576)) || (decide ((a1.length : Int) > 1048576))) (some true) <|
(eK k a0).bind fun y1 =>
(f0 y1.1 y1.2).bind fun y2 =>
(i6 y1.1 y1.2).bind fun y3 =>
(sel (y2.2 != y3.2) (some true) ((dE (aE.mk y2.1.Harts y2.1.Boxes y2.1.Turn y2.1.Idle y2.1.Out) (aE.mk y3.1.Harts y3.1.Boxes y3.1.Turn y3.1.Idle y3.1.Out)).bind fun y4=>some (!y4)) : Option (Bool)).bind fun b1 =>
sel (b1 || (!y2.2)) ((sel (y2.2 == y3.2) ((dE (aE.mk y2.1.Harts y2.1.Boxes y2.1.Turn y2.1.Idle y2.1.Out) (aE.mk y3.1.Harts y3.1.Boxes y3.1.Turn y3.1.Idle y3.1.Out)).bind fun y5=>some y5) (some false) : Option (Bool)).bind fun b2 =>
some b2) <|
(j0 y1.1 y1.2 (Int.tmod (a1.length : Int) 401)).bind fun y6 =>
(bE (dR y1 y2 y6) 0).bind fun y7 =>
fd y7 (fun o3=>some o3) (fun o4 =>
some true)
def jd (a0 : List Int) (s1 : Int) : Option (Int ⊕ (Bool ⊕ Unit)):=
sel (decide (s1 < (a0.length : Int))) ((nth a0 s1).bind fun x1 =>
(bV x1).bind fun y4 =>
sel (!y4) (some (.inr (.inl false))) <|
some (.inl (w64 (s1 + 1)))) <|
some (.inr (.inr ()))
def dX (a0 : List Int) (a1 : Int) : Option (Bool):=
sel ((a0.length : Int) != a1) (some false) <|
(bE (jd a0) 0).bind fun y1 =>
fd y1 (fun o3=>some o3) (fun o4 =>
some true)
def i9 (a0 : Box) : Option (Bool):=
(ax a0.Room 1 4).bind fun y1 =>
(sel (y1 && (decide ((a0.Items.length : Int) ≤ a0.Room))) ((dX a0.Items (a0.Items.length : Int)).bind fun y2=>some y2) (some false) : Option (Bool)).bind fun b1 =>
some b1
def ie (a0 : List Box) (s1 : Int) : Option (Int ⊕ (Bool ⊕ Unit)):=
sel (decide (s1 < (a0.length : Int))) ((nth a0 s1).bind fun x1 =>
(i9 (Box.mk x1.Room x1.Items)).bind fun y4 =>
sel (!y4) (some (.inr (.inl false))) <|
some (.inl (w64 (s1 + 1)))) <|
some (.inr (.inr ()))
def mA (a0 : List Box) : Option (Bool):=
(bE (ie a0) 0).bind fun y1 =>
fd y1 (fun o3=>some o3) (fun o4 =>
some (decide ((a0.length : Int) ≤ 3)))
def j1 (a0 : ah) : Option (Bool):=
(dX a0.Regs 32).bind fun y1 =>
(sel y1 ((nth a0.Regs 0).bind fun x1=>some (x1 == 0)) (some false) : Option (Bool)).bind fun b1 =>
(sel b1 ((bV a0.Pc).bind fun y2=>some y2) (some false) : Option (Bool)).bind fun b2 =>
(sel (b2 && (decide ((a0.Mem.length : Int) ≤ 10000))) ((dX a0.Mem (a0.Mem.length : Int)).bind fun y3=>some y3) (some false) : Option (Bool)).bind fun b3 =>
some b3
def ig (a0 : aE) (s1 : Int) : Option (Int ⊕ (Bool ⊕ Unit)):=
sel (decide (s1 < (a0.Harts.length : Int))) ((nth a0.Harts s1).bind fun x1 =>
(j1 (ah.mk x1.Regs x1.Pc x1.Mem)).bind fun y8 =>
sel (!y8) (some (.inr (.inl false))) <|
some (.inl (w64 (s1 + 1)))) <|
some (.inr (.inr ()))
def mB (a0 : aE) : Option (Bool):=
(ax (a0.Harts.length : Int) 1 3).bind fun y1 =>
(sel (!y1) (some true) ((mA a0.Boxes).bind fun y2=>some (!y2)) : Option (Bool)).bind fun b1 =>
(sel b1 (some true) ((ax a0.Turn 0 (w64 ((a0.Harts.length : Int) - 1))).bind fun y3=>some (!y3)) : Option (Bool)).bind fun b2 =>
(sel b2 (some true) ((ax a0.Idle 0 (a0.Harts.length : Int)).bind fun y4=>some (!y4)) : Option (Bool)).bind fun b3 =>
sel b3 (some false) <|
(bE (ig a0) 0).bind fun y5 =>
fd y5 (fun o3=>some o3) (fun o4 =>
(dX a0.Out (a0.Out.length : Int)).bind fun y9 =>
some y9)
def eP (a0 : List Box) (s1 : (List Box) × Int) : Option (((List Box) × Int) ⊕ ((List Box))):=
sel (decide (s1.2 < (a0.length : Int))) ((nth a0 s1.2).bind fun x1 =>
(nth a0 s1.2).bind fun x2 =>
(app 8 [] x2.Items).bind fun r1 =>
(app 32 s1.1 [(Box.mk x1.Room r1)]).bind fun r2 =>
some (.inl (r2,w64 (s1.2 + 1)))) <|
some (.inr s1.1)
def j2 (a0 : List Box) : Option ((List Box)):=
(bE (eP a0) ([],0)).bind fun y1 =>
some y1
def nc (a0 : ah) : Option (ah):=
(app 8 [] a0.Regs).bind fun r1 =>
(app 8 [] a0.Mem).bind fun r2 =>
some (ah.mk r1 a0.Pc r2)
def je (a0 : aE) (s1 : Int × (List ah)) : Option ((Int × (List ah)) ⊕ ((List ah))):=
sel (decide (s1.1 < (a0.Harts.length : Int))) ((nth a0.Harts s1.1).bind fun x1 =>
(nc (ah.mk x1.Regs x1.Pc x1.Mem)).bind fun y5 =>
(app 56 s1.2 [(ah.mk y5.Regs y5.Pc y5.Mem)]).bind fun r2 =>
some (.inl (w64 (s1.1 + 1),r2))) <|
some (.inr s1.2)
def nd (a0 : aE) : Option (aE):=
(j2 a0.Boxes).bind fun y1 =>
(app 8 [] a0.Out).bind fun r1 =>
(bE (je a0) (0,[])).bind fun y2 =>
some (aE.mk y2 y1 a0.Turn a0.Idle r1)
def cZ (a0 : ah) (a1 : Int) : Option (Bool):=
(nth a0.Regs 17).bind fun x1 =>
(sel (a0.Pc != 0) (some true) ((ax x1 1 5).bind fun y1=>some (!y1)) : Option (Bool)).bind fun b1 =>
sel b1 (some false) <|
(sel ((x1 != 1) && (x1 != 2)) (some true) ((nth a0.Regs 11).bind fun x2=>(ax x2 0 (w64 (a1 - 1))).bind fun y2=>some y2) : Option (Bool)).bind fun b2 =>
some b2
def lf (a0 : Box) (a1 : Int) : Option (Box × Bool):=
(i9 (Box.mk a0.Room a0.Items)).bind fun y1 =>
(sel (!y1) (some true) ((bV a1).bind fun y2=>some (!y2)) : Option (Bool)).bind fun b1 =>
sel (b1 || (decide ((a0.Items.length : Int) ≥ a0.Room))) (some ((Box.mk 0 []),false)) <|
(app 8 [] a0.Items).bind fun r1 =>
(app 8 r1 [a1]).bind fun r2 =>
some ((Box.mk a0.Room r2),true)
def j3 (a0 : Box) : Option (Box × Int × Bool):=
(i9 (Box.mk a0.Room a0.Items)).bind fun y1 =>
sel ((!y1) || ((a0.Items.length : Int) == 0)) (some ((Box.mk 0 []),0,false)) <|
(cut a0.Items 1 (a0.Items.length : Int)).bind fun r1 =>
(nth a0.Items 0).bind fun x1 =>
(app 8 [] r1).bind fun r2 =>
some ((Box.mk a0.Room r2),x1,true)
def j4 (a0 : ah) (a1 : List Box) : Option (Int × (List Int) × Int × (List Box)):=
(nth a0.Regs 11).bind fun x1 =>
(nth a0.Regs 17).bind fun x2 =>
sel (x2 == 1) ((nth a1 x1).bind fun x3 =>
(nth a0.Regs 10).bind fun x5 =>
(lf (Box.mk x3.Room x3.Items) x5).bind fun y2 =>
sel (!y2.2) (some (3,a0.Regs,a0.Pc,a1)) <|
(nth a1 x1).bind fun x6 =>
(nth a0.Regs 1).bind fun x7 =>
some (1,a0.Regs,x7,(a1.set (Int.toNat x1) (Box.mk y2.1.Room y2.1.Items)))) <|
(nth a1 x1).bind fun x8 =>
(j3 (Box.mk x8.Room x8.Items)).bind fun y3 =>
sel (!y3.2.2) (some (3,a0.Regs,a0.Pc,a1)) <|
(nth a0.Regs 10).bind fun x9 =>
(upd a0.Regs 10 y3.2.1).bind fun r1 =>
(nth r1 1).bind fun x10 =>
some (1,r1,x10,(a1.set (Int.toNat x1) (Box.mk y3.1.Room y3.1.Items)))
def dB (a0 : ah) (a1 : List Box) : Option ((List Int) × Int × (List Int) × Int × (List Box)):=
(nth a0.Regs 17).bind fun x1 =>
(sel (x1 == 1) (some (x1 == 1)) <|
some (x1 == 2) : Option (Bool)).bind fun y1 =>
sel y1 ((j4 (ah.mk a0.Regs a0.Pc a0.Mem) a1).bind fun y2 =>
some ([],y2.1,y2.2.1,y2.2.2.1,y2.2.2.2)) <|
sel (x1 == 5) (some ([],4,a0.Regs,a0.Pc,a1)) <|
(nth a0.Regs 1).bind fun x2 =>
(nth a0.Regs 17).bind fun x3 =>
sel (x3 == 4) ((nth a0.Regs 10).bind fun x4 =>
some ([x4],1,a0.Regs,x2,a1)) <|
some ([],2,a0.Regs,x2,a1)
def fJ (a0 : List Int) (a1 : Int) : Option (Bool):=
some (((decide (a1 ≥ 0)) && ((Int.tmod a1 4) == 0)) && (decide ((w64 (Int.tdiv a1 4)) < (a0.length : Int))))
def kS (a0 : Int) (s1 : Int) : Option (Int ⊕ (Int ⊕ Unit)):=
sel (decide (s1 ≤ 11)) ((aY a0 12 3).bind fun y5 =>
(ga s1).bind fun y6 =>
(sel (y5 == y6) ((aY a0 25 7).bind fun y7=>(gb s1).bind fun y8=>some (y7 == y8)) (some false) : Option (Bool)).bind fun b1 =>
sel b1 (some (.inr (.inl s1))) <|
some (.inl (w64 (s1 + 1)))) <|
some (.inr (.inr ()))
def kI (a0 : Int) : Option (Int):=
(aY a0 0 7).bind fun y1 =>
sel (y1 == 51) ((bE (kS a0) 1).bind fun y2 =>
fd y2 (fun o3=>some o3) (fun o4 =>
some 0)) <|
sel (y1 == 19) ((aY a0 12 3).bind fun y9 =>
sel (y9 == 0) (some 12) <|
some 13) <|
sel (y1 == 3) (some 14) <|
sel (y1 == 103) (some 15) <|
sel (y1 == 35) (some 16) <|
sel (y1 == 99) ((aY a0 12 3).bind fun y10 =>
sel (y10 == 0) (some 17) <|
some 18) <|
sel (y1 == 55) (some 19) <|
sel (y1 == 111) (some 20) <|
sel (y1 == 115) (some 21) <|
some 0
def aZ (a0 : Int) (a1 : Int) : Option (Instr):=
(aY a1 7 5).bind fun y1 =>
(aY a1 15 5).bind fun y2 =>
(aY a1 20 5).bind fun y3 =>
sel (decide (a0 ≤ 11)) (some (Instr.mk a0 y1 y2 y3 0)) <|
sel (decide (a0 ≤ 15)) ((aY a1 20 12).bind fun y4 =>
(cq y4 12).bind fun y5 =>
some (Instr.mk a0 y1 y2 0 y5)) <|
sel (a0 == 16) ((aY a1 25 7).bind fun y6 =>
(cq (w64 ((w64 (y6 * 32)) + y1)) 12).bind fun y7 =>
some (Instr.mk a0 0 y2 y3 y7)) <|
sel ((a0 == 17) || (a0 == 18)) ((aY a1 31 1).bind fun y8 =>
(aY a1 7 1).bind fun y9 =>
(aY a1 25 6).bind fun y10 =>
(aY a1 8 4).bind fun y11 =>
(cq (w64 ((w64 ((w64 ((w64 (y8 * 4096)) + (w64 (y9 * 2048)))) + (w64 (y10 * 32)))) + (w64 (y11 * 2)))) 13).bind fun y12 =>
some (Instr.mk a0 0 y2 y3 y12)) <|
sel (a0 == 19) ((aY a1 12 20).bind fun y13 =>
some (Instr.mk a0 y1 0 0 y13)) <|
sel (a0 == 20) ((aY a1 31 1).bind fun y14 =>
(aY a1 12 8).bind fun y15 =>
(aY a1 20 1).bind fun y16 =>
(aY a1 21 10).bind fun y17 =>
(cq (w64 ((w64 ((w64 ((w64 (y14 * 1048576)) + (w64 (y15 * 4096)))) + (w64 (y16 * 2048)))) + (w64 (y17 * 2)))) 21).bind fun y18 =>
some (Instr.mk a0 y1 0 0 y18)) <|
some (Instr.mk a0 0 0 0 0)
def dl (a0 : Int) : Option (Instr × Bool):=
(ax a0 0 4294967295).bind fun y1 =>
(sel (!y1) (some true) ((kI a0).bind fun y2=>some (y2 == 0)) : Option (Bool)).bind fun b1 =>
sel b1 (some ((Instr.mk 0 0 0 0 0),false)) <|
(kI a0).bind fun y3 =>
(aZ y3 a0).bind fun y4 =>
(bG y4).bind fun y5 =>
sel (y5 != a0) (some ((Instr.mk 0 0 0 0 0),false)) <|
some (y4,true)
def dF (a0 : ah) (a1 : Int) (a2 : Int) : Option ((List Int)):=
sel (a1 != 0) ((nth a0.Regs a1).bind fun x1 =>
(upd a0.Regs a1 a2).bind fun r1 =>
some r1) <|
some a0.Regs
def ux (a0 : ah) (a1 : Instr) : Option (Bool × (List Int) × Int × (List Int)):=
(nth a0.Regs a1.Rs).bind fun x1 =>
(bK (w64 (x1 + a1.Imm))).bind fun y1 =>
(fJ a0.Mem y1).bind fun y2 =>
sel (!y2) (some (false,a0.Regs,a0.Pc,a0.Mem)) <|
(sel (a1.Op == 14) ((nth a0.Mem (w64 (Int.tdiv y1 4))).bind fun x2 =>
(dF (ah.mk a0.Regs a0.Pc a0.Mem) a1.Rd x2).bind fun y4 =>
some (y4,a0.Mem)) <|
(nth a0.Regs a1.Rt).bind fun x3 =>
(nth a0.Mem (w64 (Int.tdiv y1 4))).bind fun x4 =>
(upd a0.Mem (w64 (Int.tdiv y1 4)) x3).bind fun r1 =>
some (a0.Regs,r1) : Option ((List Int) × (List Int))).bind fun y3 =>
some (true,y3.1,w64 (a0.Pc + 4),y3.2)
def uy (a0 : ah) (a1 : Instr) : Option ((List Int) × Int):=
(bK (w64 (a0.Pc + 4))).bind fun y1 =>
(nth a0.Regs a1.Rs).bind fun x1 =>
(nth a0.Regs a1.Rt).bind fun x2 =>
sel (a1.Op == 15) ((nth a0.Regs a1.Rs).bind fun x3 =>
(bK (w64 (x3 + a1.Imm))).bind fun y2 =>
(dF (ah.mk a0.Regs a0.Pc a0.Mem) a1.Rd y1).bind fun y3 =>
some (y3,w64 (y2 - (aF .and .i64 y2 1)))) <|
sel (a1.Op == 20) ((dF (ah.mk a0.Regs a0.Pc a0.Mem) a1.Rd y1).bind fun y4 =>
(bK (w64 (a0.Pc + a1.Imm))).bind fun y5 =>
some (y4,y5)) <|
sel ((x1 == x2) == (a1.Op == 17)) ((bK (w64 (a0.Pc + a1.Imm))).bind fun y6 =>
some (a0.Regs,y6)) <|
some (a0.Regs,y1)
def rv (a0 : Int) (a1 : Int) (a2 : Int) : Option (Int):=
(nth [8,9,10,11,12,3,1,2,6,7,5] (w64 (a0 - 1))).bind fun x1 =>
(gB x1 a1 a2).bind fun y1 =>
some y1.1
def de (a0 : ah) (a1 : Instr) : Option (Bool × (List Int) × Int × (List Int)):=
(nth a0.Regs a1.Rs).bind fun x1 =>
((sel (a1.Op == 14) (some (a1.Op == 14)) <|
some (a1.Op == 16) : Option (Bool)).bind fun y2 =>
sel y2 ((ux (ah.mk a0.Regs a0.Pc a0.Mem) a1).bind fun y3 =>
some (.inr (y3.1,y3.2.1,y3.2.2.1,y3.2.2.2))) <|
(sel (a1.Op == 15) (some (a1.Op == 15)) <|
sel (a1.Op == 20) (some (a1.Op == 20)) <|
sel (a1.Op == 17) (some (a1.Op == 17)) <|
some (a1.Op == 18) : Option (Bool)).bind fun y4 =>
sel y4 ((uy (ah.mk a0.Regs a0.Pc a0.Mem) a1).bind fun y5 =>
some (.inr (true,y5.1,y5.2,a0.Mem))) <|
sel (a1.Op == 12) ((bK (w64 (x1 + a1.Imm))).bind fun y6 =>
(dF (ah.mk a0.Regs a0.Pc a0.Mem) a1.Rd y6).bind fun y7 =>
some (.inl y7)) <|
sel (a1.Op == 13) ((cQ x1).bind fun y8 =>
(cQ a1.Imm).bind fun y9 =>
(fD (decide (y8 < y9))).bind fun y10 =>
(dF (ah.mk a0.Regs a0.Pc a0.Mem) a1.Rd y10).bind fun y11 =>
some (.inl y11)) <|
sel (a1.Op == 19) ((bK (w64 (a1.Imm * 4096))).bind fun y12 =>
(dF (ah.mk a0.Regs a0.Pc a0.Mem) a1.Rd y12).bind fun y13 =>
some (.inl y13)) <|
(nth a0.Regs a1.Rt).bind fun x2 =>
(rv a1.Op x1 x2).bind fun y14 =>
(dF (ah.mk a0.Regs a0.Pc a0.Mem) a1.Rd y14).bind fun y15 =>
some (.inl y15) : Option (((List Int)) ⊕ (Bool × (List Int) × Int × (List Int)))).bind fun y1 =>
fd y1 (fun o3=>some (true,o3,w64 (a0.Pc + 4),a0.Mem)) (fun o4 =>
some o4)
def eR (a0 : ah) : Option (Int × (List Int) × Int × (List Int)):=
(fJ a0.Mem a0.Pc).bind fun y1 =>
sel (!y1) (some (3,a0.Regs,a0.Pc,a0.Mem)) <|
(nth a0.Mem (w64 (Int.tdiv a0.Pc 4))).bind fun x1 =>
(cQ x1).bind fun y2 =>
(dl y2).bind fun y3 =>
sel (!y3.2) (some (3,a0.Regs,a0.Pc,a0.Mem)) <|
sel (y3.1.Op == 21) (some (2,a0.Regs,a0.Pc,a0.Mem)) <|
(de (ah.mk a0.Regs a0.Pc a0.Mem) y3.1).bind fun y4 =>
sel (!y4.1) (some (3,y4.2.1,y4.2.2.1,y4.2.2.2)) <|
some (1,y4.2.1,y4.2.2.1,y4.2.2.2)
def gf (a0 : Int) (a1 : Int) (a2 : Int) (a3 : Int) : Option (Int × Int × Bool):=
(ax a0 1 3).bind fun y1 =>
(sel (!y1) (some true) ((ax a1 0 (w64 (a0 - 1))).bind fun y2=>some (!y2)) : Option (Bool)).bind fun b1 =>
(sel b1 (some true) ((ax a2 0 (w64 (a0 - 1))).bind fun y3=>some (!y3)) : Option (Bool)).bind fun b2 =>
sel b2 (some (0,0,false)) <|
sel (a3 == 1) (some (a1,0,true)) <|
sel (a3 == 2) ((mh (w64 (a1 + 1)) a0).bind fun d1 =>
some (d1,0,true)) <|
(sel (a3 == 3) (some (a3 == 3)) <|
some (a3 == 4) : Option (Bool)).bind fun y4 =>
sel y4 ((mh (w64 (a1 + 1)) a0).bind fun d2 =>
some (d2,w64 (a2 + 1),true)) <|
some (0,0,false)
def cF (a0 : aE) : Option (Bool × (List ah) × (List Box) × Int × Int × (List Int)):=
(nth a0.Harts a0.Turn).bind fun x1 =>
(sel (x1.Pc == 0) ((cZ (ah.mk x1.Regs x1.Pc x1.Mem) (a0.Boxes.length : Int)).bind fun y2 =>
sel (!y2) (some (.inr (false,a0.Harts,a0.Boxes,a0.Turn,a0.Idle,a0.Out))) <|
(dB (ah.mk x1.Regs x1.Pc x1.Mem) a0.Boxes).bind fun y3 =>
(app 8 a0.Out y3.1).bind fun r1 =>
some (.inl (y3.2.1,r1,(a0.Harts.set (Int.toNat a0.Turn) (ah.mk y3.2.2.1 y3.2.2.2.1 x1.Mem)),y3.2.2.2.2))) <|
(eR (ah.mk x1.Regs x1.Pc x1.Mem)).bind fun y4 =>
sel (y4.1 != 1) (some (.inr (false,(a0.Harts.set (Int.toNat a0.Turn) (ah.mk y4.2.1 y4.2.2.1 y4.2.2.2)),a0.Boxes,a0.Turn,a0.Idle,a0.Out))) <|
some (.inl (1,a0.Out,(a0.Harts.set (Int.toNat a0.Turn) (ah.mk y4.2.1 y4.2.2.1 y4.2.2.2)),a0.Boxes)) : Option ((Int × (List Int) × (List ah) × (List Box)) ⊕ (Bool × (List ah) × (List Box) × Int × Int × (List Int)))).bind fun y1 =>
fd y1 (fun o3=>(gf (o3.2.2.1.length : Int) a0.Turn a0.Idle o3.1).bind fun y5 =>
some (true,o3.2.2.1,o3.2.2.2,y5.1,y5.2.1,o3.2.1)) (fun o4 =>
some o4)
def cg (a1 : Int) (s1 : Int × (List ah) × (List Box) × Int × Int × (List Int)) : Option ((Int × (List ah) × (List Box) × Int × Int × (List Int)) ⊕ ((aE × Bool) ⊕ ((List ah) × (List Box) × Int × Int × (List Int)))):=
sel ((decide (s1.1 < a1)) && (decide (s1.2.2.2.2.1 < (s1.2.1.length : Int)))) ((cF (aE.mk s1.2.1 s1.2.2.1 s1.2.2.2.1 s1.2.2.2.2.1 s1.2.2.2.2.2)).bind fun y7 =>
sel (!y7.1) (some (.inr (.inl ((aE.mk [] [] 0 0 []),false)))) <|
some (.inl (w64 (s1.1 + 1),y7.2.1,y7.2.2.1,y7.2.2.2.1,y7.2.2.2.2.1,y7.2.2.2.2.2))) <|
some (.inr (.inr (s1.2.1,s1.2.2.1,s1.2.2.2.1,s1.2.2.2.2.1,s1.2.2.2.2.2)))
def ja (a0 : aE) (a1 : Int) : Option (aE × Bool):=
(mB (aE.mk a0.Harts a0.Boxes a0.Turn a0.Idle a0.Out)).bind fun y1 =>
(sel (!y1) (some true) ((ax a1 0 1000000).bind fun y2=>some (!y2)) : Option (Bool)).bind fun b1 =>
sel b1 (some ((aE.mk [] [] 0 0 []),false)) <|
(nd (aE.mk a0.Harts a0.Boxes a0.Turn a0.Idle a0.Out)).bind fun y3 =>
(bE (cg a1) (0,y3.Harts,y3.Boxes,y3.Turn,y3.Idle,y3.Out)).bind fun y4 =>
fd y4 (fun o3=>some o3) (fun o4 =>
some ((aE.mk o4.1 o4.2.1 o4.2.2.1 o4.2.2.2.1 o4.2.2.2.2),true))
end
end Go.Proofs.YtcljimkjmklkmaaGreatDoor.N
namespace Go.Proofs.YtcljimkjmklkmaaGreatDoor.X
noncomputable section
variable {σ τ ρ ρ' α : Type}
theorem vW (x : Int) : w64 x = if 9223372036854775808 ≤ x % 18446744073709551616 then x % 18446744073709551616 - 18446744073709551616 else x % 18446744073709551616:=by
 show IntKind.wrap .i64 x = _
 simp [IntKind.wrap,IntKind.signed,IntKind.bits]
theorem aK {x : Int} (h1 : -9223372036854775808 ≤ x) (h2 : x ≤ 9223372036854775807) : w64 x = x:=by
 rw [vW]
 split <;> omega
theorem sq {f : σ → Option (σ ⊕ ρ)} (st : Nat → σ) (n : Nat) {r : ρ} (h : ∀ i,i < n → f (st i) = some (.inl (st (i + 1)))) (he : f (st n) = some (.inr r)) : bE f (st 0) = some r:=by
 have key : ∀ m,m ≤ n → bE f (st (n - m)) = some r:=by
  intro m
  induction m with
  | zero=>intro _; rw [cw]; simp [he]
  | succ m ih =>
   intro hm
   rw [cw,h (n - (m + 1)) (by omega)]
   have:=ih (by omega)
   rw [show n - m = n - (m + 1) + 1 by omega] at this
   exact this
 have:=key n (Nat.le_refl n)
 rwa [Nat.sub_self] at this
theorem vf {f : σ → Option (σ ⊕ ρ)} (I : σ → Prop) (μ : σ → Nat) (Q : ρ → Prop) (h : ∀ s,I s → (∃ s',f s = some (.inl s') ∧ I s' ∧ μ s' < μ s) ∨ (∃ r,f s = some (.inr r) ∧ Q r)) : ∀ {s : σ},I s → ∃ r,bE f s = some r ∧ Q r:=by
 have key : ∀ n s,μ s ≤ n → I s → ∃ r,bE f s = some r ∧ Q r:=by
  intro n
  induction n with
  | zero =>
   intro s hs hI
   rcases h s hI with ⟨s',_,_,h3⟩ | ⟨r,h1,h2⟩
   ·omega
   ·exact ⟨r,by rw [cw,h1],h2⟩
  | succ n ih =>
   intro s hs hI
   rcases h s hI with ⟨s',h1,h2,h3⟩ | ⟨r,h1,h2⟩
   ·obtain ⟨r,k1,k2⟩:=ih s' (by omega) h2
    exact ⟨r,by rw [cw,h1]; exact k1,k2⟩
   ·exact ⟨r,by rw [cw,h1],h2⟩
 exact fun {s} hI=>key _ s (Nat.le_refl _) hI
theorem cG {l : List α} {i : Nat} (h : i < l.length) : nth l (i : Int) = some l[i]:=by
 unfold nth
 rw [if_neg (by omega)]
 simp [List.getElem?_eq_getElem h]
theorem sQ {l : List α} {i : Nat} (h : i < l.length) (x : α) : upd l (i : Int) x = some (l.set i x):=by
 unfold upd
 rw [if_pos ⟨by omega,by omega⟩]
 simp
theorem dY {bytes : Nat} {l m : List α} (h : (l.length + m.length) * bytes ≤ 140737488355328) : app bytes l m = some (l ++ m):=by
 unfold app AI
 rw [Nat.ble_eq_true_of_le h]
theorem bq {α : Type} {b : Bool} (h : b = true) (x y : α) : sel b x y = x:=by subst h; rfl
theorem al {α : Type} {b : Bool} (h : b = false) (x y : α) : sel b x y = y:=by subst h; rfl
theorem ab {α : Type} {b : Bool} {x y r : α} (h : b = false) (k : y = r) : sel b x y = r:=by subst h; exact k
theorem fK {i : Nat} (h : i ≤ 9223372036854775806) : w64 ((i : Int) + 1) = ((i + 1 : Nat) : Int):=by rw [aK (by omega) (by omega)]; omega
def w8 (mk : α → Int → Option (Int × α)) : List α → Int → Option (Int × List α)
 | [],k=>some (k,[])
 | x :: xs,k=>match mk x k with
  | some (k1,x')=>match w8 mk xs k1 with
   | some (k2,xs')=>some (k2,x' :: xs')
   | none=>none
  | none=>none
def yu (hd : α → Int → Int → Prop) : List α → Int → Int → Prop
 | [],k,k'=>k' = k
 | x :: xs,k,k'=>∃ k1,hd x k k1 ∧ yu hd xs k1 k'
def MH (mk : α → Int → Option (Int × α)) (hd : α → Int → Int → Prop) (sz : α → Nat) : Prop:=
 ∀ x (k : Int),1 ≤ k → k + sz x ≤ 1000000000000 → ∃ x',mk x k = some (k + sz x,x') ∧ hd x' k (k + sz x)
def szs (sz : α → Nat) : List α → Nat
 | []=>0
 | x :: xs=>sz x + szs sz xs
theorem MH.list {mk : α → Int → Option (Int × α)} {hd : α → Int → Int → Prop} {sz : α → Nat} (h : MH mk hd sz) : ∀ (l : List α) (k : Int),1 ≤ k → k + szs sz l ≤ 1000000000000 → ∃ l',w8 mk l k = some (k + szs sz l,l') ∧ yu hd l' k (k + szs sz l) ∧ l'.length = l.length
 | [],k,_,_=>⟨[],by simp [w8,szs],by simp [yu,szs],rfl⟩
 | x :: xs,k,h1,h2=>by
  simp only [szs] at h2
  obtain ⟨x',k1,k2⟩:=h x k h1 (by omega)
  obtain ⟨l',k3,k4,k5⟩:=MH.list h xs (k + sz x) (by omega) (by omega)
  refine ⟨x' :: l',?_,⟨_,k2,?_⟩,by simp [k5]⟩
  ·simp only [w8,k1,k3,szs]
   congr 2
   omega
  ·rw [show k + (szs sz (x :: xs) : Nat) = k + sz x + szs sz xs by simp only [szs]; omega]
   exact k4
end
noncomputable section
theorem oZ {n : Nat} (h : n < 9223372036854775808) : IntKind.wrap .i64 (n : Int) = n:=by
 have:=aK (x:=(n : Int)) (by omega) (by omega)
 exact this
theorem mL {n : Nat} (h : n < 18446744073709551616) : (BitVec.ofInt 64 (n : Int)).toNat = n:=by
 simp only [BitVec.ofInt_natCast,BitVec.toNat_ofNat]
 exact Nat.mod_eq_of_lt h
theorem zP {a b : Nat} (ha : a < 9223372036854775808) (hb : b < 9223372036854775808) : aF .and .i64 (a : Int) (b : Int) = ((a &&& b : Nat) : Int):=by
 show IntKind.wrap .i64 ((BitVec.ofInt 64 (a : Int) &&& BitVec.ofInt 64 (b : Int)).toNat : Int) = _
 rw [BitVec.toNat_and,mL (by omega),mL (by omega)]
 exact oZ (Nat.lt_of_le_of_lt Nat.and_le_left ha)
theorem Ba {a b : Nat} (ha : a < 9223372036854775808) (hb : b < 9223372036854775808) : aF .or .i64 (a : Int) (b : Int) = ((a ||| b : Nat) : Int):=by
 show IntKind.wrap .i64 ((BitVec.ofInt 64 (a : Int) ||| BitVec.ofInt 64 (b : Int)).toNat : Int) = _
 rw [BitVec.toNat_or,mL (by omega),mL (by omega)]
 exact oZ (Nat.or_lt_two_pow (n:=63) ha hb)
theorem sR {a k : Nat} (ha : a < 9223372036854775808) (hk : k ≤ 62) : aF .and .i64 (a : Int) (((2 ^ k : Nat) : Int) - 1) = ((a % 2 ^ k : Nat) : Int):=by
 have h1 : 2 ^ k ≤ 2 ^ 62:=Nat.pow_le_pow_right (by omega) hk
 have h2 : 0 < 2 ^ k:=Nat.two_pow_pos k
 have h3 : (2 : Nat) ^ 62 = 4611686018427387904:=by decide
 rw [show (((2 ^ k : Nat) : Int) - 1) = ((2 ^ k - 1 : Nat) : Int) by omega,zP ha (by omega),Nat.and_two_pow_sub_one_eq_mod]
theorem dM {i x y : Nat} (h : y < 2 ^ i) : 2 ^ i * x + y = 2 ^ i * x ||| y:=(Nat.two_pow_add_eq_or_of_lt h x)
theorem pA {x k : Nat} (hk : k ≤ 62) (hx : x * 2 ^ k < 9223372036854775808) : shO .shl .i64 (x : Int) (k : Int) = some ((x * 2 ^ k : Nat) : Int):=by
 unfold shO
 rw [if_neg (by omega)]
 have hm : min ((k : Int).toNat) (IntKind.bits .i64) = k:=by
  have : IntKind.bits .i64 = 64:=rfl
  rw [this]; omega
 simp only [hm]
 congr 1
 show w64 _ = _
 have : (x : Int) * 2 ^ k = ((x * 2 ^ k : Nat) : Int):=by simp
 rw [this]
 exact aK (by omega) (by omega)
theorem w9 {x k : Nat} (hk : k ≤ 62) : shO .shr .i64 (x : Int) (k : Int) = some ((x / 2 ^ k : Nat) : Int):=by
 unfold shO
 rw [if_neg (by omega)]
 have hm : min ((k : Int).toNat) (IntKind.bits .i64) = k:=by
  have : IntKind.bits .i64 = 64:=rfl
  rw [this]; omega
 simp only [hm]
 congr 1
 rw [show ((2 : Int) ^ k) = ((2 ^ k : Nat) : Int) by simp,Int.fdiv_eq_ediv_of_nonneg _ (Int.natCast_nonneg _)]
 rfl
end
end Go.Proofs.YtcljimkjmklkmaaGreatDoor.X
namespace Go.Proofs.YtcljimkjmklkmaaGreatDoor.N
open Go.Proofs.YtcljimkjmklkmaaGreatDoor.X
noncomputable section
theorem df (b c : Bool) : sel b (some c) (some false) = some (b && c):=by cases b <;> rfl
theorem sS (k : Nat) (hk : k ≤ 62) : cl (k : Int) = some ((2 ^ k : Nat) : Int):=by
 unfold cl
 have h63 : ∀ i,i ≤ 62 → 2 ^ i ≤ 4611686018427387904:=fun i hi=>Nat.pow_le_pow_right (by omega : 0 < 2) hi
 have:=sq (f:=et (k : Int)) (fun i=>(((2 ^ i : Nat) : Int),(i : Int))) k (r:=((2 ^ k : Nat) : Int)) (fun i hi=>by
  unfold et
  have h1:=h63 (i + 1) (by omega)
  rw [bq (by simpa using hi),fK (by omega)]
  rw [Nat.pow_succ] at h1 ⊢
  generalize 2 ^ i = x at h1 ⊢
  rw [aK (by omega) (by omega)]
  simp) (by
  unfold et
  rw [al (by simp)])
 rw [show ((2 ^ 0 : Nat) : Int) = 1 from rfl,show ((0 : Nat) : Int) = 0 from rfl] at this
 rw [this]
 rfl
theorem er (n k : Nat) (hk : k ≤ 62) (hn : n * 2 ^ k < 9223372036854775808) : be (n : Int) (k : Int) = some ((n * 2 ^ k : Nat) : Int):=by
 unfold be
 rw [sS k hk]
 simp only [ob9]
 rw [show (n : Int) * ((2 ^ k : Nat) : Int) = ((n * 2 ^ k : Nat) : Int) by simp,aK (by omega) (by omega)]
theorem az (u low many : Nat) (hu : u < 4294967296) (hl : low ≤ 31) (hm : 1 ≤ many) (hm2 : many + low ≤ 32) : aY (u : Int) (low : Int) (many : Int) = some ((u / 2 ^ low % 2 ^ many : Nat) : Int):=by
 unfold aY ax
 simp only [ob9]
 have w1 : w64 (32 - (low : Int)) = 32 - low:=aK (by omega) (by omega)
 have e1 : (decide ((u : Int) ≥ 0) && decide ((u : Int) ≤ 4294967295)) = true:=by simp; omega
 have e2 : (decide ((low : Int) ≥ 0) && decide ((low : Int) ≤ 31)) = true:=by simp; omega
 have e3 : (decide ((many : Int) ≥ 1) && decide ((many : Int) ≤ 32 - (low : Int))) = true:=by simp; omega
 rw [e1,e2,w1,e3]
 simp only [Bool.not_true,sel,ob9]
 rw [sS low (by omega),sS many (by omega)]
 simp only [ob9]
 have p1:=Nat.two_pow_pos low
 have p2:=Nat.two_pow_pos many
 unfold px mh
 rw [if_neg (by omega)]
 simp only [ob9]
 rw [if_neg (by omega)]
 simp only [ob9]
 congr 1
 have q1 : Int.tdiv (u : Int) ((2 ^ low : Nat) : Int) = ((u / 2 ^ low : Nat) : Int):=rfl
 have hle : u / 2 ^ low ≤ u:=Nat.div_le_self _ _
 rw [q1]
 generalize u / 2 ^ low = q at hle ⊢
 show Int.tmod (w64 _) _ = _
 rw [aK (by omega) (by omega)]
 rfl
theorem ib1 (u low many : Nat) (hu : u < 4294967296) (hl : low ≤ 31) (hm : 1 ≤ many) (hm2 : many + low ≤ 32) : (shO .shr .i64 (u : Int) (low : Int)).bind (fun d1 =>
   (shO .shl .i64 1 (many : Int)).bind fun d2=>some (aF .and .i64 d1 (w64 (d2 - 1)))) =
  some ((u / 2 ^ low % 2 ^ many : Nat) : Int):=by
 have hp : 2 ^ many ≤ 2 ^ 32:=Nat.pow_le_pow_right (by omega) (by omega)
 have h3 : (2 : Nat) ^ 32 = 4294967296:=by decide
 rw [h3] at hp
 have h1 : shO .shl .i64 ((1 : Nat) : Int) (many : Int) = _:=pA (x:=1) (k:=many) (by omega) (by omega)
 rw [Nat.one_mul] at h1
 have hle : u / 2 ^ low ≤ u:=Nat.div_le_self _ _
 have h4:=Nat.two_pow_pos many
 have hX : ∀ X : Nat,0 < X → X ≤ 4294967296 → w64 ((X : Int) - 1) = (X : Int) - 1:=fun X h1 h2=>aK (by omega) (by omega)
 refine aa (w9 (x:=u) (k:=low) (by omega)) ?_
 refine aa h1 ?_
 rw [hX _ h4 hp]
 congr 1
 exact sR (by omega) (by omega)
theorem br (u low many : Nat) (hu : u < 4294967296) (hl : low ≤ 31) (hm : 1 ≤ many) (hm2 : many + low ≤ 32) : bz (u : Int) (low : Int) (many : Int) = some ((u / 2 ^ low % 2 ^ many : Nat) : Int):=by
 have w1 : w64 (32 - (low : Int)) = 32 - low:=aK (by omega) (by omega)
 have e1 : (decide ((u : Int) ≥ 0) && decide ((u : Int) < 4294967296)) = true:=by rw [decide_eq_true (by omega),decide_eq_true (by omega)]; rfl
 have e2 : decide ((low : Int) < 0) = false:=decide_eq_false (by omega)
 have e3 : decide ((low : Int) > 31) = false:=decide_eq_false (by omega)
 have e4 : decide ((many : Int) < 1) = false:=decide_eq_false (by omega)
 have e5 : decide ((many : Int) > 32 - (low : Int)) = false:=decide_eq_false (by omega)
 unfold bz dK
 rw [e1,w1,e2,e3,e4,e5]
 exact ib1 u low many hu hl hm hm2
theorem jf (u low many place : Nat) (hu : u < 4294967296) (hl : low ≤ 31) (hm : 1 ≤ many) (hm2 : many + low ≤ 32) (hp : place + many ≤ 32) : ay (low : Int) (many : Int) (place : Int) (u : Int) = some ((u / 2 ^ low % 2 ^ many * 2 ^ place : Nat) : Int):=by
 unfold ay
 rw [br u low many hu hl hm hm2]
 simp only [ob9]
 have h1 : u / 2 ^ low % 2 ^ many < 2 ^ many:=Nat.mod_lt _ (Nat.two_pow_pos _)
 have h2 : u / 2 ^ low % 2 ^ many * 2 ^ place < 2 ^ many * 2 ^ place:=(Nat.mul_lt_mul_right (Nat.two_pow_pos _)).2 h1
 rw [← Nat.pow_add] at h2
 have h3 : 2 ^ (many + place) ≤ 2 ^ 32:=Nat.pow_le_pow_right (by omega) (by omega)
 have h4 : (2 : Nat) ^ 32 = 4294967296:=by decide
 rw [pA (by omega) (by omega)]
 rfl
theorem vg {op : Int} (h : 1 ≤ op ∧ op ≤ 11) : bC op = some 82:=by unfold bC; rw [bq (by simp; omega)]
theorem vj {op : Int} (h : 12 ≤ op ∧ op ≤ 15) : bC op = some 73:=by unfold bC; rw [al (by simp; omega),bq (by simp; omega)]
theorem uz {op : Int} (h : op = 16) : bC op = some 83:=by subst h; rfl
theorem vk {op : Int} (h : op = 17 ∨ op = 18) : bC op = some 66:=by rcases h with rfl | rfl <;> rfl
theorem vX {op : Int} (h : op = 19) : bC op = some 85:=by subst h; rfl
theorem vY {op : Int} (h : op = 20) : bC op = some 74:=by subst h; rfl
theorem yv {op : Int} (h : op = 21) : bC op = some 69:=by subst h; rfl
theorem BM {op : Int} (h : op < 1 ∨ 21 < op) : bC op = some 32:=by
 unfold bC
 rw [al (by simp; omega),al (by simp; omega),al (by simp; omega),al (by simp; omega),al (by simp; omega),al (by simp; omega),al (by simp; omega)]
theorem vl (op : Int) : (1 ≤ op ∧ op ≤ 11) ∨ (12 ≤ op ∧ op ≤ 15) ∨ op = 16 ∨ (op = 17 ∨ op = 18) ∨ op = 19 ∨ op = 20 ∨ op = 21 ∨ (op < 1 ∨ 21 < op):=by omega
end
noncomputable section
theorem tab (k : Nat) (h : k < 21) : ∃ (x : kY) (f3 f7 opc : Nat),nth kj (k : Int) = some x ∧ x.funct3 = f3 ∧ x.funct7 = f7 ∧ x.opcode = opc ∧ f3 < 8 ∧ f7 < 128 ∧ opc < 128 ∧ nth [0,0,0,4,6,7,6,4,1,5,2,0,3,2,0,2,0,1,0,0,0] (k : Int) = some (f3 : Int) ∧
  (k < 11 → nth [0,32,1,1,1,0,0,0,0,32,0] (k : Int) = some (f7 : Int) ∧ opc = 51) ∧ (k = 11 ∨ k = 12 → opc = 19) ∧ (k = 13 → opc = 3) ∧ (k = 14 → opc = 103) ∧ (k = 15 → opc = 35) ∧ (k = 16 ∨ k = 17 → opc = 99) ∧ (k = 18 → opc = 55) ∧ (k = 19 → opc = 111) ∧ (k = 20 → opc = 115):=by
 have h' : k = 0 ∨ k = 1 ∨ k = 2 ∨ k = 3 ∨ k = 4 ∨ k = 5 ∨ k = 6 ∨ k = 7 ∨ k = 8 ∨ k = 9 ∨ k = 10 ∨ k = 11 ∨ k = 12 ∨ k = 13 ∨ k = 14 ∨ k = 15 ∨ k = 16 ∨ k = 17 ∨ k = 18 ∨ k = 19 ∨ k = 20:=by omega
 rcases h' with rfl | rfl | rfl | rfl | rfl | rfl | rfl | rfl | rfl | rfl | rfl | rfl | rfl | rfl | rfl | rfl | rfl | rfl | rfl | rfl | rfl
 ·exact ⟨_,0,0,51,rfl,rfl,rfl,rfl,by decide,by decide,by decide,rfl,fun h=>⟨rfl,rfl⟩,by decide,by decide,by decide,by decide,by decide,by decide,by decide,by decide⟩
 ·exact ⟨_,0,32,51,rfl,rfl,rfl,rfl,by decide,by decide,by decide,rfl,fun h=>⟨rfl,rfl⟩,by decide,by decide,by decide,by decide,by decide,by decide,by decide,by decide⟩
 ·exact ⟨_,0,1,51,rfl,rfl,rfl,rfl,by decide,by decide,by decide,rfl,fun h=>⟨rfl,rfl⟩,by decide,by decide,by decide,by decide,by decide,by decide,by decide,by decide⟩
 ·exact ⟨_,4,1,51,rfl,rfl,rfl,rfl,by decide,by decide,by decide,rfl,fun h=>⟨rfl,rfl⟩,by decide,by decide,by decide,by decide,by decide,by decide,by decide,by decide⟩
 ·exact ⟨_,6,1,51,rfl,rfl,rfl,rfl,by decide,by decide,by decide,rfl,fun h=>⟨rfl,rfl⟩,by decide,by decide,by decide,by decide,by decide,by decide,by decide,by decide⟩
 ·exact ⟨_,7,0,51,rfl,rfl,rfl,rfl,by decide,by decide,by decide,rfl,fun h=>⟨rfl,rfl⟩,by decide,by decide,by decide,by decide,by decide,by decide,by decide,by decide⟩
 ·exact ⟨_,6,0,51,rfl,rfl,rfl,rfl,by decide,by decide,by decide,rfl,fun h=>⟨rfl,rfl⟩,by decide,by decide,by decide,by decide,by decide,by decide,by decide,by decide⟩
 ·exact ⟨_,4,0,51,rfl,rfl,rfl,rfl,by decide,by decide,by decide,rfl,fun h=>⟨rfl,rfl⟩,by decide,by decide,by decide,by decide,by decide,by decide,by decide,by decide⟩
 ·exact ⟨_,1,0,51,rfl,rfl,rfl,rfl,by decide,by decide,by decide,rfl,fun h=>⟨rfl,rfl⟩,by decide,by decide,by decide,by decide,by decide,by decide,by decide,by decide⟩
 ·exact ⟨_,5,32,51,rfl,rfl,rfl,rfl,by decide,by decide,by decide,rfl,fun h=>⟨rfl,rfl⟩,by decide,by decide,by decide,by decide,by decide,by decide,by decide,by decide⟩
 ·exact ⟨_,2,0,51,rfl,rfl,rfl,rfl,by decide,by decide,by decide,rfl,fun h=>⟨rfl,rfl⟩,by decide,by decide,by decide,by decide,by decide,by decide,by decide,by decide⟩
 ·exact ⟨_,0,0,19,rfl,rfl,rfl,rfl,by decide,by decide,by decide,rfl,fun h=>absurd h (by decide),by decide,by decide,by decide,by decide,by decide,by decide,by decide,by decide⟩
 ·exact ⟨_,3,0,19,rfl,rfl,rfl,rfl,by decide,by decide,by decide,rfl,fun h=>absurd h (by decide),by decide,by decide,by decide,by decide,by decide,by decide,by decide,by decide⟩
 ·exact ⟨_,2,0,3,rfl,rfl,rfl,rfl,by decide,by decide,by decide,rfl,fun h=>absurd h (by decide),by decide,by decide,by decide,by decide,by decide,by decide,by decide,by decide⟩
 ·exact ⟨_,0,0,103,rfl,rfl,rfl,rfl,by decide,by decide,by decide,rfl,fun h=>absurd h (by decide),by decide,by decide,by decide,by decide,by decide,by decide,by decide,by decide⟩
 ·exact ⟨_,2,0,35,rfl,rfl,rfl,rfl,by decide,by decide,by decide,rfl,fun h=>absurd h (by decide),by decide,by decide,by decide,by decide,by decide,by decide,by decide,by decide⟩
 ·exact ⟨_,0,0,99,rfl,rfl,rfl,rfl,by decide,by decide,by decide,rfl,fun h=>absurd h (by decide),by decide,by decide,by decide,by decide,by decide,by decide,by decide,by decide⟩
 ·exact ⟨_,1,0,99,rfl,rfl,rfl,rfl,by decide,by decide,by decide,rfl,fun h=>absurd h (by decide),by decide,by decide,by decide,by decide,by decide,by decide,by decide,by decide⟩
 ·exact ⟨_,0,0,55,rfl,rfl,rfl,rfl,by decide,by decide,by decide,rfl,fun h=>absurd h (by decide),by decide,by decide,by decide,by decide,by decide,by decide,by decide,by decide⟩
 ·exact ⟨_,0,0,111,rfl,rfl,rfl,rfl,by decide,by decide,by decide,rfl,fun h=>absurd h (by decide),by decide,by decide,by decide,by decide,by decide,by decide,by decide,by decide⟩
 ·exact ⟨_,0,0,115,rfl,rfl,rfl,rfl,by decide,by decide,by decide,rfl,fun h=>absurd h (by decide),by decide,by decide,by decide,by decide,by decide,by decide,by decide,by decide⟩
theorem gi {n k : Nat} (h : n * 2 ^ k < 9223372036854775808) : w64 ((n : Int) * 2 ^ k) = ((n * 2 ^ k : Nat) : Int):=by
 have : (n : Int) * 2 ^ k = ((n * 2 ^ k : Nat) : Int):=by simp
 rw [this]
 exact aK (by omega) (by omega)
theorem j5 {x : Int} (h1 : -2147483648 ≤ x) (h2 : x ≤ 2147483647) : ∃ u : Nat,u < 4294967296 ∧ (u : Int) = x % 4294967296 ∧ bW x = some (u : Int) ∧ cQ x = some (u : Int):=by
 refine ⟨(x % 4294967296).toNat,by omega,by omega,?_,?_⟩
 ·unfold bW cR
  have e1 : (decide (x ≥ -2147483648) && decide (x ≤ 2147483647)) = true:=by rw [decide_eq_true (by omega),decide_eq_true (by omega)]; rfl
  rw [e1]
  simp only [ob9,Bool.not_true,sel]
  have e2 : jv .u32 x = x % 4294967296:=by
   show IntKind.wrap .u32 x = _
   simp [IntKind.wrap,IntKind.signed,IntKind.bits]
  rw [e2,aK (by omega) (by omega)]
  congr 1
  omega
 ·unfold cQ bV ax
  have e1 : (decide (x ≥ -2147483648) && decide (x ≤ 2147483647)) = true:=by rw [decide_eq_true (by omega),decide_eq_true (by omega)]; rfl
  rw [e1]
  simp only [ob9,Bool.not_true]
  rw [al rfl]
  by_cases h : x < 0
  ·rw [bq (by simpa using h),aK (by omega) (by omega)]
   congr 1
   omega
  ·rw [al (by simpa using h)]
   congr 1
   omega
theorem uA {x : Int} {p : Nat} (h1 : -(p : Int) ≤ x) (h2 : x < p) (h3 : p ≤ 4294967296) : ∃ m : Nat,m < p ∧ (m : Int) = x % p ∧ fF x p = some (m : Int):=by
 have hp : 0 < (p : Int):=by omega
 unfold fF
 by_cases h : x < 0
 ·refine ⟨(x + p).toNat,by omega,?_,?_⟩
  ·rw [Int.toNat_of_nonneg (by omega),← Int.add_emod_right,Int.emod_eq_of_lt (by omega) (by omega)]
  ·rw [bq (by simpa using h),aK (by omega) (by omega),Int.toNat_of_nonneg (by omega)]
 ·refine ⟨x.toNat,by omega,?_,?_⟩
  ·rw [Int.toNat_of_nonneg (by omega),Int.emod_eq_of_lt (by omega) (by omega)]
  ·rw [al (by simpa using h),Int.toNat_of_nonneg (by omega)]
theorem BN {f7 rt rs f3 opc rd : Nat} (h1 : opc < 128) (h2 : rd < 32) (h3 : f3 < 8) (h4 : rs < 32) (h5 : rt < 32) :
  ((f7 * 2 ^ 25 ||| (rt * 2 ^ 20 ||| rs * 2 ^ 15 ||| f3 * 2 ^ 12 ||| opc)) ||| rd * 2 ^ 7) = f7 * 2 ^ 25 + rt * 2 ^ 20 + (rs * 2 ^ 15 + f3 * 2 ^ 12 + opc) + rd * 2 ^ 7:=by
 have e : f7 * 2 ^ 25 + rt * 2 ^ 20 + (rs * 2 ^ 15 + f3 * 2 ^ 12 + opc) + rd * 2 ^ 7 = 2 ^ 25 * f7 + (2 ^ 20 * rt + (2 ^ 15 * rs + (2 ^ 12 * f3 + (2 ^ 7 * rd + opc)))):=by omega
 rw [e,dM (i:=25) (by omega),dM (i:=20) (by omega),dM (i:=15) (by omega),dM (i:=12) (by omega),dM (i:=7) (by omega)]
 simp only [Nat.mul_comm _ (2 ^ 25),Nat.mul_comm _ (2 ^ 20),Nat.mul_comm _ (2 ^ 15),Nat.mul_comm _ (2 ^ 12),Nat.mul_comm _ (2 ^ 7)]
 ac_rfl
end
noncomputable section
def IOk (x : Instr) : Prop:=(0 ≤ x.Rd ∧ x.Rd ≤ 31) ∧ (0 ≤ x.Rs ∧ x.Rs ≤ 31) ∧ (0 ≤ x.Rt ∧ x.Rt ≤ 31) ∧
  ((1 ≤ x.Op ∧ x.Op ≤ 11 ∧ x.Imm = 0) ∨ (12 ≤ x.Op ∧ x.Op ≤ 15 ∧ x.Rt = 0 ∧ -2048 ≤ x.Imm ∧ x.Imm ≤ 2047) ∨ (x.Op = 16 ∧ x.Rd = 0 ∧ -2048 ≤ x.Imm ∧ x.Imm ≤ 2047) ∨
   ((x.Op = 17 ∨ x.Op = 18) ∧ x.Rd = 0 ∧ -4096 ≤ x.Imm ∧ x.Imm ≤ 4094 ∧ x.Imm % 2 = 0) ∨ (x.Op = 19 ∧ x.Rs = 0 ∧ x.Rt = 0 ∧ 0 ≤ x.Imm ∧ x.Imm ≤ 1048575) ∨
   (x.Op = 20 ∧ x.Rs = 0 ∧ x.Rt = 0 ∧ -1048576 ≤ x.Imm ∧ x.Imm ≤ 1048574 ∧ x.Imm % 2 = 0) ∨ (x.Op = 21 ∧ x.Rd = 0 ∧ x.Rs = 0 ∧ x.Rt = 0 ∧ x.Imm = 0))
instance (x : Instr) : Decidable (IOk x):=by unfold IOk; infer_instance
theorem bS {α : Type} {b : Bool} {x y r : α} (h : b = true) (k : x = r) : sel b x y = r:=by subst h; exact k
def sx (v n : Nat) : Int:=bif Nat.ble (2 ^ (n - 1)) v then (v : Int) - ((2 ^ n : Nat) : Int) else v
theorem xa {v n : Nat} (hn : 1 ≤ n) (hv : v < 2 ^ n) : -((2 ^ (n - 1) : Nat) : Int) ≤ sx v n ∧ sx v n < ((2 ^ (n - 1) : Nat) : Int):=by
 unfold sx
 have h2 : 2 ^ n = 2 * 2 ^ (n - 1):=by rw [← Nat.pow_succ']; congr 1; omega
 rw [h2] at hv ⊢
 generalize 2 ^ (n - 1) = p at hv ⊢
 cases hb : Nat.ble p v with
 | true =>
  have:=Nat.le_of_ble_eq_true hb
  simp only [cond_true]
  omega
 | false =>
  have : ¬ p ≤ v:=fun h=>by rw [Nat.ble_eq_true_of_le h] at hb; cases hb
  simp only [cond_false]
  omega
theorem AJ (m n : Nat) (hn : 1 ≤ n) : ∃ q : Int,sx (2 * m) n = 2 * q:=by
 unfold sx
 rw [show 2 ^ n = 2 * 2 ^ (n - 1) by rw [← Nat.pow_succ']; congr 1; omega]
 generalize 2 ^ (n - 1) = p
 cases Nat.ble p (2 * m)
 ·exact ⟨m,by simp only [cond_false]; omega⟩
 ·exact ⟨m - p,by simp only [cond_true]; omega⟩
theorem xb (p v : Nat) : decide ((v : Int) ≥ (p : Int)) = Nat.ble p v:=by
 rw [Bool.eq_iff_iff]
 simp only [decide_eq_true_eq,Nat.ble_eq]
 omega
theorem nL (v n : Nat) (h1 : 1 ≤ n) (h2 : n ≤ 31) (hv : v < 2 ^ n) : cq (v : Int) (n : Int) = some (sx v n):=by
 have hp : 2 ^ n ≤ 2 ^ 31:=Nat.pow_le_pow_right (by omega) h2
 have h3 : (2 : Nat) ^ 31 = 2147483648:=by decide
 rw [h3] at hp
 have q1 : cl (w64 ((n : Int) - 1)) = some ((2 ^ (n - 1) : Nat) : Int):=by
  rw [aK (by omega) (by omega),show (n : Int) - 1 = ((n - 1 : Nat) : Int) by omega]
  exact sS (n - 1) (by omega)
 have q2:=sS n (by omega)
 have hb : Nat.ble (2 ^ (n - 1)) v = Nat.ble (2 ^ (n - 1)) v:=rfl
 unfold cq sx ax
 generalize 2 ^ n = N at q2 hv hp ⊢
 generalize 2 ^ (n - 1) = M at q1 ⊢
 have e1 : (decide ((n : Int) ≥ 1) && decide ((n : Int) ≤ 32)) = true:=by rw [decide_eq_true (by omega),decide_eq_true (by omega)]; rfl
 have e2 : (decide ((v : Int) ≥ 0) && decide ((v : Int) ≤ (w64 ((N : Int) - 1)))) = true:=by rw [aK (by omega) (by omega),decide_eq_true (by omega),decide_eq_true (by omega)]; rfl
 refine aa (congrArg some e1) (aa (y:=false) ?_ ?_)
 ·refine ab rfl (aa q2 ?_)
  rw [e2]
  rfl
 ·refine ab rfl (aa q1 ?_)
  rw [xb]
  cases Nat.ble M v
  ·rfl
  ·refine bS rfl (aa q2 ?_)
   rw [aK (by omega) (by omega)]
   rfl
theorem dm {r a b m p q : Nat} (h : r = (a * q + m) * p + b) (hb : b < p) (hm : m < q) : r / p % q = m:=by
 subst h
 rw [Nat.add_comm,Nat.add_mul_div_right _ _ (by omega),Nat.div_eq_of_lt hb,Nat.zero_add,Nat.add_comm,Nat.add_mul_mod_self_right,Nat.mod_eq_of_lt hm]
theorem oc {i : Nat} (h : i < 21) : i = 0 ∨ i = 1 ∨ i = 2 ∨ i = 3 ∨ i = 4 ∨ i = 5 ∨ i = 6 ∨ i = 7 ∨ i = 8 ∨ i = 9 ∨ i = 10 ∨ i = 11 ∨ i = 12 ∨ i = 13 ∨ i = 14 ∨ i = 15 ∨ i = 16 ∨ i = 17 ∨ i = 18 ∨ i = 19 ∨ i = 20:=by omega
def t3 (i : Nat) : Nat:=[0,0,0,4,6,7,6,4,1,5,2,0,3,2,0,2,0,1,0,0,0].getD i 0
def t7 (i : Nat) : Nat:=[0,32,1,1,1,0,0,0,0,32,0].getD i 0
def tO (i : Nat) : Nat:=[51,51,51,51,51,51,51,51,51,51,51,19,19,3,103,35,99,99,55,111,115].getD i 0
theorem xc {k f : Nat} (hk : k < 21) (h : nth [0,0,0,4,6,7,6,4,1,5,2,0,3,2,0,2,0,1,0,0,0] (k : Int) = some (f : Int)) : f = t3 k:=by
 rcases oc hk with rfl | rfl | rfl | rfl | rfl | rfl | rfl | rfl | rfl | rfl | rfl | rfl | rfl | rfl | rfl | rfl | rfl | rfl | rfl | rfl | rfl
 all_goals (have k':=o9 h; simp only [t3]; exact (Int.ofNat.inj k').symm)
theorem BO {k f : Nat} (hk : k < 11) (h : nth [0,32,1,1,1,0,0,0,0,32,0] (k : Int) = some (f : Int)) : f = t7 k:=by
 rcases (by omega : k = 0 ∨ k = 1 ∨ k = 2 ∨ k = 3 ∨ k = 4 ∨ k = 5 ∨ k = 6 ∨ k = 7 ∨ k = 8 ∨ k = 9 ∨ k = 10) with rfl | rfl | rfl | rfl | rfl | rfl | rfl | rfl | rfl | rfl | rfl
 all_goals (have k':=o9 h; simp only [t7]; exact (Int.ofNat.inj k').symm)
theorem Cd {k : Nat} (hk : k < 11) : tO k = 51:=by
 rcases (by omega : k = 0 ∨ k = 1 ∨ k = 2 ∨ k = 3 ∨ k = 4 ∨ k = 5 ∨ k = 6 ∨ k = 7 ∨ k = 8 ∨ k = 9 ∨ k = 10) with rfl | rfl | rfl | rfl | rfl | rfl | rfl | rfl | rfl | rfl | rfl <;> rfl
theorem BP {imm : Int} {m : Nat} (hb : -2048 ≤ imm ∧ imm ≤ 2047) (hm : (m : Int) = imm % 4096) : sx m 12 = imm:=by
 unfold sx
 rw [show ((2 ^ 12 : Nat) : Int) = 4096 from rfl,show (2 ^ (12 - 1) : Nat) = 2048 from rfl]
 cases h : Nat.ble 2048 m
 ·have h' : ¬ 2048 ≤ m:=fun hh=>by rw [Nat.ble_eq_true_of_le hh] at h; cases h
  simp only [cond_false]; omega
 ·have h':=Nat.le_of_ble_eq_true h
  simp only [cond_true]; omega
theorem Ce {imm : Int} {m : Nat} (hb : -4096 ≤ imm ∧ imm ≤ 4095) (hm : (m : Int) = imm % 8192) : sx m 13 = imm:=by
 unfold sx
 rw [show ((2 ^ 13 : Nat) : Int) = 8192 from rfl,show (2 ^ (13 - 1) : Nat) = 4096 from rfl]
 cases h : Nat.ble 4096 m
 ·have h' : ¬ 4096 ≤ m:=fun hh=>by rw [Nat.ble_eq_true_of_le hh] at h; cases h
  simp only [cond_false]; omega
 ·have h':=Nat.le_of_ble_eq_true h
  simp only [cond_true]; omega
theorem Cf {imm : Int} {m : Nat} (hb : -1048576 ≤ imm ∧ imm ≤ 1048575) (hm : (m : Int) = imm % 2097152) : sx m 21 = imm:=by
 unfold sx
 rw [show ((2 ^ 21 : Nat) : Int) = 2097152 from congrArg (fun n : Nat=>(n : Int)) (show (2 ^ 21 : Nat) = 2097152 from rfl),show (2 ^ (21 - 1) : Nat) = 1048576 from rfl]
 cases h : Nat.ble 1048576 m
 ·have h' : ¬ 1048576 ≤ m:=fun hh=>by rw [Nat.ble_eq_true_of_le hh] at h; cases h
  simp only [cond_false]; omega
 ·have h':=Nat.le_of_ble_eq_true h
  simp only [cond_true]; omega
def Fl (i : Instr) (r : Nat) : Prop:=∃ k : Nat,k < 21 ∧ i.Op = (k : Int) + 1 ∧ r % 128 = tO k ∧ (k < 18 → r / 4096 % 8 = t3 k) ∧ (k < 11 → r / 33554432 % 128 = t7 k) ∧ aZ i.Op (r : Int) = some i
theorem Cg {k d s t f3 f7 : Nat} (hk : k < 11) (hd : d < 32) (hs : s < 32) (ht : t < 32) (h3 : f3 = t3 k) (h3' : f3 < 8) (h7 : f7 = t7 k) (h7' : f7 < 128) : Fl ⟨(k : Int) + 1,d,s,t,0⟩ (f7 * 2 ^ 25 + t * 2 ^ 20 + (s * 2 ^ 15 + f3 * 2 ^ 12 + 51) + d * 2 ^ 7):=by
 generalize hr : f7 * 2 ^ 25 + t * 2 ^ 20 + (s * 2 ^ 15 + f3 * 2 ^ 12 + 51) + d * 2 ^ 7 = r
 simp only [Nat.reducePow] at hr
 have hu : r < 4294967296:=by omega
 have b1:=az r 7 5 hu (by omega) (by omega) (by omega)
 have b2:=az r 15 5 hu (by omega) (by omega) (by omega)
 have b3:=az r 20 5 hu (by omega) (by omega) (by omega)
 rw [show r / 2 ^ 7 % 2 ^ 5 = d by simp only [Nat.reducePow]; omega] at b1
 rw [show r / 2 ^ 15 % 2 ^ 5 = s by simp only [Nat.reducePow]; omega] at b2
 rw [show r / 2 ^ 20 % 2 ^ 5 = t by simp only [Nat.reducePow]; omega] at b3
 refine ⟨k,by omega,rfl,by rw [Cd hk]; omega,fun _=>by omega,fun _=>by omega,?_⟩
 show aZ ((k : Int) + 1) (r : Int) = _
 unfold aZ
 exact aa b1 (aa b2 (aa b3 (bS (decide_eq_true (by omega)) rfl)))
theorem Ch {k d s f3 o m : Nat} {imm : Int} (hk : 11 ≤ k) (hk2 : k < 15) (hd : d < 32) (hs : s < 32) (h3 : f3 = t3 k) (h3' : f3 < 8) (ho : o = tO k) (ho' : o < 128) (hb : -2048 ≤ imm ∧ imm ≤ 2047) (hm : (m : Int) = imm % 4096) : Fl ⟨(k : Int) + 1,d,s,0,imm⟩ (m * 2 ^ 20 + (s * 2 ^ 15 + f3 * 2 ^ 12 + o) + d * 2 ^ 7):=by
 have x1:=nL m 12 (by omega) (by omega) (by omega)
 rw [BP hb hm] at x1
 generalize hr : m * 2 ^ 20 + (s * 2 ^ 15 + f3 * 2 ^ 12 + o) + d * 2 ^ 7 = r
 simp only [Nat.reducePow] at hr
 have hu : r < 4294967296:=by omega
 have b1:=az r 7 5 hu (by omega) (by omega) (by omega)
 have b2:=az r 15 5 hu (by omega) (by omega) (by omega)
 have b3:=az r 20 5 hu (by omega) (by omega) (by omega)
 have b4:=az r 20 12 hu (by omega) (by omega) (by omega)
 rw [show r / 2 ^ 7 % 2 ^ 5 = d by simp only [Nat.reducePow]; omega] at b1
 rw [show r / 2 ^ 15 % 2 ^ 5 = s by simp only [Nat.reducePow]; omega] at b2
 rw [show r / 2 ^ 20 % 2 ^ 12 = m by simp only [Nat.reducePow]; omega] at b4
 refine ⟨k,by omega,rfl,by omega,fun _=>by omega,fun _=>by omega,?_⟩
 show aZ ((k : Int) + 1) (r : Int) = _
 unfold aZ
 exact aa b1 (aa b2 (aa b3 (ab (decide_eq_false (by omega)) (bS (decide_eq_true (by omega)) (aa b4 (aa x1 rfl))))))
theorem Ci {s t f3 h7 l5 m : Nat} {imm : Int} (hs : s < 32) (ht : t < 32) (h3 : f3 = t3 15) (h3' : f3 < 8) (h1 : h7 < 128) (h2 : l5 < 32) (hrel : h7 * 32 + l5 = m) (hb : -2048 ≤ imm ∧ imm ≤ 2047) (hm : (m : Int) = imm % 4096) : Fl ⟨16,0,s,t,imm⟩ (h7 * 2 ^ 25 + t * 2 ^ 20 + (s * 2 ^ 15 + f3 * 2 ^ 12 + 35) + l5 * 2 ^ 7):=by
 have x1:=nL m 12 (by omega) (by omega) (by omega)
 rw [BP hb hm,← hrel] at x1
 have e1 : w64 (w64 ((h7 : Int) * 32) + (l5 : Int)) = ((h7 * 32 + l5 : Nat) : Int):=by rw [aK (x:=(h7 : Int) * 32) (by omega) (by omega),aK (by omega) (by omega)]; omega
 rw [← e1] at x1
 generalize hr : h7 * 2 ^ 25 + t * 2 ^ 20 + (s * 2 ^ 15 + f3 * 2 ^ 12 + 35) + l5 * 2 ^ 7 = r
 simp only [Nat.reducePow] at hr
 have hu : r < 4294967296:=by omega
 have b1:=az r 7 5 hu (by omega) (by omega) (by omega)
 have b2:=az r 15 5 hu (by omega) (by omega) (by omega)
 have b3:=az r 20 5 hu (by omega) (by omega) (by omega)
 have b4:=az r 25 7 hu (by omega) (by omega) (by omega)
 rw [show r / 2 ^ 7 % 2 ^ 5 = l5 from dm (a:=h7 * 8192 + t * 256 + s * 8 + f3) (b:=35) (by simp only [Nat.reducePow]; omega) (by simp only [Nat.reducePow]; omega) (by simp only [Nat.reducePow]; omega)] at b1
 rw [show r / 2 ^ 15 % 2 ^ 5 = s from dm (a:=h7 * 32 + t) (b:=f3 * 4096 + l5 * 128 + 35) (by simp only [Nat.reducePow]; omega) (by simp only [Nat.reducePow]; omega) (by simp only [Nat.reducePow]; omega)] at b2
 rw [show r / 2 ^ 20 % 2 ^ 5 = t from dm (a:=h7) (b:=s * 32768 + f3 * 4096 + l5 * 128 + 35) (by simp only [Nat.reducePow]; omega) (by simp only [Nat.reducePow]; omega) (by simp only [Nat.reducePow]; omega)] at b3
 rw [show r / 2 ^ 25 % 2 ^ 7 = h7 from dm (a:=0) (b:=t * 1048576 + s * 32768 + f3 * 4096 + l5 * 128 + 35) (by simp only [Nat.reducePow]; omega) (by simp only [Nat.reducePow]; omega) (by simp only [Nat.reducePow]; omega)] at b4
 refine ⟨15,by omega,rfl,by rw [show tO 15 = 35 from rfl]; omega,fun _=>(dm (r:=r) (p:=4096) (q:=8) (m:=f3) (a:=h7 * 1024 + t * 32 + s) (b:=l5 * 128 + 35) (by omega) (by omega) h3').trans h3,fun _=>by omega,?_⟩
 unfold aZ
 exact aa b1 (aa b2 (aa b3 (ab rfl (ab rfl (bS rfl (aa b4 (aa x1 rfl)))))))
theorem Cj {k s t f3 v1 v2 v3 v4 m : Nat} {imm : Int} (hk : k = 16 ∨ k = 17) (hs : s < 32) (ht : t < 32) (h3 : f3 = t3 k) (h3' : f3 < 8) (l1 : v1 < 2) (l2 : v2 < 64) (l3 : v3 < 16) (l4 : v4 < 2) (hrel : v1 * 4096 + v4 * 2048 + v2 * 32 + v3 * 2 = m) (hb : -4096 ≤ imm ∧ imm ≤ 4095) (hm : (m : Int) = imm % 8192) :
  Fl ⟨(k : Int) + 1,0,s,t,imm⟩ (v1 * 2 ^ 31 + v2 * 2 ^ 25 + t * 2 ^ 20 + (s * 2 ^ 15 + f3 * 2 ^ 12 + 99) + v3 * 2 ^ 8 + v4 * 2 ^ 7):=by
 have x1:=nL m 13 (by omega) (by omega) (by omega)
 rw [Ce hb hm,← hrel] at x1
 have e1 : w64 (w64 (w64 (w64 ((v1 : Int) * 4096) + w64 ((v4 : Int) * 2048)) + w64 ((v2 : Int) * 32)) + w64 ((v3 : Int) * 2)) = ((v1 * 4096 + v4 * 2048 + v2 * 32 + v3 * 2 : Nat) : Int):=by
  rw [aK (x:=(v1 : Int) * 4096) (by omega) (by omega),aK (x:=(v4 : Int) * 2048) (by omega) (by omega),aK (x:=(v2 : Int) * 32) (by omega) (by omega),aK (x:=(v3 : Int) * 2) (by omega) (by omega),aK (x:=(v1 : Int) * 4096 + (v4 : Int) * 2048) (by omega) (by omega),aK (x:=(v1 : Int) * 4096 + (v4 : Int) * 2048 + (v2 : Int) * 32) (by omega) (by omega),aK (by omega) (by omega)]
  omega
 rw [← e1] at x1
 generalize hr : v1 * 2 ^ 31 + v2 * 2 ^ 25 + t * 2 ^ 20 + (s * 2 ^ 15 + f3 * 2 ^ 12 + 99) + v3 * 2 ^ 8 + v4 * 2 ^ 7 = r
 simp only [Nat.reducePow] at hr
 have hu : r < 4294967296:=by omega
 have b1:=az r 7 5 hu (by omega) (by omega) (by omega)
 have b2:=az r 15 5 hu (by omega) (by omega) (by omega)
 have b3:=az r 20 5 hu (by omega) (by omega) (by omega)
 have b4:=az r 31 1 hu (by omega) (by omega) (by omega)
 have b5:=az r 7 1 hu (by omega) (by omega) (by omega)
 have b6:=az r 25 6 hu (by omega) (by omega) (by omega)
 have b7:=az r 8 4 hu (by omega) (by omega) (by omega)
 rw [show r / 2 ^ 15 % 2 ^ 5 = s from dm (a:=v1 * 2048 + v2 * 32 + t) (b:=f3 * 4096 + v3 * 256 + v4 * 128 + 99) (by simp only [Nat.reducePow]; omega) (by simp only [Nat.reducePow]; omega) (by simp only [Nat.reducePow]; omega)] at b2
 rw [show r / 2 ^ 20 % 2 ^ 5 = t from dm (a:=v1 * 64 + v2) (b:=s * 32768 + f3 * 4096 + v3 * 256 + v4 * 128 + 99) (by simp only [Nat.reducePow]; omega) (by simp only [Nat.reducePow]; omega) (by simp only [Nat.reducePow]; omega)] at b3
 rw [show r / 2 ^ 31 % 2 ^ 1 = v1 from dm (a:=0) (b:=v2 * 33554432 + t * 1048576 + s * 32768 + f3 * 4096 + v3 * 256 + v4 * 128 + 99) (by simp only [Nat.reducePow]; omega) (by simp only [Nat.reducePow]; omega) (by simp only [Nat.reducePow]; omega)] at b4
 rw [show r / 2 ^ 7 % 2 ^ 1 = v4 from dm (a:=v1 * 8388608 + v2 * 131072 + t * 4096 + s * 128 + f3 * 16 + v3) (b:=99) (by simp only [Nat.reducePow]; omega) (by simp only [Nat.reducePow]; omega) (by simp only [Nat.reducePow]; omega)] at b5
 rw [show r / 2 ^ 25 % 2 ^ 6 = v2 from dm (a:=v1) (b:=t * 1048576 + s * 32768 + f3 * 4096 + v3 * 256 + v4 * 128 + 99) (by simp only [Nat.reducePow]; omega) (by simp only [Nat.reducePow]; omega) (by simp only [Nat.reducePow]; omega)] at b6
 rw [show r / 2 ^ 8 % 2 ^ 4 = v3 from dm (a:=v1 * 524288 + v2 * 8192 + t * 256 + s * 8 + f3) (b:=v4 * 128 + 99) (by simp only [Nat.reducePow]; omega) (by simp only [Nat.reducePow]; omega) (by simp only [Nat.reducePow]; omega)] at b7
 refine ⟨k,by omega,rfl,by rcases hk with rfl | rfl <;> (show r % 128 = 99; omega),fun _=>(dm (r:=r) (p:=4096) (q:=8) (m:=f3) (a:=v1 * 65536 + v2 * 1024 + t * 32 + s) (b:=v3 * 256 + v4 * 128 + 99) (by omega) (by omega) h3').trans h3,fun _=>by omega,?_⟩
 show aZ ((k : Int) + 1) (r : Int) = _
 unfold aZ
 refine aa b1 (aa b2 (aa b3 (ab (decide_eq_false (by omega)) (ab (decide_eq_false (by omega)) (ab ?_ (bS ?_ (aa b4 (aa b5 (aa b6 (aa b7 (aa x1 rfl)))))))))))
 ·rcases hk with rfl | rfl <;> rfl
 ·rcases hk with rfl | rfl <;> rfl
theorem Cm {d m : Nat} {imm : Int} (hd : d < 32) (hl : m < 1048576) (hm : imm = (m : Int)) : Fl ⟨19,d,0,0,imm⟩ (m * 2 ^ 12 + d * 2 ^ 7 + 55):=by
 subst hm
 generalize hr : m * 2 ^ 12 + d * 2 ^ 7 + 55 = r
 simp only [Nat.reducePow] at hr
 have hu : r < 4294967296:=by omega
 have b1:=az r 7 5 hu (by omega) (by omega) (by omega)
 have b2:=az r 15 5 hu (by omega) (by omega) (by omega)
 have b3:=az r 20 5 hu (by omega) (by omega) (by omega)
 have b4:=az r 12 20 hu (by omega) (by omega) (by omega)
 rw [show r / 2 ^ 7 % 2 ^ 5 = d by simp only [Nat.reducePow]; omega] at b1
 rw [show r / 2 ^ 12 % 2 ^ 20 = m by simp only [Nat.reducePow]; omega] at b4
 refine ⟨18,by omega,rfl,by rw [show tO 18 = 55 from rfl]; omega,fun h=>absurd h (by omega),fun h=>absurd h (by omega),?_⟩
 unfold aZ
 exact aa b1 (aa b2 (aa b3 (ab rfl (ab rfl (ab rfl (ab rfl (bS rfl (aa b4 rfl))))))))
theorem Cn {d v1 v2 v3 v4 m : Nat} {imm : Int} (hd : d < 32) (l1 : v1 < 2) (l2 : v2 < 1024) (l3 : v3 < 2) (l4 : v4 < 256) (hrel : v1 * 1048576 + v4 * 4096 + v3 * 2048 + v2 * 2 = m) (hb : -1048576 ≤ imm ∧ imm ≤ 1048575) (hm : (m : Int) = imm % 2097152) :
    Fl ⟨20, d, 0, 0, imm⟩ (v1 * 2 ^ 31 + v2 * 2 ^ 21 + v3 * 2 ^ 20 + v4 * 2 ^ 12 + d * 2 ^ 7 + 111) := by
  have x1 := nL m 21 (by omega) (by omega) (by have : (2 : Nat) ^ 21 = 2097152 := rfl
                                               omega)
  rw [Cf hb hm, ← hrel] at x1
  have e1 : w64 (w64 (w64 (w64 ((v1 : Int) * 1048576) + w64 ((v4 : Int) * 4096)) + w64 ((v3 : Int) * 2048)) + w64 ((v2 : Int) * 2)) = ((v1 * 1048576 + v4 * 4096 + v3 * 2048 + v2 * 2 : Nat) : Int) := by
    rw [aK (x := (v1 : Int) * 1048576) (by omega) (by omega), aK (x := (v4 : Int) * 4096) (by omega) (by omega), aK (x := (v3 : Int) * 2048) (by omega) (by omega), aK (x := (v2 : Int) * 2) (by omega) (by omega), aK (x := (v1 : Int) * 1048576 + (v4 : Int) * 4096) (by omega) (by omega), aK (x := (v1 : Int) * 1048576 + (v4 : Int) * 4096 + (v3 : Int) * 2048) (by omega) (by omega), aK (by omega) (by omega)]
    omega
  rw [← e1] at x1
  generalize hr : v1 * 2 ^ 31 + v2 * 2 ^ 21 + v3 * 2 ^ 20 + v4 * 2 ^ 12 + d * 2 ^ 7 + 111 = r
  simp only [Nat.reducePow] at hr
  have hu : r < 4294967296 := by omega
  have b1 := az r 7 5 hu (by omega) (by omega) (by omega)
  have b2 := az r 15 5 hu (by omega) (by omega) (by omega)
  have b3 := az r 20 5 hu (by omega) (by omega) (by omega)
  have b4 := az r 31 1 hu (by omega) (by omega) (by omega)
  have b5 := az r 12 8 hu (by omega) (by omega) (by omega)
  have b6 := az r 20 1 hu (by omega) (by omega) (by omega)
  have b7 := az r 21 10 hu (by omega) (by omega) (by omega)
  rw [show r / 2 ^ 7 % 2 ^ 5 = d from dm (a := v1 * 524288 + v2 * 512 + v3 * 256 + v4) (b := 111) (by simp only [Nat.reducePow]; omega) (by simp only [Nat.reducePow]; omega) (by simp only [Nat.reducePow]; omega)] at b1
  rw [show r / 2 ^ 31 % 2 ^ 1 = v1 from dm (a := 0) (b := v2 * 2097152 + v3 * 1048576 + v4 * 4096 + d * 128 + 111) (by simp only [Nat.reducePow]; omega) (by simp only [Nat.reducePow]; omega) (by simp only [Nat.reducePow]; omega)] at b4
  rw [show r / 2 ^ 12 % 2 ^ 8 = v4 from dm (a := v1 * 2048 + v2 * 2 + v3) (b := d * 128 + 111) (by simp only [Nat.reducePow]; omega) (by simp only [Nat.reducePow]; omega) (by simp only [Nat.reducePow]; omega)] at b5
  rw [show r / 2 ^ 20 % 2 ^ 1 = v3 from dm (a := v1 * 1024 + v2) (b := v4 * 4096 + d * 128 + 111) (by simp only [Nat.reducePow]; omega) (by simp only [Nat.reducePow]; omega) (by simp only [Nat.reducePow]; omega)] at b6
  rw [show r / 2 ^ 21 % 2 ^ 10 = v2 from dm (a := v1) (b := v3 * 1048576 + v4 * 4096 + d * 128 + 111) (by simp only [Nat.reducePow]; omega) (by simp only [Nat.reducePow]; omega) (by simp only [Nat.reducePow]; omega)] at b7
  refine ⟨19, by omega, rfl, by rw [show tO 19 = 111 from rfl]; omega, fun h => absurd h (by omega), fun h => absurd h (by omega), ?_⟩
  unfold aZ
  exact aa b1 (aa b2 (aa b3 (ab rfl (ab rfl (ab rfl (ab rfl (ab rfl (bS rfl (aa b4 (aa b5 (aa b6 (aa b7 (aa x1 rfl)))))))))))))
theorem Co : Fl ⟨21,0,0,0,0⟩ 115:=by
 have b1:=az 115 7 5 (by omega) (by omega) (by omega) (by omega)
 have b2:=az 115 15 5 (by omega) (by omega) (by omega) (by omega)
 have b3:=az 115 20 5 (by omega) (by omega) (by omega) (by omega)
 refine ⟨20,by omega,rfl,rfl,fun h=>absurd h (by omega),fun h=>absurd h (by omega),?_⟩
 unfold aZ
 exact aa b1 (aa b2 (aa b3 (ab rfl (ab rfl (ab rfl (ab rfl (ab rfl (ab rfl rfl))))))))
end
noncomputable section
theorem di {a b : Nat} (h : a + b < 9223372036854775808) : w64 ((a : Int) + (b : Int)) = ((a + b : Nat) : Int):=by rw [aK (by omega) (by omega)]; omega
theorem uB {op rd rs rt imm : Int} {k srs f3 opc : Nat} (hk : op = (k : Int) + 1) (hk2 : k < 21) (hrs : rs = srs) (hs : srs < 32) (hf : nth [0,0,0,4,6,7,6,4,1,5,2,0,3,2,0,2,0,1,0,0,0] (k : Int) = some (f3 : Int)) (h3 : f3 < 8) (ho : opc < 128) :
  fG (Instr.mk op rd rs rt imm) (opc : Int) = some ((srs * 2 ^ 15 + f3 * 2 ^ 12 + opc : Nat) : Int):=by
 unfold fG ga
 simp only
 rw [hk,hrs,show (k : Int) + 1 - 1 = k by omega,aK (x:=(k : Int)) (by omega) (by omega),hf,show (15 : Int) = ((15 : Nat) : Int) from rfl,er srs 15 (by omega) (by omega)]
 simp only [ob9]
 rw [show (12 : Int) = ((12 : Nat) : Int) from rfl,er f3 12 (by omega) (by omega)]
 simp only [ob9]
 rw [di (by omega),di (by omega)]
def Enc (i : Instr) : Prop:=∃ r : Nat,r < 4294967296 ∧ (∀ k : Nat,i.Op = (k : Int) + 1 → 11 ≤ k → k ≤ 17 → nth [0,0,0,4,6,7,6,4,1,5,2,0,3,2,0,2,0,1,0,0,0] (k : Int) = some ((r / 4096 % 8 : Nat) : Int)) ∧ bG i = some (r : Int) ∧ (bh i = some true → bL i = some ((r : Int),true)) ∧ (IOk i → Fl i r)
theorem kJ {i : Instr} {r : Option (Int × Bool)} (hv : bh i = some true) : bL i = (nth kj (w64 (i.Op - 1))).bind fun x1=>(bW i.Imm).bind fun y2=>(bC i.Op).bind fun y3 =>
  sel (y3 == 82) (some (aF .or .i64 (aF .or .i64 (w64 (x1.funct7 * 2 ^ (min 25 (IntKind.bits .i64)))) (aF .or .i64 (aF .or .i64 (aF .or .i64 (w64 (i.Rt * 2 ^ (min 20 (IntKind.bits .i64)))) (w64 (i.Rs * 2 ^ (min 15 (IntKind.bits .i64))))) (w64 (x1.funct3 * 2 ^ (min 12 (IntKind.bits .i64))))) x1.opcode)) (w64 (i.Rd * 2 ^ (min 7 (IntKind.bits .i64)))),true)) <|
  sel (y3 == 73) ((ay 0 12 20 y2).bind fun y4 =>
  some (aF .or .i64 (aF .or .i64 y4 (aF .or .i64 (aF .or .i64 (aF .or .i64 (w64 (i.Rt * 2 ^ (min 20 (IntKind.bits .i64)))) (w64 (i.Rs * 2 ^ (min 15 (IntKind.bits .i64))))) (w64 (x1.funct3 * 2 ^ (min 12 (IntKind.bits .i64))))) x1.opcode)) (w64 (i.Rd * 2 ^ (min 7 (IntKind.bits .i64)))),true)) <|
  sel (y3 == 83) ((ay 5 7 25 y2).bind fun y5=>(ay 0 5 7 y2).bind fun y6 =>
  some (aF .or .i64 (aF .or .i64 y5 (aF .or .i64 (aF .or .i64 (aF .or .i64 (w64 (i.Rt * 2 ^ (min 20 (IntKind.bits .i64)))) (w64 (i.Rs * 2 ^ (min 15 (IntKind.bits .i64))))) (w64 (x1.funct3 * 2 ^ (min 12 (IntKind.bits .i64))))) x1.opcode)) y6,true)) <|
  sel (y3 == 66) ((ay 12 1 31 y2).bind fun y7=>(ay 5 6 25 y2).bind fun y8=>(ay 1 4 8 y2).bind fun y9=>(ay 11 1 7 y2).bind fun y10 =>
  some (aF .or .i64 (aF .or .i64 (aF .or .i64 (aF .or .i64 y7 y8) (aF .or .i64 (aF .or .i64 (aF .or .i64 (w64 (i.Rt * 2 ^ (min 20 (IntKind.bits .i64)))) (w64 (i.Rs * 2 ^ (min 15 (IntKind.bits .i64))))) (w64 (x1.funct3 * 2 ^ (min 12 (IntKind.bits .i64))))) x1.opcode)) y9) y10,true)) <|
  sel (y3 == 85) ((ay 0 20 12 y2).bind fun y11=>some (aF .or .i64 (aF .or .i64 y11 (w64 (i.Rd * 2 ^ (min 7 (IntKind.bits .i64))))) x1.opcode,true)) <|
  sel (y3 == 74) ((ay 20 1 31 y2).bind fun y12=>(ay 1 10 21 y2).bind fun y13=>(ay 11 1 20 y2).bind fun y14=>(ay 12 8 12 y2).bind fun y15 =>
  some (aF .or .i64 (aF .or .i64 (aF .or .i64 (aF .or .i64 (aF .or .i64 y12 y13) y14) y15) (w64 (i.Rd * 2 ^ (min 7 (IntKind.bits .i64))))) x1.opcode,true)) <|
  some (x1.opcode,true):=by
 unfold bL
 rw [hv]
 rfl
theorem Cp {n : Nat} (h : n < 128) : w64 ((n : Int) * 2 ^ (min 25 (IntKind.bits .i64))) = ((n * 2 ^ 25 : Nat) : Int):=gi (k:=25) (by omega)
theorem Bb {n : Nat} (h : n < 32) : w64 ((n : Int) * 2 ^ (min 20 (IntKind.bits .i64))) = ((n * 2 ^ 20 : Nat) : Int):=gi (k:=20) (by omega)
theorem zQ {n : Nat} (h : n < 32) : w64 ((n : Int) * 2 ^ (min 15 (IntKind.bits .i64))) = ((n * 2 ^ 15 : Nat) : Int):=gi (k:=15) (by omega)
theorem zR {n : Nat} (h : n < 8) : w64 ((n : Int) * 2 ^ (min 12 (IntKind.bits .i64))) = ((n * 2 ^ 12 : Nat) : Int):=gi (k:=12) (by omega)
theorem sh7 {n : Nat} (h : n < 32) : w64 ((n : Int) * 2 ^ (min 7 (IntKind.bits .i64))) = ((n * 2 ^ 7 : Nat) : Int):=gi (k:=7) (by omega)
theorem cy {a b : Nat} (ha : a < 4294967296) (hb : b < 4294967296) : a ||| b < 4294967296:=Nat.or_lt_two_pow (n:=32) ha hb
theorem lC {a b : Nat} (ha : a < 4294967296) (hb : b < 4294967296) : aF .or .i64 (a : Int) (b : Int) = ((a ||| b : Nat) : Int):=Ba (by omega) (by omega)
theorem jp {x : Int} {n : Int} (h0 : 0 ≤ x) (h1 : x ≤ n) : ∃ k : Nat,x = k ∧ (k : Int) ≤ n:=⟨x.toNat,by omega,by omega⟩
theorem AK {op rd rs rt : Int} (h : 1 ≤ op ∧ op ≤ 11) (hd : 0 ≤ rd ∧ rd ≤ 31) (hs : 0 ≤ rs ∧ rs ≤ 31) (ht : 0 ≤ rt ∧ rt ≤ 31) : Enc (Instr.mk op rd rs rt 0):=by
 obtain ⟨d,rfl,hd2⟩:=jp hd.1 hd.2
 obtain ⟨s,rfl,hs2⟩:=jp hs.1 hs.2
 obtain ⟨t,rfl,ht2⟩:=jp ht.1 ht.2
 obtain ⟨k,rfl⟩ : ∃ k : Nat,op = (k : Int) + 1:=⟨(op - 1).toNat,by omega⟩
 obtain ⟨x,f3,f7,opc,g1,g2,g3,g4,g5,g6,g7,g8,g9,_⟩:=tab k (by omega)
 obtain ⟨g10,rfl⟩:=g9 (by omega)
 obtain ⟨u,u1,u2,u3,_⟩:=j5 (x:=0) (by omega) (by omega)
 refine ⟨f7 * 2 ^ 25 + t * 2 ^ 20 + (s * 2 ^ 15 + f3 * 2 ^ 12 + 51) + d * 2 ^ 7,by omega,(fun k' hk h1 h2=>by simp only at hk; omega),?_,fun hv=>?_,fun _=>Cg (by omega) (by omega) (by omega) (by omega) (xc (by omega) g8) g5 (BO (by omega) g10) g6⟩
 ·unfold bG
  simp only
  have c : ∀ n : Int,12 ≤ n → (((k : Int) + 1) == n) = false:=fun n hn=>by simp; omega
  rw [c 12 (by omega),c 13 (by omega),c 14 (by omega),c 15 (by omega),c 16 (by omega),c 17 (by omega),c 18 (by omega),c 19 (by omega),c 20 (by omega),c 21 (by omega)]
  simp only [sel,ob9]
  have hm:=uB (op:=(k : Int) + 1) (rd:=d) (rs:=s) (rt:=t) (imm:=0) (k:=k) (srs:=s) (f3:=f3) (opc:=51) rfl (by omega) rfl (by omega) g8 g5 (by omega)
  rw [show ((51 : Nat) : Int) = 51 from rfl] at hm
  rw [hm]
  unfold gb
  rw [show (k : Int) + 1 - 1 = k by omega,aK (x:=(k : Int)) (by omega) (by omega),g10]
  simp only [ob9]
  rw [show (25 : Int) = ((25 : Nat) : Int) from rfl,show (20 : Int) = ((20 : Nat) : Int) from rfl,show (7 : Int) = ((7 : Nat) : Int) from rfl,er f7 25 (by omega) (by omega),er t 20 (by omega) (by omega),er d 7 (by omega) (by omega)]
  simp only [ob9]
  rw [di (by omega),di (by omega),di (by omega)]
 ·rw [kJ (r:=none) hv]
  simp only
  rw [show (k : Int) + 1 - 1 = k by omega,aK (x:=(k : Int)) (by omega) (by omega),g1,u3,vg (by omega)]
  simp only [ob9,sel,Int.reduceBEq]
  rw [g2,g3,g4,Cp g6,Bb (by omega),zQ (by omega),zR g5,sh7 (by omega)]
  rw [lC (by omega) (by omega),lC (cy (by omega) (by omega)) (by omega),lC (cy (cy (by omega) (by omega)) (by omega)) (by omega),lC (by omega) (cy (cy (cy (by omega) (by omega)) (by omega)) (by omega)),
   lC (cy (by omega) (cy (cy (cy (by omega) (by omega)) (by omega)) (by omega))) (by omega),BN (by omega) (by omega) (by omega) (by omega) (by omega)]
theorem Bc {α : Type} (x y : α) : sel false x y = y:=rfl
theorem Bd {α : Type} (x y : α) : sel true x y = x:=rfl
theorem xF {x : Int} {u m p q low many : Nat} (hu : (u : Int) = x % (q : Int)) (hm : (m : Int) = x % p) (hp : 2 ^ (low + many) ∣ p) (hp2 : p ∣ q) : u / 2 ^ low % 2 ^ many = m / 2 ^ low % 2 ^ many:=by
 have e1 : u % p = m:=by
  have h1 : ((u % p : Nat) : Int) = (m : Int):=by
   rw [Int.natCast_emod,hu,hm]
   exact Int.emod_emod_of_dvd _ (Int.natCast_dvd_natCast.2 hp2)
  exact Int.ofNat.inj h1
 have e2 : ∀ n : Nat,n / 2 ^ low % 2 ^ many = n % 2 ^ (low + many) / 2 ^ low:=fun n=>by rw [Nat.pow_add,Nat.mod_mul_right_div_self]
 rw [e2 u,e2 m,← e1,Nat.mod_mod_of_dvd _ hp]
theorem pB {x : Int} {u m p low many : Nat} (hu : (u : Int) = x % 4294967296) (hm : (m : Int) = x % p) (hp : 2 ^ (low + many) ∣ p) (hp2 : ∃ c,4294967296 = p * c) : u / 2 ^ low % 2 ^ many = m / 2 ^ low % 2 ^ many:=xF (q:=4294967296) hu hm hp hp2
theorem Cr {m rs f3 opc rd : Nat} (h1 : opc < 128) (h2 : rd < 32) (h3 : f3 < 8) (h4 : rs < 32) :
  ((m * 2 ^ 20 ||| (0 ||| rs * 2 ^ 15 ||| f3 * 2 ^ 12 ||| opc)) ||| rd * 2 ^ 7) = m * 2 ^ 20 + (rs * 2 ^ 15 + f3 * 2 ^ 12 + opc) + rd * 2 ^ 7:=by
 have e : m * 2 ^ 20 + (rs * 2 ^ 15 + f3 * 2 ^ 12 + opc) + rd * 2 ^ 7 = 2 ^ 20 * m + (2 ^ 15 * rs + (2 ^ 12 * f3 + (2 ^ 7 * rd + opc))):=by omega
 rw [e,dM (i:=20) (by omega),dM (i:=15) (by omega),dM (i:=12) (by omega),dM (i:=7) (by omega)]
 simp only [Nat.mul_comm _ (2 ^ 20),Nat.mul_comm _ (2 ^ 15),Nat.mul_comm _ (2 ^ 12),Nat.mul_comm _ (2 ^ 7),Nat.zero_or]
 ac_rfl
theorem Cs {hi7 rt rs f3 lo5 : Nat} (h1 : rt < 32) (h2 : lo5 < 32) (h3 : f3 < 8) (h4 : rs < 32) :
  ((hi7 * 2 ^ 25 ||| (rt * 2 ^ 20 ||| rs * 2 ^ 15 ||| f3 * 2 ^ 12 ||| 35)) ||| lo5 * 2 ^ 7) = hi7 * 2 ^ 25 + rt * 2 ^ 20 + (rs * 2 ^ 15 + f3 * 2 ^ 12 + 35) + lo5 * 2 ^ 7:=BN (by omega) h2 h3 h4 h1
theorem Ct {v1 v2 rt rs f3 v3 v4 : Nat} (h1 : rt < 32) (h2 : v2 < 64) (h3 : f3 < 8) (h4 : rs < 32) (h5 : v3 < 16) (h6 : v4 < 2) :
  ((((v1 * 2 ^ 31 ||| v2 * 2 ^ 25) ||| (rt * 2 ^ 20 ||| rs * 2 ^ 15 ||| f3 * 2 ^ 12 ||| 99)) ||| v3 * 2 ^ 8) ||| v4 * 2 ^ 7) = v1 * 2 ^ 31 + v2 * 2 ^ 25 + rt * 2 ^ 20 + (rs * 2 ^ 15 + f3 * 2 ^ 12 + 99) + v3 * 2 ^ 8 + v4 * 2 ^ 7:=by
 have e : v1 * 2 ^ 31 + v2 * 2 ^ 25 + rt * 2 ^ 20 + (rs * 2 ^ 15 + f3 * 2 ^ 12 + 99) + v3 * 2 ^ 8 + v4 * 2 ^ 7 = 2 ^ 31 * v1 + (2 ^ 25 * v2 + (2 ^ 20 * rt + (2 ^ 15 * rs + (2 ^ 12 * f3 + (2 ^ 8 * v3 + (2 ^ 7 * v4 + 99)))))):=by omega
 rw [e,dM (i:=31) (by omega),dM (i:=25) (by omega),dM (i:=20) (by omega),dM (i:=15) (by omega),dM (i:=12) (by omega),dM (i:=8) (by omega),dM (i:=7) (by omega)]
 generalize 99 = q
 simp only [Nat.mul_comm _ (2 ^ 31),Nat.mul_comm _ (2 ^ 25),Nat.mul_comm _ (2 ^ 20),Nat.mul_comm _ (2 ^ 15),Nat.mul_comm _ (2 ^ 12),Nat.mul_comm _ (2 ^ 8),Nat.mul_comm _ (2 ^ 7)]
 ac_rfl
theorem Cu {u d : Nat} (h : d < 32) : (u * 2 ^ 12 ||| d * 2 ^ 7 ||| 55) = u * 2 ^ 12 + d * 2 ^ 7 + 55:=by
 have e : u * 2 ^ 12 + d * 2 ^ 7 + 55 = 2 ^ 12 * u + (2 ^ 7 * d + 55):=by omega
 rw [e,dM (i:=12) (by omega),dM (i:=7) (by omega)]
 generalize 55 = q
 simp only [Nat.mul_comm _ (2 ^ 12),Nat.mul_comm _ (2 ^ 7)]
 ac_rfl
theorem Cv {v1 v2 v3 v4 d : Nat} (h2 : v2 < 1024) (h3 : v3 < 2) (h4 : v4 < 256) (h5 : d < 32) :
  (((((v1 * 2 ^ 31 ||| v2 * 2 ^ 21) ||| v3 * 2 ^ 20) ||| v4 * 2 ^ 12) ||| d * 2 ^ 7) ||| 111) = v1 * 2 ^ 31 + v2 * 2 ^ 21 + v3 * 2 ^ 20 + v4 * 2 ^ 12 + d * 2 ^ 7 + 111:=by
 have e : v1 * 2 ^ 31 + v2 * 2 ^ 21 + v3 * 2 ^ 20 + v4 * 2 ^ 12 + d * 2 ^ 7 + 111 = 2 ^ 31 * v1 + (2 ^ 21 * v2 + (2 ^ 20 * v3 + (2 ^ 12 * v4 + (2 ^ 7 * d + 111)))):=by omega
 rw [e,dM (i:=31) (by omega),dM (i:=21) (by omega),dM (i:=20) (by omega),dM (i:=12) (by omega),dM (i:=7) (by omega)]
 generalize 111 = q
 simp only [Nat.mul_comm _ (2 ^ 31),Nat.mul_comm _ (2 ^ 21),Nat.mul_comm _ (2 ^ 20),Nat.mul_comm _ (2 ^ 12),Nat.mul_comm _ (2 ^ 7)]
 ac_rfl
theorem or4 {a b c d : Nat} (h1 : a < 4294967296) (h2 : b < 4294967296) (h3 : c < 4294967296) (h4 : d < 4294967296) : aF .or .i64 (aF .or .i64 (aF .or .i64 (a : Int) (b : Int)) (c : Int)) (d : Int) = ((a ||| b ||| c ||| d : Nat) : Int):=by
 rw [lC h1 h2,lC (cy h1 h2) h3,lC (cy (cy h1 h2) h3) h4]
end
noncomputable section
theorem AL {rs rt imm : Int} (hs : 0 ≤ rs ∧ rs ≤ 31) (ht : 0 ≤ rt ∧ rt ≤ 31) (hi : -2048 ≤ imm ∧ imm ≤ 2047) : Enc (Instr.mk 16 0 rs rt imm):=by
 obtain ⟨s,rfl,hs2⟩:=jp hs.1 hs.2
 obtain ⟨t,rfl,ht2⟩:=jp ht.1 ht.2
 obtain ⟨x,f3,f7,opc,g1,g2,g3,g4,g5,g6,g7,g8,g9,g10,g11,g12,g13,_⟩:=tab 15 (by omega)
 obtain rfl:=g13 rfl
 obtain ⟨u,u1,u2,u3,_⟩:=j5 (x:=imm) (by omega) (by omega)
 obtain ⟨m,m1,m2,m3⟩:=uA (x:=imm) (p:=4096) (by omega) (by omega) (by omega)
 rw [show ((4096 : Nat) : Int) = 4096 from rfl] at m3
 have hm:=uB (op:=((15 : Nat) : Int) + 1) (rd:=0) (rs:=s) (rt:=t) (imm:=imm) (k:=15) (srs:=s) (f3:=f3) (opc:=35) rfl (by omega) rfl (by omega) g8 g5 g7
 have b1:=az m 5 7 (by omega) (by omega) (by omega) (by omega)
 have b2:=az m 0 5 (by omega) (by omega) (by omega) (by omega)
 have l1 : m / 2 ^ 5 % 2 ^ 7 < 128:=Nat.mod_lt _ (by decide)
 have l2 : m / 2 ^ 0 % 2 ^ 5 < 32:=Nat.mod_lt _ (by decide)
 have p1:=jf u 5 7 25 u1 (by omega) (by omega) (by omega) (by omega)
 have p2:=jf u 0 5 7 u1 (by omega) (by omega) (by omega) (by omega)
 rw [pB (x:=imm) (m:=m) (p:=4096) u2 m2 (by decide) ⟨1048576,rfl⟩] at p1 p2
 have hrel : m / 2 ^ 5 % 2 ^ 7 * 32 + m / 2 ^ 0 % 2 ^ 5 = m:=by omega
 generalize m / 2 ^ 5 % 2 ^ 7 = hi7 at b1 p1 l1 hrel
 generalize m / 2 ^ 0 % 2 ^ 5 = lo5 at b2 p2 l2 hrel
 refine ⟨hi7 * 2 ^ 25 + t * 2 ^ 20 + (s * 2 ^ 15 + f3 * 2 ^ 12 + 35) + lo5 * 2 ^ 7,by omega,(fun k' hk h1 h2=>by
  obtain rfl : k' = 15:=by simp only at hk; omega
  rw [g8]
  exact congrArg (fun n : Nat=>some (n : Int)) (by simp only [Nat.reducePow]; omega)),?_,fun hv=>?_,fun _=>Ci (by omega) (by omega) (xc (by omega) g8) g5 l1 l2 hrel hi m2⟩
 ·unfold bG
  refine aa (y:=false) rfl (ab rfl (ab rfl (ab rfl (bS rfl ?_))))
  refine aa m3 (aa b1 (aa (er hi7 25 (by omega) (by omega)) (aa (er t 20 (by omega) (by omega)) (aa hm (aa b2 (aa (er lo5 7 (by omega) (by omega)) ?_))))))
  rw [di (by omega),di (by omega),di (by omega)]
 ·rw [kJ (r:=none) hv]
  refine aa g1 (aa u3 (aa (y:=83) rfl ?_))
  refine ab rfl (ab rfl (bS rfl ?_))
  refine aa p1 (aa p2 ?_)
  rw [g2,g4,Bb (by omega),zQ (by omega),zR g5,or4 (a:=t * 2 ^ 20) (by omega) (by omega) (by omega) (by omega),lC (by omega) (cy (cy (cy (by omega) (by omega)) (by omega)) (by omega)),lC (cy (by omega) (cy (cy (cy (by omega) (by omega)) (by omega)) (by omega))) (by omega),Cs (by omega) l2 g5 (by omega)]
end
noncomputable section
theorem AM {op rs rt imm : Int} (h : op = 17 ∨ op = 18) (hs : 0 ≤ rs ∧ rs ≤ 31) (ht : 0 ≤ rt ∧ rt ≤ 31) (hi : -4096 ≤ imm ∧ imm ≤ 4094) : Enc (Instr.mk op 0 rs rt imm):=by
 obtain ⟨s,rfl,hs2⟩:=jp hs.1 hs.2
 obtain ⟨t,rfl,ht2⟩:=jp ht.1 ht.2
 obtain ⟨k,rfl⟩ : ∃ k : Nat,op = (k : Int) + 1:=⟨(op - 1).toNat,by omega⟩
 obtain ⟨x,f3,f7,opc,g1,g2,g3,g4,g5,g6,g7,g8,g9,g10,g11,g12,g13,g14,_⟩:=tab k (by omega)
 obtain rfl:=g14 (by omega)
 obtain ⟨u,u1,u2,u3,_⟩:=j5 (x:=imm) (by omega) (by omega)
 obtain ⟨m,m1,m2,m3⟩:=uA (x:=imm) (p:=8192) (by omega) (by omega) (by omega)
 rw [show ((8192 : Nat) : Int) = 8192 from rfl] at m3
 have hm:=uB (op:=(k : Int) + 1) (rd:=0) (rs:=s) (rt:=t) (imm:=imm) (k:=k) (srs:=s) (f3:=f3) (opc:=99) rfl (by omega) rfl (by omega) g8 g5 g7
 have b1:=az m 12 1 (by omega) (by omega) (by omega) (by omega)
 have b2:=az m 5 6 (by omega) (by omega) (by omega) (by omega)
 have b3:=az m 1 4 (by omega) (by omega) (by omega) (by omega)
 have b4:=az m 11 1 (by omega) (by omega) (by omega) (by omega)
 have l1 : m / 2 ^ 12 % 2 ^ 1 < 2:=Nat.mod_lt _ (by decide)
 have l2 : m / 2 ^ 5 % 2 ^ 6 < 64:=Nat.mod_lt _ (by decide)
 have l3 : m / 2 ^ 1 % 2 ^ 4 < 16:=Nat.mod_lt _ (by decide)
 have l4 : m / 2 ^ 11 % 2 ^ 1 < 2:=Nat.mod_lt _ (by decide)
 have p1:=jf u 12 1 31 u1 (by omega) (by omega) (by omega) (by omega)
 have p2:=jf u 5 6 25 u1 (by omega) (by omega) (by omega) (by omega)
 have p3:=jf u 1 4 8 u1 (by omega) (by omega) (by omega) (by omega)
 have p4:=jf u 11 1 7 u1 (by omega) (by omega) (by omega) (by omega)
 rw [pB (x:=imm) (m:=m) (p:=8192) u2 m2 (by decide) ⟨524288,rfl⟩] at p1 p2 p3 p4
 have hrel : imm % 2 = 0 → m / 2 ^ 12 % 2 ^ 1 * 4096 + m / 2 ^ 11 % 2 ^ 1 * 2048 + m / 2 ^ 5 % 2 ^ 6 * 32 + m / 2 ^ 1 % 2 ^ 4 * 2 = m:=fun he=>by omega
 generalize m / 2 ^ 12 % 2 ^ 1 = v1 at b1 p1 l1 hrel
 generalize m / 2 ^ 5 % 2 ^ 6 = v2 at b2 p2 l2 hrel
 generalize m / 2 ^ 1 % 2 ^ 4 = v3 at b3 p3 l3 hrel
 generalize m / 2 ^ 11 % 2 ^ 1 = v4 at b4 p4 l4 hrel
 refine ⟨v1 * 2 ^ 31 + v2 * 2 ^ 25 + t * 2 ^ 20 + (s * 2 ^ 15 + f3 * 2 ^ 12 + 99) + v3 * 2 ^ 8 + v4 * 2 ^ 7,by omega,(fun k' hk h1 h2=>by
  obtain rfl : k' = k:=by simp only at hk; omega
  rw [g8]
  exact congrArg (fun n : Nat=>some (n : Int)) (by simp only [Nat.reducePow]; omega)),?_,fun hv=>?_,fun hI=>Cj (by omega) (by omega) (by omega) (xc (by omega) g8) g5 l1 l2 l3 l4 (hrel (by unfold IOk at hI; simp only at hI; omega)) (by omega) m2⟩
 ·have hb : gK (Instr.mk ((k : Int) + 1) 0 s t imm) = some ((v1 * 2 ^ 31 + v2 * 2 ^ 25 + t * 2 ^ 20 + (s * 2 ^ 15 + f3 * 2 ^ 12 + 99) + v3 * 2 ^ 8 + v4 * 2 ^ 7 : Nat) : Int):=by
   unfold gK
   refine aa m3 (aa b1 (aa (er v1 31 (by omega) (by omega)) (aa b2 (aa (er v2 25 (by omega) (by omega)) (aa (er t 20 (by omega) (by omega)) (aa hm (aa b3 (aa (er v3 8 (by omega) (by omega)) (aa b4 (aa (er v4 7 (by omega) (by omega)) ?_))))))))))
   rw [di (by omega),di (by omega),di (by omega),di (by omega),di (by omega)]
  unfold bG
  simp only
  have c : ∀ n : Int,n ≤ 16 → (((k : Int) + 1) == n) = false:=fun n hn=>by simp; omega
  have hy : (sel (((k : Int) + 1) == 17) (some (((k : Int) + 1) == 17)) (some (((k : Int) + 1) == 18)) : Option Bool) = some true:=by
   rcases (by omega : k = 16 ∨ k = 17) with rfl | rfl <;> rfl
  rw [c 12 (by omega),c 13 (by omega),c 14 (by omega),c 15 (by omega),c 16 (by omega),hy,hb]
  simp only [Bc,Bd,ob9]
 ·rw [kJ (r:=none) hv]
  simp only
  rw [show (k : Int) + 1 - 1 = k by omega,aK (x:=(k : Int)) (by omega) (by omega)]
  refine aa g1 (aa u3 (aa (vk h) ?_))
  refine ab rfl (ab rfl (ab rfl (bS rfl ?_)))
  refine aa p1 (aa p2 (aa p3 (aa p4 ?_)))
  have t1 : t ≤ 31:=by omega
  have s1 : s ≤ 31:=by omega
  have z1 : v1 * 2 ^ 31 < 4294967296:=Nat.lt_of_le_of_lt (Nat.mul_le_mul_right _ (Nat.le_of_lt_succ l1)) (by decide)
  have z2 : v2 * 2 ^ 25 < 4294967296:=Nat.lt_of_le_of_lt (Nat.mul_le_mul_right _ (Nat.le_of_lt_succ l2)) (by decide)
  have z3 : t * 2 ^ 20 < 4294967296:=Nat.lt_of_le_of_lt (Nat.mul_le_mul_right _ t1) (by decide)
  have z4 : s * 2 ^ 15 < 4294967296:=Nat.lt_of_le_of_lt (Nat.mul_le_mul_right _ s1) (by decide)
  have z5 : f3 * 2 ^ 12 < 4294967296:=Nat.lt_of_le_of_lt (Nat.mul_le_mul_right _ (Nat.le_of_lt_succ g5)) (by decide)
  have z6 : v3 * 2 ^ 8 < 4294967296:=Nat.lt_of_le_of_lt (Nat.mul_le_mul_right _ (Nat.le_of_lt_succ l3)) (by decide)
  have z7 : v4 * 2 ^ 7 < 4294967296:=Nat.lt_of_le_of_lt (Nat.mul_le_mul_right _ (Nat.le_of_lt_succ l4)) (by decide)
  have z8 : 99 < 4294967296:=by decide
  have zr:=cy (cy (cy z3 z4) z5) z8
  rw [g2,g4,Bb (Nat.lt_succ_of_le t1),zQ (Nat.lt_succ_of_le s1),zR g5,or4 z3 z4 z5 z8,lC z1 z2,lC (cy z1 z2) zr,lC (cy (cy z1 z2) zr) z6,lC (cy (cy (cy z1 z2) zr) z6) z7,Ct (Nat.lt_succ_of_le t1) l2 g5 (Nat.lt_succ_of_le s1) l3 l4]
end

end Go.Proofs.YtcljimkjmklkmaaGreatDoor.N
