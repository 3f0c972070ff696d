/- The program logic: rows that are only read from now on (frozen); one row several times in a row of rows. Printed by a program of mine: what the program's functions compute, as plain Lean functions. Plain laws of the natural functions' words: repetitions, numbers that do not wrap, what is marked and held. Plain laws of bits: and with a mask, or of numbers that lie apart, words. The encoding of instructions: reference and program encode alike. The fields of an encoded instruction are the instruction's own. The decoding of words: the tables, the kinds, the rows that match. -/
import Derived.Test.YtmpplggjpmmhlaaGreatDoorK1
import Derived.Laws.Cover3
import Derived.Test.YtmpplggjpmmhlaaGreatDoorProg
set_option linter.unusedVariables false
set_option linter.unusedSimpArgs false
set_option maxRecDepth 100000
set_option maxHeartbeats 4000000
namespace Go.Proofs.YtmpplggjpmmhlaaGreatDoor.X
variable {P : Program} {n : Nat} {ops : Array Oper} {o : Oper} {rest : List Oper} {E E' : Env} {W W' w w0 : World} {a : Act} {v u v2 : Value} {K : Env → World → Prop} {M T S : Nat → Prop} {L L0 L1 : List Ent}
variable {t e : TypeId} {ag : Bool} {z : Option Value} {zv : Value} {size bytes : Nat} {α β : Type} {enc : α → D} {l l2 r : List α} {i : Int} {x y : α} {d : D} {ds xs ys : List D} {cs c1 : List Value}
variable {rs : List (Value × Nat × Nat × List D)} {ls : List (Value × Nat × Value)}
def Frz (rs : List (Value × Nat × Nat × List D)) (ls : List (Value × Nat × Value)) (W : World) (S : Nat → Prop) : Prop:=
 (∀ r ∈ rs,D.rd W (.row r.2.1 r.2.2.1 r.2.2.2) S [r.1]) ∧ ∀ q ∈ ls,∃ ad,adr q.1 = some ad ∧ S ad.block ∧ W.cell? (ad.add q.2.1) = some q.2.2
theorem add_block (ad : Addr) (j : Nat) : (ad.add j).block = ad.block:=by unfold Addr.add; split <;> rfl
theorem Frz.agree (h : Frz rs ls W S) (ha : Agree S W W') : Frz rs ls W' S:=
 ⟨fun r hr=>D.rd_agree (h.1 r hr) ha,fun q hq=>by
  obtain ⟨ad,h1,h2,h3⟩:=h.2 q hq
  refine ⟨ad,h1,h2,?_⟩
  rw [World.cell?_of_block (w:=W) (w':=W') (by rw [add_block]; exact ha _ h2)]
  exact h3⟩
theorem Frz.mono (h : Frz rs ls W S) (hs : ∀ b,S b → T b) : Frz rs ls W T:=
 ⟨fun r hr=>D.rd_mono (h.1 r hr) hs,fun q hq=>let ⟨ad,h1,h2,h3⟩:=h.2 q hq; ⟨ad,h1,hs _ h2,h3⟩⟩
abbrev frzE (rs : List (Value × Nat × Nat × List D)) (ls : List (Value × Nat × Value)) : Ent:=.any (Frz rs ls) Frz.agree Frz.mono
theorem Sep.frz (h : Sep M w0 W (rowV v e size enc l :: L)) : Sep M w0 W (frzE [(v,e,size,l.map enc)] [] :: L):=by
 obtain ⟨S,hS,h1,hrest⟩:=h.own
 refine Sep.of_parts (L':=[frzE [(v,e,size,l.map enc)] []]) h.frame hS hrest (Frame.refl _ _) ⟨S,fun b hb=>.inl hb,⟨fun r hr=>?_,fun q hq=>by simp at hq⟩,trivial⟩
 simp only [List.mem_singleton] at hr
 subst hr
 exact D.own_rd (d:=.row e size (l.map enc)) h1
theorem Sep.lendz (h : Sep M w0 W (frzE rs ls :: L)) (j : Nat) (hj : rs[j]? = some (v,e,size,l.map enc)) : RV W (Old No W) v e size enc l:=by
 obtain ⟨S,hS,h1,_⟩:=h.own
 exact D.rd_mono (h1.1 _ (List.mem_of_getElem? hj)) fun b hb=>⟨(hS b hb).2,id⟩
theorem Sep.cellz {k : Nat} (h : Sep M w0 W (frzE rs ls :: L)) (j : Nat) (hj : ls[j]? = some (v,k,u)) : ∀ i u',[u][i]? = some u' → W.cell? (elemA (adr v) (k + i)) = some u':=by
 obtain ⟨S,hS,h1,_⟩:=h.own
 obtain ⟨ad,k1,k2,k3⟩:=h1.2 _ (List.mem_of_getElem? hj)
 intro i u' hi
 match i,hi with
 | 0,hi =>
  have : u = u':=by simpa using hi
  subst this
  have k1' : adr v = some ad:=k1
  rw [k1']
  exact k3
 | i + 1,hi=>simp at hi
theorem Sep.wkz {r0 : Value × Nat × Nat × List D} (h : Sep M w0 W (frzE (r0 :: rs) ls :: L)) : Sep M w0 W (frzE [r0] [] :: L):=by
 obtain ⟨S,hS,h1,hrest⟩:=h.own
 refine Sep.of_parts (L':=[frzE [r0] []]) h.frame hS hrest (Frame.refl _ _) ⟨S,fun b hb=>.inl hb,⟨fun r hr=>h1.1 r ?_,fun q hq=>by simp at hq⟩,trivial⟩
 simp only [List.mem_singleton] at hr
 subst hr
 simp
theorem Sep.opz {e2 s2 : Nat} {enc2 : β → D} {y : List β} (h : Sep M w0 W (frzE ((v,e,1,l.map enc) :: rs) ls :: L)) (hx : nth l i = some x) (hf : enc x = .row e2 s2 (y.map enc2)) :
  ∃ k : Hd,Sep M w0 W (frzE ((v,e,1,l.map enc) :: (sv k,e2,s2,y.map enc2) :: rs) ((v,i.toNat * 1,sv k) :: ls) :: L):=by
 obtain ⟨S,hS,h1,hrest⟩:=h.own
 have hr : RV W S v e 1 enc l:=h1.1 _ (List.mem_cons_self ..)
 obtain ⟨A,c,rfl⟩:=hr.shape
 obtain ⟨ad,rfl⟩:=Rd.some hr hx
 have hbl : S ad.block:=by
  obtain ⟨A',cap,cc,e1,e2,e3,e4,e5,e6⟩:=hr
  simp only [List.cons.injEq,and_true,Value.slice.injEq] at e1
  obtain ⟨h0,hl,h2⟩:=nth_some hx
  obtain ⟨ad',f1,f2,_⟩:=e5 (by intro hn; rw [List.map_eq_nil_iff] at hn; subst hn; simp at hl)
  rw [← e1.1] at f1
  injection f1 with f1
  subst f1
  exact f2
 obtain ⟨cs,q1,q2⟩:=RV.el2 hr hx
 have q3:=q1 S hr
 rw [hf] at q3
 obtain ⟨d1,d2,g1,g2,g3,g4⟩:=q3
 have g4' : d2 = []:=g4
 subst g4'
 rw [List.append_nil] at g1
 subst g1
 have g3':=g3
 obtain ⟨A2,cap2,c2,f1,_⟩:=g3
 refine ⟨⟨A2,(y.map enc2).length,cap2⟩,Sep.of_parts (L':=[_]) h.frame hS hrest (Frame.refl _ _) ⟨S,fun b hb=>.inl hb,⟨fun r hr'=>?_,fun q hq=>?_⟩,trivial⟩⟩
 ·rcases List.mem_cons.1 hr' with rfl | hr'
  ·exact hr
  ·rcases List.mem_cons.1 hr' with rfl | hr'
   ·rw [f1] at g3'; exact g3'
   ·exact h1.1 r (List.mem_cons_of_mem _ hr')
 ·rcases List.mem_cons.1 hq with rfl | hq
  ·refine ⟨ad,rfl,hbl,?_⟩
   have:=q2 W (Agree.refl _ _) 0 (sv ⟨A2,(y.map enc2).length,cap2⟩) (by rw [f1]; rfl)
   exact this
  ·exact h1.2 q hq
def Mul (v : Value) (e size : Nat) (xs : List D) (j : Nat) (cs : List Value) (d : D) (W : World) (S : Nat → Prop) : Prop:=Owns W [.dat [d] cs,.hole v e size xs j cs] S
theorem Mul.agree {j : Nat} (h : Mul v e size xs j cs d W S) (ha : Agree S W W') : Mul v e size xs j cs d W' S:=Owns.agree h ha
theorem Mul.mono {j : Nat} (h : Mul v e size xs j cs d W S) (hs : ∀ b,S b → T b) : Mul v e size xs j cs d W T:=Owns.mono h hs
abbrev mulE (v : Value) (e size : Nat) (xs : List D) (j : Nat) (cs : List Value) (d : D) : Ent:=.any (Mul v e size xs j cs d) Mul.agree Mul.mono
theorem Sep.mul {j : Nat} (h : Sep M w0 W (.dat [d] cs :: .hole v e size xs j cs :: L)) : Sep M w0 W (mulE v e size xs j cs d :: L):=by
 obtain ⟨S,h1,h2,h3⟩:=Owns.split (L1:=[.dat [d] cs,.hole v e size xs j cs]) h.own
 exact ⟨h.frame,S,h1,h2,h3⟩
theorem Mul.parts {j : Nat} (h : Mul v e size xs j cs d W S) : ∃ (c1 c2 : List Value) (S1 : Nat → Prop),W.ownsRow 0 e size v xs.length (c1 ++ (cs ++ c2)) ∧ (∀ g,v.ownBlock = some g → S g) ∧ (∀ b,S1 b → S b ∧ v.ownBlock ≠ some b) ∧ c1.length = j * size ∧ cs.length = size ∧ j < xs.length ∧
  (∀ x ∈ xs,x.sz = size) ∧ d.sz = size ∧ D.rds W (xs.set j d) S1 (c1 ++ (cs ++ c2)) ∧ D.rd W d S1 cs ∧ ∀ u ∈ cs,u.oneCell' = true:=by
 obtain ⟨Sa,hSa,⟨S3,d1,d2,g1,g2,g3,g4,g5⟩,Sb,hSb,⟨c1,c2,r1,k2,k3,k4,s1,S',p1,o1⟩,_⟩:=h
 have g5' : d2 = []:=g5
 subst g5'
 rw [List.append_nil] at g1
 subst g1
 have hdown:=D.own_mono g4 g3
 have hin:=owns_in (S1:=Sa) o1 s1 k2 k4 hdown (fun b hb hb'=>(hSb b (p1 b hb').1).2 hb)
 refine ⟨c1,c2,fun b=>Sa b ∨ S' b,r1.1,fun g hg=>(hSb g (r1.2 g hg)).1,fun b hb=>⟨hb.elim (hSa b) fun hb=>(hSb b (p1 b hb).1).1,fun hv=>?_⟩,k2,k3,k4,s1,by rw [← D.own_length g4,k3],D.owns_rds hin,D.rd_mono (D.own_rd hdown) fun b hb=>.inl hb,D.own_one g4⟩
 rcases hb with hb | hb
 ·exact (hSb b (r1.2 b hv)).2 hb
 ·exact (p1 b hb).2 hv
theorem row_cell {n j : Nat} (h : W.ownsRow 0 e size v n cs) (hj : cs[j]? = some u) : ∃ g,adr v = some ⟨g,0,none⟩ ∧ v.ownBlock = some g ∧ W.cell? ((⟨g,0,none⟩ : Addr).add j) = some u:=by
 rcases h.2 with ⟨hv,hn⟩ | ⟨g,cap,cur,hv,_,hg,hnc,hcm,hcs,htake⟩
 ·have:=h.1
  rw [hn,Nat.zero_mul] at this
  have:=List.eq_nil_of_length_eq_zero this
  subst this
  simp at hj
 ·subst hv
  refine ⟨g,rfl,rfl,?_⟩
  have hadd : (⟨g,0,none⟩ : Addr).add j = ⟨g,j,none⟩:=by unfold Addr.add; split <;> simp_all
  rw [hadd,cell_of_row W g j cur e (0,0) hg]
  rw [← htake,List.getElem?_take] at hj
  split at hj
  ·simpa using hj
  ·cases hj
theorem row_rd {ys : List D} {S1 : Nat → Prop} (h : W.ownsRow 0 e size v ys.length cs) (h2 : ∀ g,v.ownBlock = some g → S g) (hs : ∀ y ∈ ys,y.sz = size) (hr : D.rds W ys S1 cs) (h1 : ∀ b,S1 b → S b) : D.rd W (.row e size ys) S [v]:=by
 have hc:=fun j u (hj : cs[j]? = some u)=>row_cell (j:=j) h hj
 rcases h.2 with ⟨hv,hn⟩ | ⟨g,cap,cur,hv,_,hg,hnc,hcm,hcs,htake⟩
 ·have : ys = []:=List.eq_nil_of_length_eq_zero hn
  subst this hv
  exact ⟨none,0,cs,rfl,Nat.le_refl _,by simp [maxLen],hs,fun hne=>absurd rfl hne,D.rds_mono hr h1⟩
 ·subst hv
  refine ⟨some ⟨g,0,none⟩,cap,cs,rfl,hnc,Nat.le_trans hnc hcm,hs,fun _=>⟨_,rfl,h2 g rfl,fun j u hj=>?_⟩,D.rds_mono hr h1⟩
  obtain ⟨g',e1,_,e3⟩:=hc j u hj
  have e1' : some (⟨g,0,none⟩ : Addr) = some ⟨g',0,none⟩:=e1
  injection e1' with e1'
  rw [e1']
  exact e3
theorem set_enc {enc : α → D} (hx : nth l i = some x) : (l.map enc).set i.toNat (enc x) = l.map enc:=by rw [← List.map_set,set_same hx]
theorem Sep.mulz {e2 s2 : Nat} {enc2 : β → D} {y : List β} (hx : nth l i = some x) (hf : enc x = .row e2 s2 (y.map enc2)) (h : Sep M w0 W (mulE v e 1 (l.map enc) i.toNat [u] (enc x) :: L)) : Sep M w0 W (frzE [(v,e,1,l.map enc),(u,e2,s2,y.map enc2)] [(v,i.toNat * 1,u)] :: L):=by
 obtain ⟨S,hS,hm,hrest⟩:=h.own
 obtain ⟨c1,c2,S1,p1,p2,p3,p4,p5,p6,p7,p8,p9,p10,p11⟩:=Mul.parts hm
 rw [set_enc hx] at p9
 refine Sep.of_parts (L':=[_]) h.frame hS hrest (Frame.refl _ _) ⟨S,fun b hb=>.inl hb,⟨fun r hr=>?_,fun q hq=>?_⟩,trivial⟩
 ·simp only [List.mem_cons,List.not_mem_nil,or_false] at hr
  rcases hr with rfl | rfl
  ·exact row_rd p1 p2 p7 p9 fun b hb=>(p3 b hb).1
  ·have : D.rd W (.row e2 s2 (y.map enc2)) S1 [u]:=by rw [← hf]; exact p10
   exact D.rd_mono this fun b hb=>(p3 b hb).1
 ·simp only [List.mem_cons,List.not_mem_nil,or_false] at hq
  subst hq
  obtain ⟨g,e1,e2,e3⟩:=row_cell (j:=i.toNat * 1) (u:=u) p1 (by rw [List.getElem?_append_right (by omega),p4,Nat.sub_self]; rfl)
  exact ⟨⟨g,0,none⟩,e1,p2 g e2,e3⟩
def Raw (lit : Value) (cs : List Value) (k : Nat) (W : World) (S : Nat → Prop) : Prop:=∃ g,lit = .slice (some ⟨g,0,none⟩) k k ∧ S g ∧ ∀ j u,(List.replicate k cs).flatten[j]? = some u → W.cell? ((⟨g,0,none⟩ : Addr).add j) = some u
theorem Raw.agree {lit : Value} {k : Nat} (h : Raw lit cs k W S) (ha : Agree S W W') : Raw lit cs k W' S:=by
 obtain ⟨g,h10,h11,h12⟩:=h
 refine ⟨g,h10,h11,fun j u hj=>?_⟩
 rw [World.cell?_of_block (w:=W) (w':=W') (by rw [add_block]; exact ha _ h11)]
 exact h12 j u hj
theorem Raw.mono {lit : Value} {k : Nat} (h : Raw lit cs k W S) (hs : ∀ b,S b → T b) : Raw lit cs k W T:=let ⟨g,h10,h11,h12⟩:=h; ⟨g,h10,hs g h11,h12⟩
abbrev rawE (lit : Value) (cs : List Value) (k : Nat) : Ent:=.any (Raw lit cs k) Raw.agree Raw.mono
theorem cellsOf_rep {uv : Value} : ∀ {k : Nat},cellsOf (List.replicate k uv) = (List.replicate k uv.cells.toList).flatten
 | 0=>rfl
 | k + 1=>by rw [List.replicate_succ,List.replicate_succ,cellsOf,cellsOf_rep]; rfl
theorem OpW.lir {k : Nat} {parts : Array (Nat × Operand)} {uv : Value} (hS : Sep M w0 W L) (hu : P.underlying t = some (.slice e)) (ht : tinfo P e = some (ag,some zv,size,bytes)) (ho : o.op = .buildSlice t k parts)
  (hp : zipRow 0 parts.toList E = some (List.replicate k uv)) (hc : uv.cells.toList = cs) (hl : cs.length = size) (h : ∀ (lit : Hd) W',Sep M w0 W' (rawE (sv lit) cs k :: L) → K (put E o.dst (sv lit)) W')
  (hle : Nat.ble (k * size) 16777216 = true) (hg : o.guard = none) (hd : okD n o.dst = true) : OpW P n ops o E W K:=by
 have hvs : ∀ v ∈ List.replicate k uv,v.cells.toList.length = size:=fun v hv=>by rw [(List.mem_replicate.1 hv).2,hc,hl]
 refine .runs (W':=W.alloc (.cells (cellsOf (List.replicate k uv)).toArray e)) (v:=.slice (some ⟨W.heap.size,0,none⟩) k k) (fun a ha=>?_) hg hd (h ⟨some ⟨W.heap.size,0,none⟩,k,k⟩ _ ?_)
 ·have h1:=zipRow_spec ha hp
  have h2 : parts.map (fun p=>(p.1,a.eval p.2)) = (partsFrom 0 (List.replicate k uv)).toArray:=by rw [← h1]; apply Array.ext'; simp
  unfold execOp
  simp only [ho,Sem.run_bind]
  rw [show (parts.map fun (x : Nat × Operand)=>match x with | (i,x)=>(i,a.eval x)) = (partsFrom 0 (List.replicate k uv)).toArray from h2,run_buildSlice hu ht (List.length_replicate ..) hvs (Nat.le_of_ble_eq_true hle)]
  rfl
 ·refine hS.new (L':=[rawE (sv ⟨some ⟨W.heap.size,0,none⟩,k,k⟩) cs k]) frame_alloc ⟨fun b=>b = W.heap.size,fun b hb=>by subst hb; simp,⟨W.heap.size,rfl,rfl,fun j' u hj=>?_⟩,trivial⟩
  have hadd : (⟨W.heap.size,0,none⟩ : Addr).add j' = ⟨W.heap.size,j',none⟩:=by unfold Addr.add; split <;> simp_all
  rw [hadd,cell_of_row _ _ j' (cellsOf (List.replicate k uv)).toArray e (0,0) (heap_alloc_new W _),cellsOf_rep,hc]
  simpa using hj
theorem rds_rep {cu : List Value} (hd : D.rd W d T cu) (hl : cu.length = d.sz) : ∀ {k : Nat},D.rds W (List.replicate k d) T (List.replicate k cu).flatten
 | 0=>rfl
 | k + 1=>by rw [List.replicate_succ,List.replicate_succ]; exact ⟨cu,_,rfl,hl,hd,rds_rep hd hl⟩
theorem OpW.apm {p q : Operand} {k : Nat} {lit : Value} (hr : X.app bytes l (List.replicate k x) = some r) (hx : nth l i = some x) (hS : Sep M w0 W (rawE lit cs k :: mulE v e size (l.map enc) i.toNat cs (enc x) :: L)) (hu : P.underlying t = some (.slice e)) (ht : tinfo P e = some (ag,some zv,size,bytes))
  (ho : o.op = .call { callee:=.builtin .append,args:=#[p,q],argTypes:=#[t,t] }) (hp : ev E p = some v) (hq : ev E q = some lit)
  (h : ∀ (v : Hd) W',Sep M w0 W' (frzE [(sv v,e,size,r.map enc)] [] :: L) → K (put E o.dst (sv v)) W')
  (hz : zv.cells.size = size) (h0 : Nat.blt 0 size = true) (hb0 : Nat.blt 0 bytes = true) (hg : o.guard = none) (hd : okD n o.dst = true) : OpW P n ops o E W K:=by
 obtain ⟨rfl,hroom⟩:=app_some hr
 obtain ⟨Sl,hSl,⟨g,rfl,h11,h12⟩,S,hSo,hm,hrest⟩:=hS.own
 obtain ⟨c1,c2,S1,p1,p2,p3,p4,h8,p6,h4,h5,p9,p10,h9⟩:=Mul.parts hm
 rw [set_enc hx] at p9
 generalize hcc : c1 ++ (cs ++ c2) = cc at *
 obtain ⟨i0,hi,hz0,hz1,hz2⟩:=tinfo_parts ht
 have hbpos : 0 < bytes:=by simpa [Nat.blt_eq] using hb0
 rw [List.length_map] at p1
 rw [List.length_replicate] at hroom
 have hmaxl : l.length + k ≤ 140737488355328:=Nat.le_trans (Nat.le_mul_of_pos_right _ hbpos) hroom
 have hone : ∀ u ∈ (List.replicate k cs).flatten,u.oneCell' = true:=fun u hu=>by
  obtain ⟨c,hc,hu⟩:=List.mem_flatten.1 hu
  rw [(List.mem_replicate.1 hc).2] at hu
  exact h9 u hu
 obtain ⟨v',W',hrun,hown,hgrow,hn0,hat⟩:=run_append_own_at (P:=P) W 0 t o.type e i0 zv size bytes hu hi hz0 hz1 hz2 hz (by simpa [Nat.blt_eq] using h0) _ _ _ p1 ⟨g,0,none⟩ k k (List.replicate k cs).flatten (by simp [h8]) h12 hone (by simp only [maxLen]; omega) hroom (Nat.zero_le _)
 have hlen : ((l ++ List.replicate k x).map enc).length = l.length + k:=by simp
 obtain ⟨vh,rfl⟩ : ∃ vh : Hd,v' = sv vh:=by
  rcases hown.2 with ⟨h1,h2⟩ | ⟨g,cap,cur,h1,_⟩
  ·exact ⟨nilH,h1⟩
  ·exact ⟨⟨_,_,_⟩,h1⟩
 have hrd : D.rds W' ((l ++ List.replicate k x).map enc) S1 (cc ++ (List.replicate k cs).flatten):=by
  have hag : Agree S1 W W':=fun b hb=>hgrow.block b (hSo b (p3 b hb).1).1.2 fun he=>(p3 b hb).2 he.symm
  rw [List.map_append,List.map_replicate]
  exact rds_app (D.rds_agree p9 hag) (rds_rep (D.rd_agree p10 hag) (by rw [h8,h5]))
 have hsz : ∀ y ∈ (l ++ List.replicate k x).map enc,y.sz = size:=fun y hy=>by
  rw [List.map_append] at hy
  rcases List.mem_append.1 hy with hy | hy
  ·exact h4 y hy
  ·obtain ⟨y',hy',rfl⟩:=List.mem_map.1 hy
   rw [(List.mem_replicate.1 hy').2]
   exact h5
 rw [← hlen] at hown
 refine .runs (W':=W') (v:=sv vh) (fun a ha=>?_) hg hd (h vh _ (Sep.of_parts (L':=[_]) hS.frame (S:=fun b=>Sl b ∨ S b) (fun b hb=>hb.elim (hSl b) fun hb=>(hSo b hb).1) (hrest.mono fun b hb=>⟨hb.1.1,fun hh=>hh.elim hb.1.2 hb.2⟩) (Frame.of_grown hgrow fun b hb=>.inr (p2 b hb))
  ⟨fun b=>(Sl b ∨ S b) ∨ (W.heap.size ≤ b ∧ b < W'.heap.size),fun b hb=>hb,⟨fun r hr'=>?_,fun q hq=>by simp at hq⟩,trivial⟩))
 ·unfold execOp
  simp only [ho,resolve,Deferred.ofValue,invoke,builtin,Sem.run_bind,Sem.run_pure,Result.andThen_ok]
  simp [ha.ev hp,ha.ev hq,hrun]
 ·simp only [List.mem_singleton] at hr'
  subst hr'
  refine row_rd hown (fun g' hg'=>?_) hsz hrd fun b hb=>.inl (.inr (p3 b hb).1)
  rcases hat with hat | hat
  ·exact .inl (.inr (p2 g' (hat ▸ hg')))
  ·have : g' = W.heap.size:=by rw [hat] at hg'; injection hg' with hg'; exact hg'.symm
   subst this
   rcases hown.lt W.heap.size hat with ⟨_,h2⟩
   exact .inr ⟨Nat.le_refl _,h2⟩
variable {Q : Exit → Act → World → Prop} {SW : World → Prop} {k : Nat}
def wpM (P : Program) (ops : Array Oper) (Q : Exit → Act → World → Prop) (SW : World → Prop) (k : Nat) : Nat → Array Bool → Act → World → Prop
 | 0,l,a,w=>Region.ready .any ops l = [] ∧ Q .normal a w
 | f + 1,l,a,w=>(Region.ready .any ops l = [] → Q .normal a w) ∧ ∀ i ∈ Region.ready .any ops l,wpOp P ops Q i (fun a' w'=>((l.setIfInBounds i true).getD k true = false → SW w') ∧ wpM P ops Q SW k f (l.setIfInBounds i true) a' w') a w
theorem wpM_any : ∀ (f : Nat) (l : Array Bool) (a : Act) (w : World),wpM P ops Q SW k f l a w → wpAny P .any ops Q f l a w
 | 0,_,_,_,h=>h
 | f + 1,_,_,_,h=>⟨h.1,fun i hi=>wpOp_mono (fun a' w' h'=>wpM_any f _ a' w' h'.2) (h.2 i hi)⟩
theorem wpM_first {i m : Nat} {oi : Oper} {v : Value} (hi : ops[i]? = some oi) (hs : Region.noSelect ops = true) (hQ : ∀ c a w,Q (.panic c) (a.put oi.dst v) w → Q (.panic c) a w) (hkm : m = k ∨ waits ops k m = true) (hmi : waits ops m i = true) (hik : i ≠ k) :
  ∀ {f : Nat} {l : Array Bool} {a : Act} {w : World},l.getD m true = false → l.getD k true = false → Lone ops i oi l → i ∈ Region.ready .any ops l → YieldsIf P ops SW oi v a → SW w → wpM P ops Q SW k f (l.setIfInBounds i true) (a.put oi.dst v) w → wpM P ops Q SW k (f + 1) l a w:=by
 intro f
 induction f with
 | zero =>
  intro l a w hm hk hL hr hy hS H
  refine ⟨fun h=>absurd (h ▸ hr) (by simp),fun j hj=>?_⟩
  rcases Nat.decEq j i with hji | hji
  ·exact absurd (ready_mono hj hji) (by rw [H.1]; simp)
  ·subst hji
   exact hy.wpOp hi hS ⟨fun _=>hS,H⟩
 | succ f ih =>
  intro l a w hm hk hL hr hy hS H
  have hl:=(mem_ready.1 hr).1
  refine ⟨fun h=>absurd (h ▸ hr) (by simp),fun j hj=>?_⟩
  rcases Nat.decEq j i with hji | hji
  ·obtain ⟨hjl,oj,hoj,_⟩:=mem_ready.1 hj
   have hjm : j ≠ m:=fun h=>waits_spec hmi hl (h ▸ hj)
   have hjk : j ≠ k:=fun h=>by
    rcases hkm with hkm | hkm
    ·exact hjm (h.trans hkm.symm)
    ·exact waits_spec hkm hm (h ▸ hj)
   have hm' : (l.setIfInBounds j true).getD m true = false:=by rw [getD_set_ne true hjm]; exact hm
   have hk' : (l.setIfInBounds j true).getD k true = false:=by rw [getD_set_ne true hjk]; exact hk
   have hsel:=Region.noSelect_spec hs
   refine wpOp_mono (fun a' w' ⟨hy',hS',H'⟩=>⟨fun _=>hS' ?_,ih hm' hk' (hL.set hjl) (ready_mono hr fun h=>hji h.symm) hy' (hS' ?_) ?_⟩)
    (wpOp_putIf hoj (hL j oj hoj hji hjl (ready_off hl hj)) (fun cs b=>hsel i oi cs b hi) (fun cs b=>hsel j oj cs b hoj) hQ hy (H.2 j (ready_mono hj hji)))
   ·rw [Array.setIfInBounds_comm _ _ fun h=>hji h.symm,getD_set_ne true hik]; exact hk'
   ·rw [Array.setIfInBounds_comm _ _ fun h=>hji h.symm,getD_set_ne true hik]; exact hk'
   ·rwa [Array.setIfInBounds_comm _ _ hji]
  ·subst hji
   exact hy.wpOp hi hS ⟨fun _=>hS,H⟩
theorem wpM_firstP {i : Nat} {oi : Oper} {v : Value} (hi : ops[i]? = some oi) (hs : Region.noSelect ops = true) (hQ : ∀ c a w,Q (.panic c) (a.put oi.dst v) w → Q (.panic c) a w) (hik : i ≠ k) :
  ∀ {f : Nat} {l : Array Bool} {a : Act} {w : World},Lone ops i oi l → i ∈ Region.ready .any ops l → YieldsIf P ops (fun _=>True) oi v a → (l.getD k true = false → SW w) → wpM P ops Q SW k f (l.setIfInBounds i true) (a.put oi.dst v) w → wpM P ops Q SW k (f + 1) l a w:=by
 intro f
 induction f with
 | zero =>
  intro l a w hL hr hy hS H
  refine ⟨fun h=>absurd (h ▸ hr) (by simp),fun j hj=>?_⟩
  rcases Nat.decEq j i with hji | hji
  ·exact absurd (ready_mono hj hji) (by rw [H.1]; simp)
  ·subst hji
   exact hy.wpOp hi trivial ⟨fun h=>hS (by rwa [getD_set_ne true hik] at h),H⟩
 | succ f ih =>
  intro l a w hL hr hy hS H
  refine ⟨fun h=>absurd (h ▸ hr) (by simp),fun j hj=>?_⟩
  rcases Nat.decEq j i with hji | hji
  ·obtain ⟨hjl,oj,hoj,_⟩:=mem_ready.1 hj
   have hsel:=Region.noSelect_spec hs
   have hl:=(mem_ready.1 hr).1
   refine wpOp_mono (fun a' w' ⟨hy',hS',H'⟩=>⟨fun h=>hS' ?_,ih (hL.set hjl) (ready_mono hr fun h=>hji h.symm) hy' (fun h=>hS' ?_) ?_⟩)
    (wpOp_putIf hoj (hL j oj hoj hji hjl (ready_off hl hj)) (fun cs b=>hsel i oi cs b hi) (fun cs b=>hsel j oj cs b hoj) hQ hy (H.2 j (ready_mono hj hji)))
   ·rw [Array.setIfInBounds_comm _ _ fun h=>hji h.symm,getD_set_ne true hik]; exact h
   ·rw [Array.setIfInBounds_comm _ _ fun h=>hji h.symm,getD_set_ne true hik]; exact h
   ·rwa [Array.setIfInBounds_comm _ _ hji]
  ·subst hji
   exact hy.wpOp hi trivial ⟨fun h=>hS (by rwa [getD_set_ne true hik] at h),H⟩
def RM (P : Program) (n : Nat) (ops : Array Oper) (SW : World → Prop) (k : Nat) (f : Nat) (l : Array Bool) (E : Env) (W : World) (K : Env → World → Prop) : Prop:=
 ∀ a Q,Fits n E a → (∀ a' E' W',Fits n E' a' → K E' W' → Q .normal a' W') → wpM P ops (NoPanic Q) SW k f l a W
theorem CW.rm {R : Exit → Env → World → Prop} {id : Nat} (k : Nat) (SW : World → Prop) (hS : Sep M w0 W L) (hm : P.follows .mixedOrders = true) (h : ∀ W,Sep M w0 W L → RM P n ops SW k ops.size (Array.replicate ops.size false) E W (R .normal)) : CW P n (.region id ops true) E W R:=by
 intro a ha
 refine wp_region_noPanic (wp_region_any hm (wpM_any _ _ _ _ (h _ (hS.drewN _) a _ ha fun a' E' W' ha' hr=>⟨E',ha',hr⟩)))
theorem RM.done {f : Nat} {l : Array Bool} (h : K E W) (hr : isNil (Region.ready .any ops l) = true) : RM P n ops SW k f l E W K:=by
 intro a Q ha hk
 have h0 : Region.ready .any ops l = []:=by
  cases hq : Region.ready .any ops l with
  | nil=>rfl
  | cons x y=>rw [hq] at hr; cases hr
 have h1 : NoPanic Q .normal a W:=hk _ _ _ ha h
 cases f with
 | zero=>exact ⟨h0,h1⟩
 | succ f=>exact ⟨fun _=>h1,by rw [h0]; simp⟩
theorem RM.t1 {f : Nat} {l : Array Bool} (i m : Nat) (ho : ops[i]? = some o) (hv : ∀ W,SW W → Runs P n E o W v W) (hS : SW W) (h : RM P n ops SW k f (l.setIfInBounds i true) (put E o.dst v) W K)
  (hs : (Region.noSelect ops && Region.free .any ops l i && (Region.ready .any ops l).contains i && (Nat.beq m k || waits ops k m) && waits ops m i && !(Nat.beq i k) && !(l.getD m true) && !(l.getD k true)) = true) (hg : o.guard = none) (hd : okD n o.dst = true) : RM P n ops SW k (f + 1) l E W K:=by
 intro a Q ha hk
 simp only [Bool.and_eq_true,Bool.not_eq_true',Bool.or_eq_true] at hs
 obtain ⟨⟨⟨⟨⟨⟨⟨h1,h2⟩,h3⟩,h4⟩,h5⟩,h6⟩,h7⟩,h8⟩:=hs
 exact wpM_first ho h1 (fun c a w h=>h) (h4.imp Nat.eq_of_beq_eq_true id) h5 (by rintro rfl; rw [Nat.beq_refl] at h6; cases h6) h7 h8 (Lone.of ho h2) (by simpa using h3) (.inl ⟨by simp [Region.wanted,hg],fun w hw=>hv w hw a ha⟩) hS (h _ Q (ha.put hd v) hk)
theorem RM.tp {f : Nat} {l : Array Bool} (i : Nat) (ho : ops[i]? = some o) (hv : ∀ W,Runs P n E o W v W) (hS : SW W) (h : RM P n ops SW k f (l.setIfInBounds i true) (put E o.dst v) W K)
  (hs : (Region.noSelect ops && Region.free .any ops l i && (Region.ready .any ops l).contains i && !(Nat.beq i k)) = true) (hg : o.guard = none) (hd : okD n o.dst = true) : RM P n ops SW k (f + 1) l E W K:=by
 intro a Q ha hk
 simp only [Bool.and_eq_true,Bool.not_eq_true'] at hs
 obtain ⟨⟨⟨h1,h2⟩,h3⟩,h4⟩:=hs
 exact wpM_firstP ho h1 (fun c a w h=>h) (by rintro rfl; rw [Nat.beq_refl] at h4; cases h4) (Lone.of ho h2) (by simpa using h3) (.inl ⟨by simp [Region.wanted,hg],fun w _=>hv w a ha⟩) (fun _=>hS) (h _ Q (ha.put hd v) hk)
theorem RM.by1 {f : Nat} {l : Array Bool} (i : Nat) (ho : ops[i]? = some o) (h : OpW P n ops o E W fun E' W'=>((l.setIfInBounds i true).getD k true = false → SW W') ∧ RM P n ops SW k f (l.setIfInBounds i true) E' W' K)
  (hr : sameL (Region.ready .any ops l) [i] = true) : RM P n ops SW k (f + 1) l E W K:=by
 intro a Q ha hk
 have hq:=sameL_eq hr
 refine ⟨fun h0=>?_,fun j hj=>?_⟩
 ·rw [hq] at h0; cases h0
 ·rw [hq] at hj
  obtain rfl:=List.mem_singleton.1 hj
  unfold wpOp
  simp only [ho]
  have:=h a (NoPanic Q) (fun a' w'=>((l.setIfInBounds j true).getD k true = false → SW w') ∧ wpM P ops (NoPanic Q) SW k f (l.setIfInBounds j true) a' w') ha (fun a' E' W' ha' ⟨h1,h2⟩=>⟨h1,h2 a' Q ha' hk⟩)
  split
  ·rename_i hw
   rw [if_pos hw] at this
   exact .inl this
  ·rename_i hw
   rw [if_neg hw] at this
   exact this
theorem RM.byd {f : Nat} {l : Array Bool} (i : Nat) (ho : ops[i]? = some o) (h : OpW P n ops o E W fun E' W'=>RM P n ops SW k f (l.setIfInBounds i true) E' W' K)
  (hr : sameL (Region.ready .any ops l) [i] = true) (hk : (Nat.beq i k || l.getD k true) = true) : RM P n ops SW k (f + 1) l E W K:=by
 refine .by1 i ho (fun a Q Kc ha hk'=>h a Q Kc ha fun a' E' W' ha' h'=>hk' a' E' W' ha' ⟨fun hh=>?_,h'⟩) hr
 rcases Nat.decEq i k with hik | hik
 ·rw [getD_set_ne true hik] at hh
  have : Nat.beq i k = false:=by
   cases hb : Nat.beq i k
   ·rfl
   ·exact absurd (Nat.eq_of_beq_eq_true hb) hik
  rw [this,Bool.false_or] at hk
  rw [hk] at hh
  cases hh
 ·subst hik
  have : (l.setIfInBounds i true).getD i true = true:=by
   simp only [Array.getD_eq_getD_getElem?,Array.getElem?_setIfInBounds,if_true]
   split <;> rfl
  rw [this] at hh
  cases hh
end Go.Proofs.YtmpplggjpmmhlaaGreatDoor.X
namespace Go.Proofs.YtmpplggjpmmhlaaGreatDoor.N
open Go.Proofs.YtmpplggjpmmhlaaGreatDoor.X
structure InstrRow where
 name : ByteArray
 opcode : Int
 funct3 : Int
 funct7 : Int
structure L6Rd where
 b : List Int
 p : Int
structure Quad where
 Op : Int
 Dst : Int
 A : Int
 B : Int
 N : Int
def dQuad (x : Quad) : D:=.agg [.int .i64 x.Op,.int .i64 x.Dst,.int .i64 x.A,.int .i64 x.B,.int .i64 x.N]
structure Expr where
 Op : Int
 N : Int
 Args : List Expr
mutual
def dExpr : Expr → D
 | ⟨x0,x1,x2⟩=>.agg [.int .i64 x0,.int .i64 x1,.row 158 3 (dExprs x2)]
def dExprs : List Expr → List D
 | []=>[]
 | x :: r=>dExpr x :: dExprs r
end
theorem dExprs_map : ∀ l,dExprs l = l.map dExpr
 | []=>rfl
 | x :: r=>by rw [dExprs,dExprs_map r,List.map]
theorem eExpr (x : Expr) : dExpr x = .agg [.int .i64 x.Op,.int .i64 x.N,.row 158 3 (x.Args.map dExpr)]:=by
 cases x; simp only [dExpr,dExprs_map]
theorem zExpr (x : Expr) : (dExpr x).sz = 3:=by simp only [eExpr,D.sz,D.szs]
structure Stmt where
 Kind : Int
 Var : Int
 Box : Int
 Expr : Expr
 Body : List Stmt
 Else : List Stmt
mutual
def dStmt : Stmt → D
 | ⟨x0,x1,x2,x3,x4,x5⟩=>.agg [.int .i64 x0,.int .i64 x1,.int .i64 x2,dExpr x3,.row 160 8 (dStmts x4),.row 160 8 (dStmts x5)]
def dStmts : List Stmt → List D
 | []=>[]
 | x :: r=>dStmt x :: dStmts r
end
theorem dStmts_map : ∀ l,dStmts l = l.map dStmt
 | []=>rfl
 | x :: r=>by rw [dStmts,dStmts_map r,List.map]
theorem eStmt (x : Stmt) : dStmt x = .agg [.int .i64 x.Kind,.int .i64 x.Var,.int .i64 x.Box,dExpr x.Expr,.row 160 8 (x.Body.map dStmt),.row 160 8 (x.Else.map dStmt)]:=by
 cases x; simp only [dStmt,dStmts_map]
theorem zStmt (x : Stmt) : (dStmt x).sz = 8:=by simp only [eStmt,D.sz,D.szs,zExpr]
structure Fact where
 Kind : Int
 N : Int
def dFact (x : Fact) : D:=.agg [.int .i64 x.Kind,.int .i64 x.N]
structure Instr where
 Op : Int
 Rd : Int
 Rs : Int
 Rt : Int
 Imm : Int
def dInstr (x : Instr) : D:=.agg [.int .i64 x.Op,.int .i64 x.Rd,.int .i64 x.Rs,.int .i64 x.Rt,.int .i64 x.Imm]
structure Machine where
 Regs : List Int
 Pc : Int
 Mem : List Int
structure Box where
 Room : Int
 Items : List Int
def instrTable : List InstrRow:=[⟨⟨#[97,100,100]⟩,51,0,0⟩,⟨⟨#[115,117,98]⟩,51,0,32⟩,⟨⟨#[109,117,108]⟩,51,0,1⟩,⟨⟨#[100,105,118]⟩,51,4,1⟩,⟨⟨#[114,101,109]⟩,51,6,1⟩,⟨⟨#[97,110,100]⟩,51,7,0⟩,⟨⟨#[111,114]⟩,51,6,0⟩,⟨⟨#[120,111,114]⟩,51,4,0⟩,⟨⟨#[115,108,108]⟩,51,1,0⟩,⟨⟨#[115,114,97]⟩,51,5,32⟩,⟨⟨#[115,108,116]⟩,51,2,0⟩,⟨⟨#[97,100,100,105]⟩,19,0,0⟩,⟨⟨#[115,108,116,105,117]⟩,19,3,0⟩,⟨⟨#[108,119]⟩,3,2,0⟩,⟨⟨#[106,97,108,114]⟩,103,0,0⟩,⟨⟨#[115,119]⟩,35,2,0⟩,⟨⟨#[98,101,113]⟩,99,0,0⟩,⟨⟨#[98,110,101]⟩,99,1,0⟩,⟨⟨#[108,117,105]⟩,55,0,0⟩,⟨⟨#[106,97,108]⟩,111,0,0⟩,⟨⟨#[101,99,97,108,108]⟩,115,0,0⟩]
def savedRegs : List Int:=[1,2,8,9,18,19,20,21,22,23,10,11,17]
def machineOps : List Int:=[8,9,10,11,12,3,1,2,6,7,5]
def NGl : Nat:=2
def Gl (w : World) : Prop:=Tab 0 4 (fun x : InstrRow=>[.string x.name,.int .i64 x.opcode,.int .i64 x.funct3,.int .i64 x.funct7]) instrTable w ∧ Glob 1 (savedRegs.map (Value.int .i64)) w ∧ True
theorem Gl.at {w W : World} {M : Nat → Prop} {L : List Ent} (h : Gl w) (hS : Sep M w W L) (hM : ∀ g,g < NGl → ¬ M g) : Gl W:=⟨Tab.at h.1 hS (hM 0 (by decide)),Glob.at h.2.1 hS (hM 1 (by decide)),trivial⟩
theorem T.u22 : Tryz.prog.underlying 22 = some (.slice 5):=by kernel_rfl
theorem T.t5 : tinfo Tryz.prog 5 = some (false,some (.int .u8 0),1,1):=by kernel_rfl
theorem T.s100 : sinfo Tryz.prog 100 = some ([(0,1),(1,1)],[.slice none 0 0,.int .i64 0]):=by kernel_rfl
theorem T.f100_1 : fOff Tryz.prog 100 1 = some (1,1,false):=by kernel_rfl
theorem T.t3 : tinfo Tryz.prog 3 = some (false,some (.int .i64 0),1,8):=by kernel_rfl
theorem T.f100_0 : fOff Tryz.prog 100 0 = some (0,1,false):=by kernel_rfl
theorem T.t22 : tinfo Tryz.prog 22 = some (false,some (.slice none 0 0),1,24):=by kernel_rfl
theorem T.u5 : Tryz.prog.underlying 5 = some (.int .u8):=by kernel_rfl
theorem T.u3 : Tryz.prog.underlying 3 = some (.int .i64):=by kernel_rfl
theorem T.mix : Tryz.prog.follows .mixedOrders = true:=by kernel_rfl
theorem T.u25 : Tryz.prog.underlying 25 = some (.slice 3):=by kernel_rfl
theorem T.t126 : tinfo Tryz.prog 126 = some (true,some (.agg #[.int .i64 0,.int .i64 0,.int .i64 0,.int .i64 0,.int .i64 0]),5,40):=by kernel_rfl
theorem T.s126 : sinfo Tryz.prog 126 = some ([(0,1),(1,1),(2,1),(3,1),(4,1)],[.int .i64 0,.int .i64 0,.int .i64 0,.int .i64 0,.int .i64 0]):=by kernel_rfl
theorem T.u104 : Tryz.prog.underlying 104 = some (.slice 126):=by kernel_rfl
theorem T.u134 : Tryz.prog.underlying 134 = some (.slice 160):=by kernel_rfl
theorem T.t160 : tinfo Tryz.prog 160 = some (true,some (.agg #[.int .i64 0,.int .i64 0,.int .i64 0,.int .i64 0,.int .i64 0,.slice none 0 0,.slice none 0 0,.slice none 0 0]),8,112):=by kernel_rfl
theorem T.f160_4 : fOff Tryz.prog 160 4 = some (6,1,false):=by kernel_rfl
theorem T.t134 : tinfo Tryz.prog 134 = some (false,some (.slice none 0 0),1,24):=by kernel_rfl
theorem T.f160_5 : fOff Tryz.prog 160 5 = some (7,1,false):=by kernel_rfl
theorem T.f160_1 : fOff Tryz.prog 160 1 = some (1,1,false):=by kernel_rfl
theorem T.f160_2 : fOff Tryz.prog 160 2 = some (2,1,false):=by kernel_rfl
theorem T.f158_0 : fOff Tryz.prog 158 0 = some (0,1,false):=by kernel_rfl
theorem T.f158_1 : fOff Tryz.prog 158 1 = some (1,1,false):=by kernel_rfl
theorem T.f158_2 : fOff Tryz.prog 158 2 = some (2,1,false):=by kernel_rfl
theorem T.t156 : tinfo Tryz.prog 156 = some (false,some (.slice none 0 0),1,24):=by kernel_rfl
theorem T.u156 : Tryz.prog.underlying 156 = some (.slice 158):=by kernel_rfl
theorem T.t158 : tinfo Tryz.prog 158 = some (true,some (.agg #[.int .i64 0,.int .i64 0,.slice none 0 0]),3,40):=by kernel_rfl
theorem T.f160_0 : fOff Tryz.prog 160 0 = some (0,1,false):=by kernel_rfl
theorem T.f160_3 : fOff Tryz.prog 160 3 = some (3,3,true):=by kernel_rfl
theorem T.s158 : sinfo Tryz.prog 158 = some ([(0,1),(1,1),(2,1)],[.int .i64 0,.int .i64 0,.slice none 0 0]):=by kernel_rfl
theorem T.s160 : sinfo Tryz.prog 160 = some ([(0,1),(1,1),(2,1),(3,3),(6,1),(7,1)],[.int .i64 0,.int .i64 0,.int .i64 0,.int .i64 0,.int .i64 0,.slice none 0 0,.slice none 0 0,.slice none 0 0]):=by kernel_rfl
theorem T.f126_1 : fOff Tryz.prog 126 1 = some (1,1,false):=by kernel_rfl
theorem T.f126_2 : fOff Tryz.prog 126 2 = some (2,1,false):=by kernel_rfl
theorem T.f126_3 : fOff Tryz.prog 126 3 = some (3,1,false):=by kernel_rfl
theorem T.f126_0 : fOff Tryz.prog 126 0 = some (0,1,false):=by kernel_rfl
theorem T.f126_4 : fOff Tryz.prog 126 4 = some (4,1,false):=by kernel_rfl
theorem T.u175 : Tryz.prog.underlying 175 = some (.slice 193):=by kernel_rfl
theorem T.t193 : tinfo Tryz.prog 193 = some (true,some (.agg #[.int .i64 0,.int .i64 0]),2,16):=by kernel_rfl
theorem T.f193_0 : fOff Tryz.prog 193 0 = some (0,1,false):=by kernel_rfl
theorem T.f193_1 : fOff Tryz.prog 193 1 = some (1,1,false):=by kernel_rfl
theorem T.s193 : sinfo Tryz.prog 193 = some ([(0,1),(1,1)],[.int .i64 0,.int .i64 0]):=by kernel_rfl
theorem T.e193 : einfo Tryz.prog 193 = some [(0,.int .i64),(1,.int .i64)]:=by kernel_rfl
theorem T.u172 : Tryz.prog.underlying 172 = some (.slice 175):=by kernel_rfl
theorem T.t175 : tinfo Tryz.prog 175 = some (false,some (.slice none 0 0),1,24):=by kernel_rfl
theorem T.u54 : Tryz.prog.underlying 54 = some (.slice 25):=by kernel_rfl
theorem T.t25 : tinfo Tryz.prog 25 = some (false,some (.slice none 0 0),1,24):=by kernel_rfl
theorem T.u55 : Tryz.prog.underlying 55 = some (.slice 4):=by kernel_rfl
theorem T.t4 : tinfo Tryz.prog 4 = some (false,some (.bool false),1,1):=by kernel_rfl
theorem T.u179 : Tryz.prog.underlying 179 = some (.slice 55):=by kernel_rfl
theorem T.t55 : tinfo Tryz.prog 55 = some (false,some (.slice none 0 0),1,24):=by kernel_rfl
theorem T.u4 : Tryz.prog.underlying 4 = some (.bool):=by kernel_rfl
theorem T.u101 : Tryz.prog.underlying 101 = some (.slice 104):=by kernel_rfl
theorem T.t104 : tinfo Tryz.prog 104 = some (false,some (.slice none 0 0),1,24):=by kernel_rfl
theorem T.s32 : sinfo Tryz.prog 32 = some ([(0,1),(1,1),(2,1),(3,1),(4,1)],[.int .i64 0,.int .i64 0,.int .i64 0,.int .i64 0,.int .i64 0]):=by kernel_rfl
theorem T.u23 : Tryz.prog.underlying 23 = some (.slice 32):=by kernel_rfl
theorem T.t32 : tinfo Tryz.prog 32 = some (true,some (.agg #[.int .i64 0,.int .i64 0,.int .i64 0,.int .i64 0,.int .i64 0]),5,40):=by kernel_rfl
theorem T.u39 : Tryz.prog.underlying 39 = some (.slice 23):=by kernel_rfl
theorem T.t23 : tinfo Tryz.prog 23 = some (false,some (.slice none 0 0),1,24):=by kernel_rfl
theorem T.u81 : Tryz.prog.underlying 81 = some (.int .u32):=by kernel_rfl
theorem T.f32_1 : fOff Tryz.prog 32 1 = some (1,1,false):=by kernel_rfl
theorem T.f32_2 : fOff Tryz.prog 32 2 = some (2,1,false):=by kernel_rfl
theorem T.f32_3 : fOff Tryz.prog 32 3 = some (3,1,false):=by kernel_rfl
theorem T.f32_4 : fOff Tryz.prog 32 4 = some (4,1,false):=by kernel_rfl
theorem T.f32_0 : fOff Tryz.prog 32 0 = some (0,1,false):=by kernel_rfl
theorem T.e32 : einfo Tryz.prog 32 = some [(0,.int .i64),(1,.int .i64),(2,.int .i64),(3,.int .i64),(4,.int .i64)]:=by kernel_rfl
theorem T.u76 : Tryz.prog.underlying 76 = some (.array 21 75):=by kernel_rfl
theorem T.t75 : tinfo Tryz.prog 75 = some (true,some (.agg #[.string ⟨#[]⟩,.int .i64 0,.int .i64 0,.int .i64 0]),4,40):=by kernel_rfl
theorem T.f75_2 : fOff Tryz.prog 75 2 = some (2,1,false):=by kernel_rfl
theorem T.f75_1 : fOff Tryz.prog 75 1 = some (1,1,false):=by kernel_rfl
theorem T.f75_3 : fOff Tryz.prog 75 3 = some (3,1,false):=by kernel_rfl
theorem T.u21 : Tryz.prog.underlying 21 = some (.int .i32):=by kernel_rfl
theorem T.t27 : tinfo Tryz.prog 27 = some (true,some (.agg #[.slice none 0 0,.int .i64 0,.slice none 0 0]),3,56):=by kernel_rfl
theorem T.s27 : sinfo Tryz.prog 27 = some ([(0,1),(1,1),(2,1)],[.slice none 0 0,.int .i64 0,.slice none 0 0]):=by kernel_rfl
theorem T.f27_0 : fOff Tryz.prog 27 0 = some (0,1,false):=by kernel_rfl
theorem T.f27_2 : fOff Tryz.prog 27 2 = some (2,1,false):=by kernel_rfl
theorem T.f27_1 : fOff Tryz.prog 27 1 = some (1,1,false):=by kernel_rfl
theorem T.t114 : tinfo Tryz.prog 114 = some (true,some (.agg #[.int .i64 0,.int .i64 0,.int .i64 0,.int .i64 0,.int .i64 0,.int .i64 0,.int .i64 0,.int .i64 0,.int .i64 0,.int .i64 0,.int .i64 0,.int .i64 0,.int .i64 0]),13,104):=by kernel_rfl
theorem T.u114 : Tryz.prog.underlying 114 = some (.array 13 3):=by kernel_rfl
def f85 (a0 : List Int) : Option (L6Rd):=
(sel (decide ((a0.length : Int) > 2000)) ((cut a0 0 2000).bind fun r1 =>
some r1) <|
some a0 : Option ((List Int))).bind fun y1 =>
some (L6Rd.mk y1 0)
def f01 (a0 : L6Rd) (a1 : Int) : Option (Int × Int):=
sel ((decide (a1 < 1)) || ((a0.b.length : Int) == 0)) (some (0,w64 (a0.p + 1))) <|
sel (decide ((w64 ((w64 (a0.p + 1)) - 1)) < (a0.b.length : Int))) ((nth a0.b (w64 ((w64 (a0.p + 1)) - 1))).bind fun x1 =>
(remO (w64 (x1)) a1).bind fun d1 =>
some (d1,w64 (a0.p + 1))) <|
(remO (w64 ((w64 (a0.p + 1)) - 1)) (a0.b.length : Int)).bind fun d2 =>
(nth a0.b d2).bind fun x2 =>
(remO (w64 ((w64 ((w64 ((w64 (a0.p + 1)) - 1)) * 7)) + 3)) (a0.b.length : Int)).bind fun d3 =>
(nth a0.b d3).bind fun x3 =>
(quoO .i64 (w64 ((w64 (a0.p + 1)) - 1)) (a0.b.length : Int)).bind fun d4 =>
(remO (bitsI .xor .i64 (w64 ((w64 ((w64 ((w64 ((w64 (x2)) * 131)) + (w64 ((w64 (x3)) * 1117)))) + (w64 ((w64 ((w64 (a0.p + 1)) - 1)) * 29)))) + (w64 (d4 * 53)))) (w64 (Int.tdiv (w64 ((w64 ((w64 ((w64 ((w64 (x2)) * 131)) + (w64 ((w64 (x3)) * 1117)))) + (w64 ((w64 ((w64 (a0.p + 1)) - 1)) * 29)))) + (w64 (d4 * 53)))) 64))) a1).bind fun d5 =>
some (d5,w64 (a0.p + 1))
def f1b (a0 : L6Rd) : Option (Int × Int):=
(f01 (L6Rd.mk a0.b a0.p) 6).bind fun y1 =>
some (y1.1,y1.2)
def f1l (a0 : Int) : Option (Int):=
sel (decide ((Int.tmod a0 4294967296) > 2147483647)) (some (w64 ((Int.tmod a0 4294967296) - 4294967296))) <|
sel (decide ((Int.tmod a0 4294967296) < (-2147483648))) (some (w64 ((Int.tmod a0 4294967296) + 4294967296))) <|
some (Int.tmod a0 4294967296)
def f7h (a0 : L6Rd) : Option (Int × Int):=
(f01 (L6Rd.mk a0.b a0.p) 6).bind fun y1 =>
sel (y1.1 == 0) ((f01 (L6Rd.mk a0.b y1.2) 8).bind fun y2 =>
(nth [(-2147483648),2147483647,(-1),0,1,(-2147483647),65536,(-65536)] y2.1).bind fun x1 =>
some (x1,y2.2)) <|
sel (y1.1 == 1) ((f01 (L6Rd.mk a0.b y1.2) 256).bind fun y3 =>
(f01 (L6Rd.mk a0.b y3.2) 256).bind fun y4 =>
(f01 (L6Rd.mk a0.b y4.2) 256).bind fun y5 =>
(f01 (L6Rd.mk a0.b y5.2) 200).bind fun y6 =>
(f1l (w64 ((w64 ((w64 ((w64 (y3.1 * 65536)) + (w64 (y4.1 * 256)))) + y5.1)) * (w64 (1 + y6.1))))).bind fun y7 =>
some (y7,y6.2)) <|
sel (y1.1 == 2) ((f01 (L6Rd.mk a0.b y1.2) 200).bind fun y8 =>
some (w64 (0 - y8.1),y8.2)) <|
(f01 (L6Rd.mk a0.b y1.2) 20).bind fun y9 =>
some (y9.1,y9.2)
def f7o (a0 : L6Rd) : Option (Int × Int):=
(f01 (L6Rd.mk a0.b a0.p) 12).bind fun y1 =>
some (w64 (1 + y1.1),y1.2)
def f7j (a0 : L6Rd) (a1 : Int) : Option (Quad × Int):=
(f01 (L6Rd.mk a0.b a0.p) 12).bind fun y1 =>
(sel (y1.1 == 0) (some (y1.1 == 0)) <|
some (y1.1 == 1) : Option (Bool)).bind fun y2 =>
sel y2 ((f1b (L6Rd.mk a0.b y1.2)).bind fun y3 =>
(f7h (L6Rd.mk a0.b y3.2)).bind fun y4 =>
(f01 (L6Rd.mk a0.b y4.2) 4).bind fun y5 =>
(nth [0,1,2,y4.1] y5.1).bind fun x1 =>
some ((Quad.mk 1 y3.1 0 0 x1),y5.2)) <|
(sel (y1.1 == 2) (some (y1.1 == 2)) <|
some (y1.1 == 3) : Option (Bool)).bind fun y6 =>
sel y6 ((f1b (L6Rd.mk a0.b y1.2)).bind fun y7 =>
(f1b (L6Rd.mk a0.b y7.2)).bind fun y8 =>
some ((Quad.mk 2 y7.1 y8.1 0 0),y8.2)) <|
(sel (y1.1 == 4) (some (y1.1 == 4)) <|
sel (y1.1 == 5) (some (y1.1 == 5)) <|
some (y1.1 == 6) : Option (Bool)).bind fun y9 =>
sel y9 ((f1b (L6Rd.mk a0.b y1.2)).bind fun y10 =>
(f1b (L6Rd.mk a0.b y10.2)).bind fun y11 =>
(f1b (L6Rd.mk a0.b y11.2)).bind fun y12 =>
(f7o (L6Rd.mk a0.b y12.2)).bind fun y13 =>
some ((Quad.mk 3 y10.1 y11.1 y12.1 y13.1),y13.2)) <|
sel (y1.1 == 7) ((f01 (L6Rd.mk a0.b y1.2) a1).bind fun y14 =>
some ((Quad.mk 4 0 0 0 y14.1),y14.2)) <|
sel (y1.1 == 8) ((f1b (L6Rd.mk a0.b y1.2)).bind fun y15 =>
(f01 (L6Rd.mk a0.b y15.2) a1).bind fun y16 =>
some ((Quad.mk 5 0 y15.1 0 y16.1),y16.2)) <|
sel (y1.1 == 9) ((f1b (L6Rd.mk a0.b y1.2)).bind fun y17 =>
(f01 (L6Rd.mk a0.b y17.2) 2).bind fun y18 =>
some ((Quad.mk 6 0 y17.1 0 y18.1),y18.2)) <|
sel (y1.1 == 10) ((f1b (L6Rd.mk a0.b y1.2)).bind fun y19 =>
(f01 (L6Rd.mk a0.b y19.2) 2).bind fun y20 =>
some ((Quad.mk 7 y19.1 0 0 y20.1),y20.2)) <|
(f01 (L6Rd.mk a0.b y1.2) 4).bind fun y21 =>
sel (y21.1 == 0) (some ((Quad.mk 8 0 0 0 0),y21.2)) <|
(f1b (L6Rd.mk a0.b y21.2)).bind fun y22 =>
some ((Quad.mk 9 0 y22.1 0 0),y22.2)
def f83 (a0 : L6Rd) (y1 : Int × Int) (s1 : (List Quad) × Int × Int) : Option (((List Quad) × Int × Int) ⊕ ((List Quad) × Int)):=
sel (decide ((w64 (s1.2.1 + 1)) < (w64 (1 + y1.1)))) ((f7j (L6Rd.mk a0.b s1.2.2) (w64 (1 + y1.1))).bind fun y5 =>
(app 40 s1.1 [y5.1]).bind fun r1 =>
some (.inl (r1,w64 (s1.2.1 + 1),y5.2))) <|
some (.inr (s1.1,s1.2.2))
noncomputable def f3s (a0 : L6Rd) : Option ((List Quad) × Int):=
(f01 (L6Rd.mk a0.b a0.p) 14).bind fun y1 =>
(iter (f83 a0 y1) ([],0,y1.2)).bind fun y2 =>
(f01 (L6Rd.mk a0.b y2.2) 3).bind fun y6 =>
sel (y6.1 == 0) ((f01 (L6Rd.mk a0.b y6.2) (w64 (1 + y1.1))).bind fun y7 =>
(app 40 y2.1 [(Quad.mk 4 0 0 0 y7.1)]).bind fun r2 =>
some (r2,y7.2)) <|
(app 40 y2.1 [(Quad.mk 10 0 0 0 0)]).bind fun r3 =>
some (r3,y6.2)
def f5r (a0 : List Stmt) (f2h : List Stmt → Option (Int)) (s1 : Int × Int) : Option ((Int × Int) ⊕ Int):=
sel (decide (s1.2 < (a0.length : Int))) ((nth a0 s1.2).bind fun x1 =>
(nth a0 s1.2).bind fun x2 =>
(f2h x1.Body).bind fun y4 =>
(f2h x2.Else).bind fun y5 =>
some (.inl (w64 ((w64 ((w64 (s1.1 + 1)) + y4)) + y5),w64 (s1.2 + 1)))) <|
some (.inr s1.1)
noncomputable def f2f (k : Nat) (f2h : List Stmt → Option (Int)) (a0 : List Stmt) : Option (Int):=
(iter (f5r a0 f2h) (0,0)).bind fun y1 =>
some y1
noncomputable def fa2 : Nat → (List Stmt → Option (Int))
 | 0=>((fun _=>none))
 | k + 1=>(f2f k (fa2 k))
noncomputable def f22 (k : Nat) : List Stmt → Option (Int):=(fa2 k)
def f05 (a0 : Int) (a1 : Int) (a2 : Int) : Option (Bool):=
some ((decide (a0 ≥ a1)) && (decide (a0 ≤ a2)))
def f32 (a0 : Stmt) (a1 : Bool) : Option (Bool):=
sel a1 ((f05 a0.Var 0 3).bind fun y1 =>
some y1) <|
some (a0.Var == 0)
def f31 (a0 : Stmt) (a1 : Bool) : Option (Bool):=
sel a1 ((f05 a0.Box 0 2).bind fun y1 =>
some y1) <|
some (a0.Box == 0)
def f46 (a0 : Int) : Option (Bool):=
(f05 a0 1 12).bind fun y1 =>
some y1
def f88 (k : Nat) (f84 : Expr → Int → Option (Bool)) (a0 : Expr) (a1 : Int) : Option (Bool):=
sel (decide (a1 < 1)) (some false) <|
sel (a0.Op == 0) ((f05 a0.N 0 99999).bind fun y1 =>
some (y1 && ((a0.Args.length : Int) == 0))) <|
sel (a0.Op == 13) ((f05 a0.N 0 3).bind fun y2 =>
some (y2 && ((a0.Args.length : Int) == 0))) <|
(f46 a0.Op).bind fun y3 =>
(sel ((y3 && (a0.N == 0)) && ((a0.Args.length : Int) == 2)) ((nth a0.Args 0).bind fun x1=>(f84 (Expr.mk x1.Op x1.N x1.Args) (w64 (a1 - 1))).bind fun y4=>some y4) (some false) : Option (Bool)).bind fun b1 =>
(sel b1 ((nth a0.Args 1).bind fun x2=>(f84 (Expr.mk x2.Op x2.N x2.Args) (w64 (a1 - 1))).bind fun y5=>some y5) (some false) : Option (Bool)).bind fun b2 =>
some b2
noncomputable def fbe : Nat → (Expr → Int → Option (Bool))
 | 0=>((fun _ _=>none))
 | k + 1=>(f88 k (fbe k))
noncomputable def f9y (k : Nat) : Expr → Int → Option (Bool):=(fbe k)
noncomputable def f1t (k : Nat) (a0 : Expr) : Option (Bool):=
(f9y k (Expr.mk a0.Op a0.N a0.Args) 5).bind fun y1 =>
some y1
def f4g (a0 : Expr) : Option (Bool):=
some (((a0.Op == 0) && (a0.N == 0)) && ((a0.Args.length : Int) == 0))
noncomputable def f40 (k : Nat) (a0 : Stmt) : Option (Bool):=
sel ((decide ((a0.Body.length : Int) > 0)) || (decide ((a0.Else.length : Int) > 0))) (some false) <|
sel (a0.Kind == 1) ((f32 (Stmt.mk a0.Kind a0.Var a0.Box (Expr.mk a0.Expr.Op a0.Expr.N a0.Expr.Args) a0.Body a0.Else) true).bind fun y1 =>
(sel y1 ((f31 (Stmt.mk a0.Kind a0.Var a0.Box (Expr.mk a0.Expr.Op a0.Expr.N a0.Expr.Args) a0.Body a0.Else) false).bind fun y2=>some y2) (some false) : Option (Bool)).bind fun b1 =>
(sel b1 ((f1t k (Expr.mk a0.Expr.Op a0.Expr.N a0.Expr.Args)).bind fun y3=>some y3) (some false) : Option (Bool)).bind fun b2 =>
some b2) <|
sel (a0.Kind == 4) ((f32 (Stmt.mk a0.Kind a0.Var a0.Box (Expr.mk a0.Expr.Op a0.Expr.N a0.Expr.Args) a0.Body a0.Else) false).bind fun y4 =>
(sel y4 ((f31 (Stmt.mk a0.Kind a0.Var a0.Box (Expr.mk a0.Expr.Op a0.Expr.N a0.Expr.Args) a0.Body a0.Else) true).bind fun y5=>some y5) (some false) : Option (Bool)).bind fun b3 =>
(sel b3 ((f1t k (Expr.mk a0.Expr.Op a0.Expr.N a0.Expr.Args)).bind fun y6=>some y6) (some false) : Option (Bool)).bind fun b4 =>
some b4) <|
sel (a0.Kind == 5) ((f32 (Stmt.mk a0.Kind a0.Var a0.Box (Expr.mk a0.Expr.Op a0.Expr.N a0.Expr.Args) a0.Body a0.Else) true).bind fun y7 =>
(sel y7 ((f31 (Stmt.mk a0.Kind a0.Var a0.Box (Expr.mk a0.Expr.Op a0.Expr.N a0.Expr.Args) a0.Body a0.Else) true).bind fun y8=>some y8) (some false) : Option (Bool)).bind fun b5 =>
(sel b5 ((f4g (Expr.mk a0.Expr.Op a0.Expr.N a0.Expr.Args)).bind fun y9=>some y9) (some false) : Option (Bool)).bind fun b6 =>
some b6) <|
sel (a0.Kind == 6) ((f32 (Stmt.mk a0.Kind a0.Var a0.Box (Expr.mk a0.Expr.Op a0.Expr.N a0.Expr.Args) a0.Body a0.Else) false).bind fun y10 =>
(sel y10 ((f31 (Stmt.mk a0.Kind a0.Var a0.Box (Expr.mk a0.Expr.Op a0.Expr.N a0.Expr.Args) a0.Body a0.Else) false).bind fun y11=>some y11) (some false) : Option (Bool)).bind fun b7 =>
(sel b7 ((f4g (Expr.mk a0.Expr.Op a0.Expr.N a0.Expr.Args)).bind fun y12=>some y12) (some false) : Option (Bool)).bind fun b8 =>
some b8) <|
sel (a0.Kind == 7) ((f32 (Stmt.mk a0.Kind a0.Var a0.Box (Expr.mk a0.Expr.Op a0.Expr.N a0.Expr.Args) a0.Body a0.Else) false).bind fun y13 =>
(sel y13 ((f31 (Stmt.mk a0.Kind a0.Var a0.Box (Expr.mk a0.Expr.Op a0.Expr.N a0.Expr.Args) a0.Body a0.Else) false).bind fun y14=>some y14) (some false) : Option (Bool)).bind fun b9 =>
(sel b9 ((f1t k (Expr.mk a0.Expr.Op a0.Expr.N a0.Expr.Args)).bind fun y15=>some y15) (some false) : Option (Bool)).bind fun b10 =>
some b10) <|
some false
def f82 (a0 : List Stmt) (a1 : Int) (f1x : Stmt → Int → Option (Bool)) (s1 : Int) : Option (Int ⊕ (Bool ⊕ Unit)):=
sel (decide (s1 < (a0.length : Int))) ((nth a0 s1).bind fun x1 =>
(f1x (Stmt.mk x1.Kind x1.Var x1.Box (Expr.mk x1.Expr.Op x1.Expr.N x1.Expr.Args) x1.Body x1.Else) a1).bind fun y4 =>
sel (!y4) (some (.inr (.inl false))) <|
some (.inl (w64 (s1 + 1)))) <|
some (.inr (.inr ()))
noncomputable def f48 (k : Nat) (f1e : List Stmt → Int → Option (Bool)) (f1x : Stmt → Int → Option (Bool)) (a0 : List Stmt) (a1 : Int) : Option (Bool):=
(iter (f82 a0 a1 f1x) 0).bind fun y1 =>
both y1 (fun o3=>some o3) (fun o4 =>
some true)
noncomputable def f79 (k : Nat) (f1e : List Stmt → Int → Option (Bool)) (f1x : Stmt → Int → Option (Bool)) (a0 : Stmt) (a1 : Int) : Option (Bool):=
sel ((a0.Kind != 2) && (a0.Kind != 3)) ((f40 k (Stmt.mk a0.Kind a0.Var a0.Box (Expr.mk a0.Expr.Op a0.Expr.N a0.Expr.Args) a0.Body a0.Else)).bind fun y1 =>
some y1) <|
sel ((decide (a1 < 1)) || ((a0.Kind == 3) && (decide ((a0.Else.length : Int) > 0)))) (some false) <|
(f32 (Stmt.mk a0.Kind a0.Var a0.Box (Expr.mk a0.Expr.Op a0.Expr.N a0.Expr.Args) a0.Body a0.Else) false).bind fun y2 =>
(sel y2 ((f31 (Stmt.mk a0.Kind a0.Var a0.Box (Expr.mk a0.Expr.Op a0.Expr.N a0.Expr.Args) a0.Body a0.Else) false).bind fun y3=>some y3) (some false) : Option (Bool)).bind fun b1 =>
(sel b1 ((f1t k (Expr.mk a0.Expr.Op a0.Expr.N a0.Expr.Args)).bind fun y4=>some y4) (some false) : Option (Bool)).bind fun b2 =>
(sel b2 ((f1e a0.Body (w64 (a1 - 1))).bind fun y5=>some y5) (some false) : Option (Bool)).bind fun b3 =>
(sel b3 ((f1e a0.Else (w64 (a1 - 1))).bind fun y6=>some y6) (some false) : Option (Bool)).bind fun b4 =>
some b4
noncomputable def f27 : Nat → (List Stmt → Int → Option (Bool)) × (Stmt → Int → Option (Bool))
 | 0=>((fun _ _=>none),(fun _ _=>none))
 | k + 1=>(f48 k (f27 k).1 (f27 k).2,f79 k (f27 k).1 (f27 k).2)
noncomputable def f1j (k : Nat) : List Stmt → Int → Option (Bool):=(f27 k).1
noncomputable def fb3 (k : Nat) : Stmt → Int → Option (Bool):=(f27 k).2
noncomputable def f4m (k : Nat) (a0 : List Stmt) : Option (Bool):=
(f1j k a0 3).bind fun y1 =>
(sel y1 ((f22 k a0).bind fun y2=>some (decide (y2 ≤ 16))) (some false) : Option (Bool)).bind fun b1 =>
some b1
def f55 (k : Nat) (f5g : Expr → Int → Option ((List Quad))) (a0 : Expr) (a1 : Int) : Option ((List Quad)):=
sel (a0.Op == 0) (some [(Quad.mk 1 a1 0 0 a0.N)]) <|
sel (a0.Op == 13) (some [(Quad.mk 2 a1 a0.N 0 0)]) <|
(nth a0.Args 0).bind fun x1 =>
(nth a0.Args 1).bind fun x2 =>
(f5g (Expr.mk x1.Op x1.N x1.Args) a1).bind fun y1 =>
(f5g (Expr.mk x2.Op x2.N x2.Args) (w64 (a1 + 1))).bind fun y2 =>
(app 40 y1 y2).bind fun r1 =>
(app 40 r1 [(Quad.mk 3 a1 a1 (w64 (a1 + 1)) a0.Op)]).bind fun r2 =>
some r2
noncomputable def fab : Nat → (Expr → Int → Option ((List Quad)))
 | 0=>((fun _ _=>none))
 | k + 1=>(f55 k (fab k))
noncomputable def f1z (k : Nat) : Expr → Int → Option ((List Quad)):=(fab k)
def f96 (a0 : List Stmt) (a1 : Int) (f0i : Stmt → Int → Option ((List Quad))) (s1 : (List Quad) × Int) : Option (((List Quad) × Int) ⊕ ((List Quad))):=
sel (decide (s1.2 < (a0.length : Int))) ((nth a0 s1.2).bind fun x1 =>
(f0i (Stmt.mk x1.Kind x1.Var x1.Box (Expr.mk x1.Expr.Op x1.Expr.N x1.Expr.Args) x1.Body x1.Else) (w64 (a1 + (s1.1.length : Int)))).bind fun y4 =>
(app 40 s1.1 y4).bind fun r1 =>
some (.inl (r1,w64 (s1.2 + 1)))) <|
some (.inr s1.1)
noncomputable def f5h (k : Nat) (f0h : List Stmt → Int → Option ((List Quad))) (f0i : Stmt → Int → Option ((List Quad))) (f0v : Stmt → Int → Option ((List Quad))) (f0l : Stmt → Int → Option ((List Quad))) (a0 : List Stmt) (a1 : Int) : Option ((List Quad)):=
(iter (f96 a0 a1 f0i) ([],0)).bind fun y1 =>
some y1
noncomputable def f5j (k : Nat) (f0h : List Stmt → Int → Option ((List Quad))) (f0i : Stmt → Int → Option ((List Quad))) (f0v : Stmt → Int → Option ((List Quad))) (f0l : Stmt → Int → Option ((List Quad))) (a0 : Stmt) (a1 : Int) : Option ((List Quad)):=
(f1z k (Expr.mk a0.Expr.Op a0.Expr.N a0.Expr.Args) 4).bind fun y1 =>
sel (a0.Kind == 2) ((f0v (Stmt.mk a0.Kind a0.Var a0.Box (Expr.mk a0.Expr.Op a0.Expr.N a0.Expr.Args) a0.Body a0.Else) a1).bind fun y2 =>
some y2) <|
sel (a0.Kind == 3) ((f0l (Stmt.mk a0.Kind a0.Var a0.Box (Expr.mk a0.Expr.Op a0.Expr.N a0.Expr.Args) a0.Body a0.Else) a1).bind fun y3 =>
some y3) <|
sel (a0.Kind == 1) ((app 40 y1 [(Quad.mk 2 a0.Var 4 0 0)]).bind fun r1 =>
some r1) <|
sel (a0.Kind == 4) ((app 40 y1 [(Quad.mk 6 0 4 0 a0.Box)]).bind fun r2 =>
some r2) <|
sel (a0.Kind == 7) ((app 40 y1 [(Quad.mk 9 0 4 0 0)]).bind fun r3 =>
some r3) <|
sel (a0.Kind == 5) (some [(Quad.mk 7 a0.Var 0 0 a0.Box)]) <|
some [(Quad.mk 8 0 0 0 0)]
noncomputable def f7a (k : Nat) (f0h : List Stmt → Int → Option ((List Quad))) (f0i : Stmt → Int → Option ((List Quad))) (f0v : Stmt → Int → Option ((List Quad))) (f0l : Stmt → Int → Option ((List Quad))) (a0 : Stmt) (a1 : Int) : Option ((List Quad)):=
(f1z k (Expr.mk a0.Expr.Op a0.Expr.N a0.Expr.Args) 4).bind fun y1 =>
(f0h a0.Body (w64 ((w64 (a1 + (y1.length : Int))) + 1))).bind fun y2 =>
sel ((a0.Else.length : Int) == 0) ((app 40 y1 [(Quad.mk 5 0 4 0 (w64 ((w64 ((w64 (a1 + (y1.length : Int))) + 1)) + (y2.length : Int))))]).bind fun r1 =>
(app 40 r1 y2).bind fun r2 =>
some r2) <|
(f0h a0.Else (w64 ((w64 ((w64 ((w64 (a1 + (y1.length : Int))) + 1)) + (y2.length : Int))) + 1))).bind fun y3 =>
(app 40 y1 [(Quad.mk 5 0 4 0 (w64 ((w64 ((w64 ((w64 (a1 + (y1.length : Int))) + 1)) + (y2.length : Int))) + 1)))]).bind fun r3 =>
(app 40 r3 y2).bind fun r4 =>
(app 40 r4 [(Quad.mk 4 0 0 0 (w64 ((w64 ((w64 ((w64 ((w64 (a1 + (y1.length : Int))) + 1)) + (y2.length : Int))) + 1)) + (y3.length : Int))))]).bind fun r5 =>
(app 40 r5 y3).bind fun r6 =>
some r6
noncomputable def f4o (k : Nat) (f0h : List Stmt → Int → Option ((List Quad))) (f0i : Stmt → Int → Option ((List Quad))) (f0v : Stmt → Int → Option ((List Quad))) (f0l : Stmt → Int → Option ((List Quad))) (a0 : Stmt) (a1 : Int) : Option ((List Quad)):=
(f1z k (Expr.mk a0.Expr.Op a0.Expr.N a0.Expr.Args) 4).bind fun y1 =>
(f0h a0.Body (w64 ((w64 (a1 + (y1.length : Int))) + 1))).bind fun y2 =>
(app 40 y1 [(Quad.mk 5 0 4 0 (w64 ((w64 ((w64 ((w64 (a1 + (y1.length : Int))) + 1)) + (y2.length : Int))) + 1)))]).bind fun r1 =>
(app 40 r1 y2).bind fun r2 =>
(app 40 r2 [(Quad.mk 4 0 0 0 a1)]).bind fun r3 =>
some r3
noncomputable def f09 : Nat → (List Stmt → Int → Option ((List Quad))) × (Stmt → Int → Option ((List Quad))) × (Stmt → Int → Option ((List Quad))) × (Stmt → Int → Option ((List Quad)))
 | 0=>((fun _ _=>none),(fun _ _=>none),(fun _ _=>none),(fun _ _=>none))
 | k + 1=>(f5h k (f09 k).1 (f09 k).2.1 (f09 k).2.2.1 (f09 k).2.2.2,f5j k (f09 k).1 (f09 k).2.1 (f09 k).2.2.1 (f09 k).2.2.2,f7a k (f09 k).1 (f09 k).2.1 (f09 k).2.2.1 (f09 k).2.2.2,f4o k (f09 k).1 (f09 k).2.1 (f09 k).2.2.1 (f09 k).2.2.2)
noncomputable def f36 (k : Nat) : List Stmt → Int → Option ((List Quad)):=(f09 k).1
noncomputable def f4z (k : Nat) : Stmt → Int → Option ((List Quad)):=(f09 k).2.1
noncomputable def f93 (k : Nat) : Stmt → Int → Option ((List Quad)):=(f09 k).2.2.1
noncomputable def f6e (k : Nat) : Stmt → Int → Option ((List Quad)):=(f09 k).2.2.2
noncomputable def f49 (k : Nat) (a0 : List Stmt) : Option ((List Quad) × Bool):=
(f4m k a0).bind fun y1 =>
sel (!y1) (some ([],false)) <|
(f36 k a0 0).bind fun y2 =>
(app 40 y2 [(Quad.mk 10 0 0 0 0)]).bind fun r1 =>
some (r1,true)
def f6l (a0 : Int) (a1 : Expr) (a2 : Expr) : Option (Expr):=
some (Expr.mk a0 0 [(Expr.mk a1.Op a1.N a1.Args),(Expr.mk a2.Op a2.N a2.Args)])
def f1y (a0 : Int) (a1 : Int) : Option (Expr):=
some (Expr.mk a0 a1 [])
def f5e (a0 : L6Rd) : Option (Expr × Int):=
(f01 (L6Rd.mk a0.b a0.p) 4).bind fun y1 =>
sel (y1.1 == 0) ((f01 (L6Rd.mk a0.b y1.2) 4).bind fun y2 =>
(f1y 0 y2.1).bind fun y3 =>
some ((Expr.mk y3.Op y3.N y3.Args),y2.2)) <|
sel (y1.1 == 1) ((f01 (L6Rd.mk a0.b y1.2) 8).bind fun y4 =>
(nth [5,31,32,100,2047,2048,65536,99999] y4.1).bind fun x1 =>
(f1y 0 x1).bind fun y5 =>
some ((Expr.mk y5.Op y5.N y5.Args),y4.2)) <|
(f01 (L6Rd.mk a0.b y1.2) 4).bind fun y6 =>
(f1y 13 y6.1).bind fun y7 =>
some ((Expr.mk y7.Op y7.N y7.Args),y6.2)
def f54 (k : Nat) (f5m : L6Rd → Int → Option (Expr × Int)) (a0 : L6Rd) (a1 : Int) : Option (Expr × Int):=
(sel (decide (a1 < 2)) (some (true,a0.p)) ((f01 (L6Rd.mk a0.b a0.p) 3).bind fun y1=>some (y1.1 == 0,y1.2)) : Option (Bool × Int)).bind fun b1 =>
sel b1.1 ((f5e (L6Rd.mk a0.b b1.2)).bind fun y2 =>
some ((Expr.mk y2.1.Op y2.1.N y2.1.Args),y2.2)) <|
(f7o (L6Rd.mk a0.b b1.2)).bind fun y3 =>
(f5m (L6Rd.mk a0.b y3.2) (w64 (a1 - 1))).bind fun y4 =>
(f5m (L6Rd.mk a0.b y4.2) (w64 (a1 - 1))).bind fun y5 =>
(f6l y3.1 (Expr.mk y4.1.Op y4.1.N y4.1.Args) (Expr.mk y5.1.Op y5.1.N y5.1.Args)).bind fun y6 =>
some ((Expr.mk y6.Op y6.N y6.Args),y5.2)
noncomputable def fag : Nat → (L6Rd → Int → Option (Expr × Int))
 | 0=>((fun _ _=>none))
 | k + 1=>(f54 k (fag k))
noncomputable def f2i (k : Nat) : L6Rd → Int → Option (Expr × Int):=(fag k)
noncomputable def f6m (k : Nat) (a0 : L6Rd) : Option (Stmt × Int):=
(f01 (L6Rd.mk a0.b a0.p) 3).bind fun y1 =>
(f01 (L6Rd.mk a0.b y1.2) 3).bind fun y2 =>
(f2i k (L6Rd.mk a0.b y2.2) (w64 (1 + y2.1))).bind fun y3 =>
some ((Stmt.mk 1 y1.1 0 (Expr.mk y3.1.Op y3.1.N y3.1.Args) [] []),y3.2)
noncomputable def f7b (k : Nat) (a0 : L6Rd) (a1 : Int) : Option (Stmt × Int):=
sel (decide (a1 < 1)) ((f6m k (L6Rd.mk a0.b a0.p)).bind fun y1 =>
some ((Stmt.mk y1.1.Kind y1.1.Var y1.1.Box (Expr.mk y1.1.Expr.Op y1.1.Expr.N y1.1.Expr.Args) y1.1.Body y1.1.Else),y1.2)) <|
(f01 (L6Rd.mk a0.b a0.p) a1).bind fun y2 =>
(f01 (L6Rd.mk a0.b y2.2) 2).bind fun y3 =>
sel (y3.1 == 0) ((f01 (L6Rd.mk a0.b y3.2) 3).bind fun y4 =>
(f2i k (L6Rd.mk a0.b y4.2) (w64 (1 + y4.1))).bind fun y5 =>
some ((Stmt.mk 4 0 y2.1 (Expr.mk y5.1.Op y5.1.N y5.1.Args) [] []),y5.2)) <|
(f01 (L6Rd.mk a0.b y3.2) 3).bind fun y6 =>
some ((Stmt.mk 5 y6.1 y2.1 (Expr.mk 0 0 []) [] []),y6.2)
def f8j (a0 : L6Rd) (a1 : Int) (a2 : Int) (a3 : Int) (a4 : Bool) (f0j : L6Rd → Int → Int → Bool → Option ((List Stmt) × Int)) (s1 : (List Stmt) × Int × Int) : Option (((List Stmt) × Int × Int) ⊕ ((List Stmt) × Int)):=
sel (decide (s1.2.1 < a3)) ((f0j (L6Rd.mk a0.b s1.2.2) a1 a2 a4).bind fun y4 =>
(app 112 s1.1 y4.1).bind fun r1 =>
some (.inl (r1,w64 (s1.2.1 + 1),y4.2))) <|
some (.inr (s1.1,s1.2.2))
noncomputable def f4p (k : Nat) (f0d : L6Rd → Int → Int → Int → Bool → Option ((List Stmt) × Int)) (f0j : L6Rd → Int → Int → Bool → Option ((List Stmt) × Int)) (f0w : L6Rd → Int → Int → Bool → Option (Stmt × Int)) (f0o : L6Rd → Int → Int → Option ((List Stmt) × Int)) (a0 : L6Rd) (a1 : Int) (a2 : Int) (a3 : Int) (a4 : Bool) : Option ((List Stmt) × Int):=
(iter (f8j a0 a1 a2 a3 a4 f0j) ([],0,a0.p)).bind fun y1 =>
some (y1.1,y1.2)
noncomputable def f5d (k : Nat) (f0d : L6Rd → Int → Int → Int → Bool → Option ((List Stmt) × Int)) (f0j : L6Rd → Int → Int → Bool → Option ((List Stmt) × Int)) (f0w : L6Rd → Int → Int → Bool → Option (Stmt × Int)) (f0o : L6Rd → Int → Int → Option ((List Stmt) × Int)) (a0 : L6Rd) (a1 : Int) (a2 : Int) (a3 : Bool) : Option ((List Stmt) × Int):=
((f01 (L6Rd.mk a0.b a0.p) 10).bind fun y2 =>
(sel (y2.1 == 0) (some (y2.1 == 0)) <|
some (y2.1 == 1) : Option (Bool)).bind fun y3 =>
sel y3 ((f6m k (L6Rd.mk a0.b y2.2)).bind fun y4 =>
some (.inr ([(Stmt.mk y4.1.Kind y4.1.Var y4.1.Box (Expr.mk y4.1.Expr.Op y4.1.Expr.N y4.1.Expr.Args) y4.1.Body y4.1.Else)],y4.2))) <|
sel (y2.1 == 2) (sel (decide (a2 > 0)) ((f0w (L6Rd.mk a0.b y2.2) a1 a2 a3).bind fun y5 =>
some (.inr ([(Stmt.mk y5.1.Kind y5.1.Var y5.1.Box (Expr.mk y5.1.Expr.Op y5.1.Expr.N y5.1.Expr.Args) y5.1.Body y5.1.Else)],y5.2))) <|
some (.inl y2.2)) <|
sel (y2.1 == 3) (sel ((decide (a2 > 0)) && a3) ((f0o (L6Rd.mk a0.b y2.2) a1 a2).bind fun y6 =>
some (.inr (y6.1,y6.2))) <|
some (.inl y2.2)) <|
(sel (y2.1 == 4) (some (y2.1 == 4)) <|
sel (y2.1 == 5) (some (y2.1 == 5)) <|
some (y2.1 == 6) : Option (Bool)).bind fun y7 =>
sel y7 ((f7b k (L6Rd.mk a0.b y2.2) a1).bind fun y8 =>
some (.inr ([(Stmt.mk y8.1.Kind y8.1.Var y8.1.Box (Expr.mk y8.1.Expr.Op y8.1.Expr.N y8.1.Expr.Args) y8.1.Body y8.1.Else)],y8.2))) <|
sel (y2.1 == 7) (some (.inr ([(Stmt.mk 6 0 0 (Expr.mk 0 0 []) [] [])],y2.2))) <|
some (.inl y2.2) : Option (Int ⊕ ((List Stmt) × Int))).bind fun y1 =>
both y1 (fun o3=>(f01 (L6Rd.mk a0.b o3) 3).bind fun y9 =>
(f2i k (L6Rd.mk a0.b y9.2) (w64 (1 + y9.1))).bind fun y10 =>
some ([(Stmt.mk 7 0 0 (Expr.mk y10.1.Op y10.1.N y10.1.Args) [] [])],y10.2)) (fun o4 =>
some o4)
noncomputable def f7k (k : Nat) (f0d : L6Rd → Int → Int → Int → Bool → Option ((List Stmt) × Int)) (f0j : L6Rd → Int → Int → Bool → Option ((List Stmt) × Int)) (f0w : L6Rd → Int → Int → Bool → Option (Stmt × Int)) (f0o : L6Rd → Int → Int → Option ((List Stmt) × Int)) (a0 : L6Rd) (a1 : Int) (a2 : Int) (a3 : Bool) : Option (Stmt × Int):=
(f01 (L6Rd.mk a0.b a0.p) 2).bind fun y1 =>
(f2i k (L6Rd.mk a0.b y1.2) (w64 (1 + y1.1))).bind fun y2 =>
(f01 (L6Rd.mk a0.b y2.2) 3).bind fun y3 =>
(f0d (L6Rd.mk a0.b y3.2) a1 (w64 (a2 - 1)) y3.1 a3).bind fun y4 =>
(f01 (L6Rd.mk a0.b y4.2) 3).bind fun y5 =>
(f0d (L6Rd.mk a0.b y5.2) a1 (w64 (a2 - 1)) y5.1 a3).bind fun y6 =>
some ((Stmt.mk 2 0 0 (Expr.mk y2.1.Op y2.1.N y2.1.Args) y4.1 y6.1),y6.2)
def f5a (k : Nat) (f0d : L6Rd → Int → Int → Int → Bool → Option ((List Stmt) × Int)) (f0j : L6Rd → Int → Int → Bool → Option ((List Stmt) × Int)) (f0w : L6Rd → Int → Int → Bool → Option (Stmt × Int)) (f0o : L6Rd → Int → Int → Option ((List Stmt) × Int)) (a0 : L6Rd) (a1 : Int) (a2 : Int) : Option ((List Stmt) × Int):=
(f01 (L6Rd.mk a0.b a0.p) 3).bind fun y1 =>
(f0d (L6Rd.mk a0.b y1.2) a1 (w64 (a2 - 1)) y1.1 false).bind fun y2 =>
(f1y 13 3).bind fun y3 =>
(f1y 0 1).bind fun y4 =>
(f6l 8 (Expr.mk y3.Op y3.N y3.Args) (Expr.mk y4.Op y4.N y4.Args)).bind fun y5 =>
(f1y 13 3).bind fun y6 =>
(f01 (L6Rd.mk a0.b y2.2) 3).bind fun y7 =>
(f1y 0 (w64 (1 + y7.1))).bind fun y8 =>
(f6l 5 (Expr.mk y6.Op y6.N y6.Args) (Expr.mk y8.Op y8.N y8.Args)).bind fun y9 =>
(app 112 y2.1 [(Stmt.mk 1 3 0 (Expr.mk y5.Op y5.N y5.Args) [] [])]).bind fun r1 =>
(f1y 0 0).bind fun y10 =>
some ([(Stmt.mk 1 3 0 (Expr.mk y10.Op y10.N y10.Args) [] []),(Stmt.mk 3 0 0 (Expr.mk y9.Op y9.N y9.Args) r1 [])],y7.2)
noncomputable def f07 : Nat → (L6Rd → Int → Int → Int → Bool → Option ((List Stmt) × Int)) × (L6Rd → Int → Int → Bool → Option ((List Stmt) × Int)) × (L6Rd → Int → Int → Bool → Option (Stmt × Int)) × (L6Rd → Int → Int → Option ((List Stmt) × Int))
 | 0=>((fun _ _ _ _ _=>none),(fun _ _ _ _=>none),(fun _ _ _ _=>none),(fun _ _ _=>none))
 | k + 1=>(f4p k (f07 k).1 (f07 k).2.1 (f07 k).2.2.1 (f07 k).2.2.2,f5d k (f07 k).1 (f07 k).2.1 (f07 k).2.2.1 (f07 k).2.2.2,f7k k (f07 k).1 (f07 k).2.1 (f07 k).2.2.1 (f07 k).2.2.2,f5a k (f07 k).1 (f07 k).2.1 (f07 k).2.2.1 (f07 k).2.2.2)
noncomputable def f21 (k : Nat) : L6Rd → Int → Int → Int → Bool → Option ((List Stmt) × Int):=(f07 k).1
noncomputable def f50 (k : Nat) : L6Rd → Int → Int → Bool → Option ((List Stmt) × Int):=(f07 k).2.1
noncomputable def f94 (k : Nat) : L6Rd → Int → Int → Bool → Option (Stmt × Int):=(f07 k).2.2.1
noncomputable def f78 (k : Nat) : L6Rd → Int → Int → Option ((List Stmt) × Int):=(f07 k).2.2.2
noncomputable def f8n (k : Nat) (s1 : (List Stmt)) : Option (((List Stmt)) ⊕ ((List Stmt))):=
(f22 k s1).bind fun y6 =>
sel (decide (y6 > 16)) ((cut s1 0 (w64 ((s1.length : Int) - 1))).bind fun r1 =>
some (.inl r1)) <|
some (.inr s1)
noncomputable def f64 (k : Nat) (a0 : L6Rd) (a1 : Int) : Option ((List Stmt) × Int):=
(f01 (L6Rd.mk a0.b a0.p) 6).bind fun y1 =>
(f21 k (L6Rd.mk a0.b y1.2) a1 3 (w64 (1 + y1.1)) true).bind fun y2 =>
(iter (f8n k) y2.1).bind fun y3 =>
some (y3,y2.2)
def f19 (a0 : Int) : Option (Bool):=
(f05 a0 (-2147483648) 2147483647).bind fun y1 =>
some y1
def f4u (a0 : Int) (a1 : Bool) : Option (Bool):=
sel a1 ((f05 a0 0 11).bind fun y1 =>
some y1) <|
some (a0 == 0)
def f1a (a0 : Quad) (a1 : Bool) (a2 : Bool) (a3 : Bool) : Option (Bool):=
(f4u a0.Dst a1).bind fun y1 =>
(sel y1 ((f4u a0.A a2).bind fun y2=>some y2) (some false) : Option (Bool)).bind fun b1 =>
(sel b1 ((f4u a0.B a3).bind fun y3=>some y3) (some false) : Option (Bool)).bind fun b2 =>
some b2
def f2s (a0 : Quad) (a1 : Int) : Option (Bool):=
sel (a0.Op == 1) ((f1a a0 true false false).bind fun y1 =>
(sel y1 ((f19 a0.N).bind fun y2=>some y2) (some false) : Option (Bool)).bind fun b1 =>
some b1) <|
sel (a0.Op == 2) ((f1a a0 true true false).bind fun y3 =>
some (y3 && (a0.N == 0))) <|
sel (a0.Op == 3) ((f1a a0 true true true).bind fun y4 =>
(sel y4 ((f46 a0.N).bind fun y5=>some y5) (some false) : Option (Bool)).bind fun b2 =>
some b2) <|
sel (a0.Op == 4) ((f1a a0 false false false).bind fun y6 =>
some ((y6 && (decide (a0.N ≥ 0))) && (decide (a0.N < a1)))) <|
sel (a0.Op == 5) ((f1a a0 false true false).bind fun y7 =>
some ((y7 && (decide (a0.N ≥ 0))) && (decide (a0.N < a1)))) <|
sel (a0.Op == 6) ((f1a a0 false true false).bind fun y8 =>
(sel y8 ((f05 a0.N 0 2).bind fun y9=>some y9) (some false) : Option (Bool)).bind fun b3 =>
some b3) <|
sel (a0.Op == 7) ((f1a a0 true false false).bind fun y10 =>
(sel y10 ((f05 a0.N 0 2).bind fun y11=>some y11) (some false) : Option (Bool)).bind fun b4 =>
some b4) <|
sel (a0.Op == 9) ((f1a a0 false true false).bind fun y12 =>
some (y12 && (a0.N == 0))) <|
(sel (a0.Op == 8) (some (a0.Op == 8)) <|
some (a0.Op == 10) : Option (Bool)).bind fun y13 =>
sel y13 ((f1a a0 false false false).bind fun y14 =>
some (y14 && (a0.N == 0))) <|
some false
def f7w (a0 : List Quad) (s1 : Int) : Option (Int ⊕ (Bool ⊕ Unit)):=
sel (decide (s1 < (a0.length : Int))) ((nth a0 s1).bind fun x1 =>
(f2s x1 (a0.length : Int)).bind fun y5 =>
sel (!y5) (some (.inr (.inl false))) <|
some (.inl (w64 (s1 + 1)))) <|
some (.inr (.inr ()))
noncomputable def f0s (a0 : List Quad) : Option (Bool):=
(f05 (a0.length : Int) 1 600).bind fun y1 =>
sel (!y1) (some false) <|
(iter (f7w a0) 0).bind fun y2 =>
both y2 (fun o3=>some o3) (fun o4 =>
(nth a0 (w64 ((a0.length : Int) - 1))).bind fun x2 =>
(sel (x2.Op == 10) (some true) ((nth a0 (w64 ((a0.length : Int) - 1))).bind fun x3=>some (x3.Op == 4)) : Option (Bool)).bind fun b1 =>
some b1)
def f1w (a0 : List Quad) (a1 : Int) : Option ((List Int)):=
(nth a0 a1).bind fun x1 =>
sel (x1.Op == 10) (some []) <|
sel (x1.Op == 4) (some [x1.N]) <|
sel ((x1.Op == 5) && (decide (x1.N < (w64 (a1 + 1))))) (some [x1.N,w64 (a1 + 1)]) <|
sel ((x1.Op == 5) && (decide (x1.N > (w64 (a1 + 1))))) (some [w64 (a1 + 1),x1.N]) <|
some [w64 (a1 + 1)]
def f67 (a0 : List Quad) (a1 : List Fact) (a2 : Int) : Option ((List Int)):=
(nth a0 a2).bind fun x1 =>
(sel (x1.Op != 5) (some true) ((nth a1 x1.A).bind fun x2=>some (x2.Kind != 1)) : Option (Bool)).bind fun b1 =>
sel b1 ((f1w a0 a2).bind fun y1 =>
some y1) <|
(nth a1 x1.A).bind fun x3 =>
sel (x3.N == 0) (some [x1.N]) <|
some [w64 (a2 + 1)]
def f9v (a0 : Bool) : Option (Int):=
sel a0 (some 1) <|
some 0
def f4x (a0 : Int) (a1 : Int) (a2 : Bool) : Option (Int):=
sel a2 ((shO .shr .i64 a0 (bitsI .and .i64 a1 31)).bind fun d1 =>
some d1) <|
(shO .shl .i64 a0 (bitsI .and .i64 a1 31)).bind fun d2 =>
(f1l d2).bind fun y1 =>
some y1
def f8f (a0 : Int) (a1 : Int) : Option (Int):=
sel (a1 == 0) (some (-1)) <|
(quoO .i64 a0 a1).bind fun d1 =>
(f1l d1).bind fun y1 =>
some y1
def f8c (a0 : Int) (a1 : Int) : Option (Int):=
sel (a1 == 0) (some a0) <|
(remO a0 a1).bind fun d1 =>
some d1
def f9f (a0 : Int) (a1 : Int) (a2 : Int) : Option (Int × Bool):=
(f46 a0).bind fun y1 =>
(sel (!y1) (some true) ((f19 a1).bind fun y2=>some (!y2)) : Option (Bool)).bind fun b1 =>
(sel b1 (some true) ((f19 a2).bind fun y3=>some (!y3)) : Option (Bool)).bind fun b2 =>
sel b2 (some (0,false)) <|
sel (a0 == 1) (some (bitsI .or .i64 a1 a2,true)) <|
sel (a0 == 2) (some (bitsI .xor .i64 a1 a2,true)) <|
sel (a0 == 3) (some (bitsI .and .i64 a1 a2,true)) <|
sel (a0 == 4) ((f9v (a1 == a2)).bind fun y4 =>
some (y4,true)) <|
sel (a0 == 5) ((f9v (decide (a1 < a2))).bind fun y5 =>
some (y5,true)) <|
sel (a0 == 6) ((f4x a1 a2 false).bind fun y6 =>
some (y6,true)) <|
sel (a0 == 7) ((f4x a1 a2 true).bind fun y7 =>
some (y7,true)) <|
sel (a0 == 8) ((f1l (w64 (a1 + a2))).bind fun y8 =>
some (y8,true)) <|
sel (a0 == 9) ((f1l (w64 (a1 - a2))).bind fun y9 =>
some (y9,true)) <|
sel (a0 == 10) ((f1l (w64 (a1 * a2))).bind fun y10 =>
some (y10,true)) <|
sel (a0 == 11) ((f8f a1 a2).bind fun y11 =>
some (y11,true)) <|
(f8c a1 a2).bind fun y12 =>
some (y12,true)
def f3x (a0 : Quad) (a1 : Fact) (a2 : Fact) : Option (Fact):=
sel ((a1.Kind != 1) || (a2.Kind != 1)) (some (Fact.mk 2 0)) <|
(f9f a0.N a1.N a2.N).bind fun y1 =>
some (Fact.mk 1 y1.1)
def f69 (a0 : Quad) (a1 : List Fact) : Option ((List Fact)):=
(app 16 [] a1).bind fun r1 =>
sel (a0.Op == 1) ((nth r1 a0.Dst).bind fun x1 =>
(upd r1 a0.Dst (Fact.mk 1 a0.N)).bind fun r2 =>
some r2) <|
sel (a0.Op == 2) ((nth a1 a0.A).bind fun x2 =>
(nth r1 a0.Dst).bind fun x3 =>
(upd r1 a0.Dst x2).bind fun r3 =>
some r3) <|
sel (a0.Op == 7) ((nth r1 a0.Dst).bind fun x4 =>
(upd r1 a0.Dst (Fact.mk 2 0)).bind fun r4 =>
some r4) <|
sel (a0.Op == 3) ((nth a1 a0.A).bind fun x5 =>
(nth a1 a0.B).bind fun x6 =>
(f3x a0 x5 x6).bind fun y1 =>
(nth r1 a0.Dst).bind fun x7 =>
(upd r1 a0.Dst y1).bind fun r5 =>
some r5) <|
some r1
def f6x (a0 : Fact) (a1 : Fact) : Option (Fact):=
sel (a0.Kind == 0) (some a1) <|
sel ((a1.Kind == 0) || ((a0.Kind == a1.Kind) && ((a0.N == a1.N) && true))) (some a0) <|
some (Fact.mk 2 0)
def f8l (a1 : Int) (a2 : List Fact) (s1 : Bool × Int × (List (List Fact))) : Option ((Bool × Int × (List (List Fact))) ⊕ (Bool × (List (List Fact)))):=
sel (decide (s1.2.1 < 12)) (((nth s1.2.2 a1).bind fun x1 =>
(nth x1 s1.2.1).bind fun x4 =>
(nth a2 s1.2.1).bind fun x5 =>
(f6x x4 x5).bind fun y6 =>
(nth s1.2.2 a1).bind fun x6 =>
(nth x6 s1.2.1).bind fun x8 =>
sel (!((y6.Kind == x8.Kind) && ((y6.N == x8.N) && true))) ((nth x6 s1.2.1).bind fun x9 =>
(upd x6 s1.2.1 y6).bind fun r1 =>
some (true,(s1.2.2.set (Int.toNat a1) r1))) <|
some (s1.1,s1.2.2) : Option (Bool × (List (List Fact)))).bind fun y4 =>
some (.inl (y4.1,w64 (s1.2.1 + 1),y4.2))) <|
some (.inr (s1.1,s1.2.2))
noncomputable def f66 (a0 : List (List Fact)) (a1 : Int) (a2 : List Fact) : Option (Bool × (List (List Fact))):=
(iter (f8l a1 a2) (false,0,a0)).bind fun y1 =>
some (y1.1,y1.2)
noncomputable def f8x (y5 : (List Int)) (y6 : (List Fact)) (s2 : Bool × Int × (List (List Fact))) : Option ((Bool × Int × (List (List Fact))) ⊕ (Bool × (List (List Fact)))):=
sel (decide (s2.2.1 < (y5.length : Int))) (((nth y5 s2.2.1).bind fun x4 =>
(f66 s2.2.2 x4 y6).bind fun y11 =>
sel y11.1 (some (true,y11.2)) <|
some (s2.1,y11.2) : Option (Bool × (List (List Fact)))).bind fun y10 =>
some (.inl (y10.1,w64 (s2.2.1 + 1),y10.2))) <|
some (.inr (s2.1,s2.2.2))
noncomputable def f8y (a0 : List Quad) (s1 : Bool × Int × (List (List Fact))) : Option ((Bool × Int × (List (List Fact))) ⊕ (Bool × (List (List Fact)))):=
sel (decide (s1.2.1 < (a0.length : Int))) (((nth s1.2.2 s1.2.1).bind fun x1 =>
(nth x1 0).bind fun x2 =>
sel (x2.Kind == 0) (some (s1.1,s1.2.2)) <|
(f67 a0 x1 s1.2.1).bind fun y5 =>
(nth a0 s1.2.1).bind fun x3 =>
(f69 x3 x1).bind fun y6 =>
(iter (f8x y5 y6) (s1.1,0,s1.2.2)).bind fun y7 =>
some (y7.1,y7.2) : Option (Bool × (List (List Fact)))).bind fun y4 =>
some (.inl (y4.1,w64 (s1.2.1 + 1),y4.2))) <|
some (.inr (s1.1,s1.2.2))
noncomputable def f63 (a0 : List Quad) (a1 : List (List Fact)) : Option (Bool × (List (List Fact))):=
(iter (f8y a0) (false,0,a1)).bind fun y1 =>
some (y1.1,y1.2)
def f9d (a0 : List Quad) (s1 : (List (List Fact)) × Int) : Option (((List (List Fact)) × Int) ⊕ ((List (List Fact)))):=
sel (decide (s1.2 < (a0.length : Int))) ((mk 16 12 (Fact.mk 0 0)).bind fun r1 =>
(app 24 s1.1 [r1]).bind fun r2 =>
some (.inl (r2,w64 (s1.2 + 1)))) <|
some (.inr s1.1)
def f9e (s2 : Int × (List (List Fact))) : Option ((Int × (List (List Fact))) ⊕ ((List (List Fact)))):=
sel (decide (s2.1 < 12)) ((nth s2.2 0).bind fun x1 =>
(nth x1 s2.1).bind fun x2 =>
(upd x1 s2.1 (Fact.mk 1 0)).bind fun r3 =>
some (.inl (w64 (s2.1 + 1),(s2.2.set (Int.toNat 0) r3)))) <|
some (.inr s2.2)
noncomputable def f9a (a0 : List Quad) (s3 : (List (List Fact))) : Option (((List (List Fact))) ⊕ ((List (List Fact)))):=
(f63 a0 s3).bind fun y11 =>
sel y11.1 (some (.inl y11.2)) <|
some (.inr y11.2)
noncomputable def f74 (a0 : List Quad) : Option ((List (List Fact))):=
(f0s a0).bind fun y1 =>
sel (!y1) (some []) <|
(iter (f9d a0) ([],0)).bind fun y2 =>
(iter (f9e) (0,y2)).bind fun y5 =>
(iter (f9a a0) y5).bind fun y8 =>
some y8
def f33 (a0 : Fact) (a1 : Int) : Option (Bool):=
some ((a0.Kind == 1) && (a0.N == a1))
def f9o (a0 : List Int) (a1 : Int) (s1 : Int) : Option (Int ⊕ (Bool ⊕ Unit)):=
sel (decide (s1 < (a0.length : Int))) ((nth a0 s1).bind fun x1 =>
sel (x1 == a1) (some (.inr (.inl true))) <|
some (.inl (w64 (s1 + 1)))) <|
some (.inr (.inr ()))
noncomputable def f86 (a0 : List Int) (a1 : Int) : Option (Bool):=
(iter (f9o a0 a1) 0).bind fun y1 =>
both y1 (fun o3=>some o3) (fun o4 =>
some false)
noncomputable def f3q (a0 : Int) (a1 : List Int) : Option (Bool):=
(f86 a1 a0).bind fun y1 =>
some y1
noncomputable def f89 (a0 : Quad) (a1 : Fact) (a2 : Fact) : Option (Quad):=
(f3x a0 a1 a2).bind fun y1 =>
sel (y1.Kind == 1) (some (Quad.mk 1 a0.Dst 0 0 y1.N)) <|
(f33 a2 0).bind fun y2 =>
(sel y2 ((f3q a0.N [1,2,6,7,8,9]).bind fun y3=>some y3) (some false) : Option (Bool)).bind fun b1 =>
sel b1 (some (Quad.mk 2 a0.Dst a0.A 0 0)) <|
(f33 a2 1).bind fun y4 =>
(sel y4 ((f3q a0.N [10,11]).bind fun y5=>some y5) (some false) : Option (Bool)).bind fun b2 =>
sel b2 (some (Quad.mk 2 a0.Dst a0.A 0 0)) <|
(f33 a1 0).bind fun y6 =>
(sel y6 ((f3q a0.N [1,2,8]).bind fun y7=>some y7) (some false) : Option (Bool)).bind fun b3 =>
sel b3 (some (Quad.mk 2 a0.Dst a0.B 0 0)) <|
(f33 a1 1).bind fun y8 =>
sel (y8 && (a0.N == 10)) (some (Quad.mk 2 a0.Dst a0.B 0 0)) <|
(f33 a1 0).bind fun y9 =>
(sel y9 (some true) ((f33 a2 0).bind fun y10=>some y10) : Option (Bool)).bind fun b4 =>
(sel b4 ((f3q a0.N [3,10]).bind fun y11=>some y11) (some false) : Option (Bool)).bind fun b5 =>
sel b5 (some (Quad.mk 1 a0.Dst 0 0 0)) <|
some a0
noncomputable def f70 (a0 : Quad) (a1 : List Fact) (a2 : Int) : Option (Quad):=
(nth a1 0).bind fun x1 =>
sel (x1.Kind == 0) (some a0) <|
sel (a0.Op == 2) ((nth a1 a0.A).bind fun x2 =>
sel (x2.Kind == 1) ((nth a1 a0.A).bind fun x3 =>
some (Quad.mk 1 a0.Dst 0 0 x3.N)) <|
some a0) <|
sel (a0.Op == 3) ((nth a1 a0.A).bind fun x4 =>
(nth a1 a0.B).bind fun x5 =>
(f89 a0 x4 x5).bind fun y1 =>
some y1) <|
sel (a0.Op == 5) ((nth a1 a0.A).bind fun x6 =>
(f33 x6 0).bind fun y2 =>
sel y2 (some (Quad.mk 4 0 0 0 a0.N)) <|
(nth a1 a0.A).bind fun x7 =>
sel (x7.Kind == 1) (some (Quad.mk 4 0 0 0 (w64 (a2 + 1)))) <|
some a0) <|
some a0
noncomputable def f5x (a0 : List Quad) (y2 : (List (List Fact))) (s1 : (List Quad) × Int) : Option (((List Quad) × Int) ⊕ ((List Quad))):=
sel (decide (s1.2 < (a0.length : Int))) ((nth y2 s1.2).bind fun x1 =>
(nth a0 s1.2).bind fun x3 =>
(f70 x3 x1 s1.2).bind fun y7 =>
(app 40 s1.1 [y7]).bind fun r2 =>
some (.inl (r2,w64 (s1.2 + 1)))) <|
some (.inr s1.1)
noncomputable def f68 (a0 : List Quad) : Option ((List Quad) × Bool):=
(f0s a0).bind fun y1 =>
sel (!y1) (some ([],false)) <|
(f74 a0).bind fun y2 =>
(iter (f5x a0 y2) ([],0)).bind fun y3 =>
some (y3,true)
def f9b (s1 : (List Int) × Int) : Option (((List Int) × Int) ⊕ ((List Int))):=
sel (decide (s1.2 < 12)) ((app 8 s1.1 [s1.2]).bind fun r1 =>
some (.inl (r1,w64 (s1.2 + 1)))) <|
some (.inr s1.1)
noncomputable def f58 : Option ((List Int)):=
(iter (f9b) ([],0)).bind fun y1 =>
some y1
def f23 (a0 : Quad) : Option (Int):=
(f2s a0 600).bind fun y1 =>
sel (!y1) (some (-1)) <|
(sel (a0.Op == 1) (some (a0.Op == 1)) <|
sel (a0.Op == 2) (some (a0.Op == 2)) <|
sel (a0.Op == 3) (some (a0.Op == 3)) <|
some (a0.Op == 7) : Option (Bool)).bind fun y2 =>
sel y2 (some a0.Dst) <|
some (-1)
def f8g (y1 : Int) (s1 : Int × (List Int)) : Option ((Int × (List Int)) ⊕ ((List Int))):=
sel (decide (s1.1 < 12)) (((nth s1.2 s1.1).bind fun x1 =>
sel (x1 == y1) ((nth s1.2 s1.1).bind fun x2 =>
(upd s1.2 s1.1 s1.1).bind fun r2 =>
some r2) <|
some s1.2 : Option ((List Int))).bind fun y5 =>
some (.inl (w64 (s1.1 + 1),y5))) <|
some (.inr s1.2)
noncomputable def f65 (a0 : Quad) (a1 : List Int) : Option ((List Int)):=
(app 8 [] a1).bind fun r1 =>
(f23 a0).bind fun y1 =>
sel (decide (y1 < 0)) (some r1) <|
(iter (f8g y1) (0,r1)).bind fun y2 =>
(nth y2 y1).bind fun x3 =>
(upd y2 y1 y1).bind fun r3 =>
sel (a0.Op == 2) ((nth r3 y1).bind fun x4 =>
(upd r3 y1 a0.A).bind fun r4 =>
some r4) <|
some r3
def f8q (a1 : Int) (a2 : List Int) (s1 : Bool × Int × (List (List Int))) : Option ((Bool × Int × (List (List Int))) ⊕ (Bool × (List (List Int)))):=
sel (decide (s1.2.1 < 12)) (((nth s1.2.2 a1).bind fun x2 =>
(nth x2 s1.2.1).bind fun x6 =>
(sel (x6 != s1.2.1) ((nth x2 s1.2.1).bind fun b_1=>(nth a2 s1.2.1).bind fun b_2=>some (b_1 != b_2)) (some false)).bind fun b2 =>
sel b2 ((nth s1.2.2 a1).bind fun x9 =>
(nth x9 s1.2.1).bind fun x10 =>
(upd x9 s1.2.1 s1.2.1).bind fun r2 =>
some (true,(s1.2.2.set (Int.toNat a1) r2))) <|
some (s1.1,s1.2.2) : Option (Bool × (List (List Int)))).bind fun y4 =>
some (.inl (y4.1,w64 (s1.2.1 + 1),y4.2))) <|
some (.inr (s1.1,s1.2.2))
noncomputable def f6c (a0 : List (List Int)) (a1 : Int) (a2 : List Int) : Option (Bool × (List (List Int))):=
(nth a0 a1).bind fun x1 =>
sel ((x1.length : Int) == 0) ((app 8 [] a2).bind fun r1 =>
some (true,(a0.set (Int.toNat a1) r1))) <|
(iter (f8q a1 a2) (false,0,a0)).bind fun y1 =>
some (y1.1,y1.2)
noncomputable def f8t (y5 : (List Int)) (y6 : (List Int)) (s2 : Bool × Int × (List (List Int))) : Option ((Bool × Int × (List (List Int))) ⊕ (Bool × (List (List Int)))):=
sel (decide (s2.2.1 < (y5.length : Int))) (((nth y5 s2.2.1).bind fun x3 =>
(f6c s2.2.2 x3 y6).bind fun y11 =>
sel y11.1 (some (true,y11.2)) <|
some (s2.1,y11.2) : Option (Bool × (List (List Int)))).bind fun y10 =>
some (.inl (y10.1,w64 (s2.2.1 + 1),y10.2))) <|
some (.inr (s2.1,s2.2.2))
noncomputable def f8v (a0 : List Quad) (s1 : Bool × Int × (List (List Int))) : Option ((Bool × Int × (List (List Int))) ⊕ (Bool × (List (List Int)))):=
sel (decide (s1.2.1 < (a0.length : Int))) (((nth s1.2.2 s1.2.1).bind fun x1 =>
sel ((x1.length : Int) == 0) (some (s1.1,s1.2.2)) <|
(f1w a0 s1.2.1).bind fun y5 =>
(nth a0 s1.2.1).bind fun x2 =>
(f65 x2 x1).bind fun y6 =>
(iter (f8t y5 y6) (s1.1,0,s1.2.2)).bind fun y7 =>
some (y7.1,y7.2) : Option (Bool × (List (List Int)))).bind fun y4 =>
some (.inl (y4.1,w64 (s1.2.1 + 1),y4.2))) <|
some (.inr (s1.1,s1.2.2))
noncomputable def f6h (a0 : List Quad) (a1 : List (List Int)) : Option (Bool × (List (List Int))):=
(iter (f8v a0) (false,0,a1)).bind fun y1 =>
some (y1.1,y1.2)
def f8r (a0 : List Quad) (s1 : (List (List Int)) × Int) : Option (((List (List Int)) × Int) ⊕ ((List (List Int)))):=
sel (decide (s1.2 < (a0.length : Int))) ((app 24 s1.1 [[]]).bind fun r1 =>
some (.inl (r1,w64 (s1.2 + 1)))) <|
some (.inr s1.1)
noncomputable def f8i (a0 : List Quad) (s2 : (List (List Int))) : Option (((List (List Int))) ⊕ ((List (List Int)))):=
(f6h a0 s2).bind fun y9 =>
sel y9.1 (some (.inl y9.2)) <|
some (.inr y9.2)
noncomputable def f8k (a0 : List Quad) (s3 : Int × (List (List Int))) : Option ((Int × (List (List Int))) ⊕ ((List (List Int)))):=
sel (decide (s3.1 < (a0.length : Int))) (((nth s3.2 s3.1).bind fun x2 =>
sel ((x2.length : Int) == 0) ((f58).bind fun y14 =>
some (s3.2.set (Int.toNat s3.1) y14)) <|
some s3.2 : Option ((List (List Int)))).bind fun y13 =>
some (.inl (w64 (s3.1 + 1),y13))) <|
some (.inr s3.2)
noncomputable def f6b (a0 : List Quad) : Option ((List (List Int))):=
(f0s a0).bind fun y1 =>
sel (!y1) (some []) <|
(iter (f8r a0) ([],0)).bind fun y2 =>
(f58).bind fun y5 =>
(nth y2 0).bind fun x1 =>
(iter (f8i a0) (y2.set (Int.toNat 0) y5)).bind fun y6 =>
(iter (f8k a0) (0,y6)).bind fun y10 =>
some y10
def f7d (a0 : Quad) (a1 : List Int) : Option (Quad):=
(sel (a0.Op == 2) (some (a0.Op == 2)) <|
sel (a0.Op == 5) (some (a0.Op == 5)) <|
sel (a0.Op == 6) (some (a0.Op == 6)) <|
some (a0.Op == 9) : Option (Bool)).bind fun y1 =>
sel y1 ((nth a1 a0.A).bind fun x1 =>
some (Quad.mk a0.Op a0.Dst x1 a0.B a0.N)) <|
sel (a0.Op == 3) ((nth a1 a0.A).bind fun x2 =>
(nth a1 a0.B).bind fun x3 =>
some (Quad.mk a0.Op a0.Dst x2 x3 a0.N)) <|
some a0
def f5q (a0 : List Quad) (y2 : (List (List Int))) (s1 : (List Quad) × Int) : Option (((List Quad) × Int) ⊕ ((List Quad))):=
sel (decide (s1.2 < (a0.length : Int))) ((nth y2 s1.2).bind fun x1 =>
(nth a0 s1.2).bind fun x3 =>
(f7d x3 x1).bind fun y7 =>
(app 40 s1.1 [y7]).bind fun r2 =>
some (.inl (r2,w64 (s1.2 + 1)))) <|
some (.inr s1.1)
noncomputable def f6f (a0 : List Quad) : Option ((List Quad) × Bool):=
(f0s a0).bind fun y1 =>
sel (!y1) (some ([],false)) <|
(f6b a0).bind fun y2 =>
(iter (f5q a0 y2) ([],0)).bind fun y3 =>
some (y3,true)
def f7z (a0 : List Quad) (s1 : Int × Int) : Option ((Int × Int) ⊕ (Int ⊕ Unit)):=
sel (decide (s1.2 < (a0.length : Int))) ((nth a0 s1.1).bind fun x1 =>
sel (x1.Op != 4) (some (.inr (.inl s1.1))) <|
(nth a0 s1.1).bind fun x2 =>
some (.inl (x2.N,w64 (s1.2 + 1)))) <|
some (.inr (.inr ()))
noncomputable def f5o (a0 : List Quad) (a1 : Int) : Option (Int):=
(iter (f7z a0) (a1,0)).bind fun y1 =>
both y1 (fun o3=>some o3) (fun o4 =>
some a1)
noncomputable def f5u (a0 : List Quad) (s1 : (List Quad) × Int) : Option (((List Quad) × Int) ⊕ ((List Quad))):=
sel (decide (s1.2 < (a0.length : Int))) ((nth a0 s1.2).bind fun x1 =>
(sel ((x1.Op == 4) || (x1.Op == 5)) ((f5o a0 x1.N).bind fun y6 =>
some (Quad.mk x1.Op x1.Dst x1.A x1.B y6)) <|
some x1 : Option (Quad)).bind fun y5 =>
(app 40 s1.1 [y5]).bind fun r1 =>
some (.inl (r1,w64 (s1.2 + 1)))) <|
some (.inr s1.1)
noncomputable def f6d (a0 : List Quad) : Option ((List Quad) × Bool):=
(f0s a0).bind fun y1 =>
sel (!y1) (some ([],false)) <|
(iter (f5u a0) ([],0)).bind fun y2 =>
some (y2,true)
def f8o (a1 : List (List Bool)) (y1 : (List Int)) (s1 : Int × (List Bool)) (s2 : Int × (List Bool)) : Option ((Int × (List Bool)) ⊕ ((List Bool))):=
sel (decide (s2.1 < 12)) ((nth s2.2 s2.1).bind fun x1 =>
(sel x1 (some true) ((nth y1 s1.1).bind fun x2=>(nth a1 x2).bind fun x3=>(nth x3 s2.1).bind fun x4=>some x4) : Option (Bool)).bind fun b1 =>
(nth s2.2 s2.1).bind fun x5 =>
(upd s2.2 s2.1 b1).bind fun r2 =>
some (.inl (w64 (s2.1 + 1),r2))) <|
some (.inr s2.2)
noncomputable def f8p (a1 : List (List Bool)) (y1 : (List Int)) (s1 : Int × (List Bool)) : Option ((Int × (List Bool)) ⊕ ((List Bool))):=
sel (decide (s1.1 < (y1.length : Int))) ((iter (f8o a1 y1 s1) (0,s1.2)).bind fun y5 =>
some (.inl (w64 (s1.1 + 1),y5))) <|
some (.inr s1.2)
noncomputable def f4d (a0 : List Quad) (a1 : List (List Bool)) (a2 : Int) : Option ((List Bool)):=
(mk 1 12 false).bind fun r1 =>
(f1w a0 a2).bind fun y1 =>
(iter (f8p a1 y1) (0,r1)).bind fun y2 =>
some y2
def f6a (a0 : Quad) : Option ((List Int)):=
(f2s a0 600).bind fun y1 =>
sel (!y1) (some []) <|
(sel (a0.Op == 2) (some (a0.Op == 2)) <|
sel (a0.Op == 5) (some (a0.Op == 5)) <|
sel (a0.Op == 6) (some (a0.Op == 6)) <|
some (a0.Op == 9) : Option (Bool)).bind fun y2 =>
sel y2 (some [a0.A]) <|
sel (a0.Op == 3) (sel (a0.A == a0.B) (some [a0.A]) <|
some [min a0.A a0.B,max a0.A a0.B]) <|
some []
def f80 (y4 : (List Int)) (s1 : Int × (List Bool)) : Option ((Int × (List Bool)) ⊕ ((List Bool))):=
sel (decide (s1.1 < (y4.length : Int))) ((nth y4 s1.1).bind fun x2 =>
(nth s1.2 x2).bind fun x3 =>
(upd s1.2 x2 true).bind fun r3 =>
some (.inl (w64 (s1.1 + 1),r3))) <|
some (.inr s1.2)
noncomputable def f5p (a0 : Quad) (a1 : List Bool) : Option ((List Bool)):=
(app 1 [] a1).bind fun r1 =>
((f23 a0).bind fun y2 =>
sel (decide (y2 ≥ 0)) ((f23 a0).bind fun y3 =>
(nth r1 y3).bind fun x1 =>
(upd r1 y3 false).bind fun r2 =>
some r2) <|
some r1 : Option ((List Bool))).bind fun y1 =>
(f6a a0).bind fun y4 =>
(iter (f80 y4) (0,y1)).bind fun y5 =>
some y5
def f9h (a0 : List Bool) (a1 : List Bool) (s1 : Int) : Option (Int ⊕ (Bool ⊕ Unit)):=
sel (decide (s1 < (a0.length : Int))) ((nth a0 s1).bind fun x1 =>
(nth a1 s1).bind fun x2 =>
sel (x1 != x2) (some (.inr (.inl false))) <|
some (.inl (w64 (s1 + 1)))) <|
some (.inr (.inr ()))
noncomputable def f6z (a0 : List Bool) (a1 : List Bool) : Option (Bool):=
(iter (f9h a0 a1) 0).bind fun y1 =>
both y1 (fun o3=>some o3) (fun o4 =>
some ((a0.length : Int) == (a1.length : Int)))
noncomputable def f8m (a0 : List Quad) (s1 : Bool × Int × (List (List Bool))) : Option ((Bool × Int × (List (List Bool))) ⊕ (Bool × (List (List Bool)))):=
sel (decide (s1.2.1 ≥ 0)) (((nth a0 s1.2.1).bind fun x1 =>
(f4d a0 s1.2.2 s1.2.1).bind fun y5 =>
(f5p x1 y5).bind fun y6 =>
(nth s1.2.2 s1.2.1).bind fun x2 =>
(f6z y6 x2).bind fun y7 =>
sel (!y7) (some (true,(s1.2.2.set (Int.toNat s1.2.1) y6))) <|
some (s1.1,s1.2.2) : Option (Bool × (List (List Bool)))).bind fun y4 =>
some (.inl (y4.1,w64 (s1.2.1 - 1),y4.2))) <|
some (.inr (s1.1,s1.2.2))
noncomputable def f6g (a0 : List Quad) (a1 : List (List Bool)) : Option (Bool × (List (List Bool))):=
(iter (f8m a0) (false,w64 ((a0.length : Int) - 1),a1)).bind fun y1 =>
some (y1.1,y1.2)
def f9q (a0 : List Quad) (s1 : (List (List Bool)) × Int) : Option (((List (List Bool)) × Int) ⊕ ((List (List Bool)))):=
sel (decide (s1.2 < (a0.length : Int))) ((mk 1 12 false).bind fun r1 =>
(app 24 s1.1 [r1]).bind fun r2 =>
some (.inl (r2,w64 (s1.2 + 1)))) <|
some (.inr s1.1)
noncomputable def f9n (a0 : List Quad) (s2 : (List (List Bool))) : Option (((List (List Bool))) ⊕ ((List (List Bool)))):=
(f6g a0 s2).bind fun y8 =>
sel y8.1 (some (.inl y8.2)) <|
some (.inr y8.2)
noncomputable def f87 (a0 : List Quad) : Option ((List (List Bool))):=
(f0s a0).bind fun y1 =>
sel (!y1) (some []) <|
(iter (f9q a0) ([],0)).bind fun y2 =>
(iter (f9n a0) y2).bind fun y5 =>
some y5
def f72 (a0 : Quad) (a1 : List Bool) : Option (Bool):=
(sel (a0.Op == 1) (some (a0.Op == 1)) <|
sel (a0.Op == 2) (some (a0.Op == 2)) <|
some (a0.Op == 3) : Option (Bool)).bind fun y1 =>
sel y1 ((nth a1 a0.Dst).bind fun x1 =>
some (!x1)) <|
some false
noncomputable def f5t (a0 : List Quad) (y2 : (List (List Bool))) (s1 : (List Quad) × Int) : Option (((List Quad) × Int) ⊕ ((List Quad))):=
sel (decide (s1.2 < (a0.length : Int))) ((nth a0 s1.2).bind fun x1 =>
((f4d a0 y2 s1.2).bind fun y7 =>
(f72 x1 y7).bind fun y8 =>
sel y8 (some (Quad.mk 4 0 0 0 (w64 (s1.2 + 1)))) <|
some x1 : Option (Quad)).bind fun y6 =>
(app 40 s1.1 [y6]).bind fun r1 =>
some (.inl (r1,w64 (s1.2 + 1)))) <|
some (.inr s1.1)
noncomputable def f6j (a0 : List Quad) : Option ((List Quad) × Bool):=
(f0s a0).bind fun y1 =>
sel (!y1) (some ([],false)) <|
(f87 a0).bind fun y2 =>
(iter (f5t a0 y2) ([],0)).bind fun y3 =>
some (y3,true)
def f7s (y5 : (List Int)) (s2 : Bool × Int × (List Bool)) : Option ((Bool × Int × (List Bool)) ⊕ (Bool × (List Bool))):=
sel (decide (s2.2.1 < (y5.length : Int))) (((nth y5 s2.2.1).bind fun x2 =>
(nth s2.2.2 x2).bind fun x3 =>
sel (!x3) ((nth y5 s2.2.1).bind fun x4 =>
(nth s2.2.2 x4).bind fun x5 =>
(upd s2.2.2 x4 true).bind fun r1 =>
some (true,r1)) <|
some (s2.1,s2.2.2) : Option (Bool × (List Bool))).bind fun y9 =>
some (.inl (y9.1,w64 (s2.2.1 + 1),y9.2))) <|
some (.inr (s2.1,s2.2.2))
noncomputable def f7x (a0 : List Quad) (s1 : Bool × Int × (List Bool)) : Option ((Bool × Int × (List Bool)) ⊕ (Bool × (List Bool))):=
sel (decide (s1.2.1 < (a0.length : Int))) (((nth s1.2.2 s1.2.1).bind fun x1 =>
sel (!x1) (some (s1.1,s1.2.2)) <|
(f1w a0 s1.2.1).bind fun y5 =>
(iter (f7s y5) (s1.1,0,s1.2.2)).bind fun y6 =>
some (y6.1,y6.2) : Option (Bool × (List Bool))).bind fun y4 =>
some (.inl (y4.1,w64 (s1.2.1 + 1),y4.2))) <|
some (.inr (s1.1,s1.2.2))
noncomputable def f59 (a0 : List Quad) (a1 : List Bool) : Option (Bool × (List Bool)):=
(iter (f7x a0) (false,0,a1)).bind fun y1 =>
some (y1.1,y1.2)
noncomputable def f7y (a0 : List Quad) (s1 : (List Bool)) : Option (((List Bool)) ⊕ ((List Bool))):=
(f59 a0 s1).bind fun y5 =>
sel y5.1 (some (.inl y5.2)) <|
some (.inr y5.2)
noncomputable def f52 (a0 : List Quad) : Option ((List Bool)):=
(f0s a0).bind fun y1 =>
sel (!y1) (some []) <|
(mk 1 (a0.length : Int) false).bind fun r1 =>
(nth r1 0).bind fun x1 =>
(upd r1 0 true).bind fun r2 =>
(iter (f7y a0) r2).bind fun y2 =>
some y2
def f76 (a0 : Quad) (a1 : Int) : Option (Bool):=
(sel (a0.Op == 4) (some (a0.Op == 4)) <|
some (a0.Op == 5) : Option (Bool)).bind fun y1 =>
sel y1 (some (a0.N == (w64 (a1 + 1)))) <|
sel (a0.Op == 2) (some (a0.Dst == a0.A)) <|
some false
def f8s (a0 : List Bool) (a1 : Int) (s1 : Int × Int) : Option ((Int × Int) ⊕ Int):=
sel (decide (s1.2 < a1)) (((nth a0 s1.2).bind fun x1 =>
sel x1 (some (w64 (s1.1 + 1))) <|
some s1.1 : Option (Int)).bind fun y4 =>
some (.inl (y4,w64 (s1.2 + 1)))) <|
some (.inr s1.1)
noncomputable def f60 (a0 : List Bool) (a1 : Int) : Option (Int):=
(iter (f8s a0 a1) (0,0)).bind fun y1 =>
some y1
def f6o (a0 : List Quad) (s1 : Int × (List Bool)) : Option ((Int × (List Bool)) ⊕ ((List Bool))):=
sel (decide (s1.1 < (a0.length : Int))) ((nth s1.2 s1.1).bind fun x1 =>
(sel x1 ((nth a0 s1.1).bind fun x2=>(f76 x2 s1.1).bind fun y6=>some (!y6)) (some false) : Option (Bool)).bind fun b1 =>
(nth s1.2 s1.1).bind fun x3 =>
(upd s1.2 s1.1 b1).bind fun r1 =>
some (.inl (w64 (s1.1 + 1),r1))) <|
some (.inr s1.2)
noncomputable def f6n (a0 : List Quad) (y3 : (List Bool)) (s2 : (List Quad) × Int) : Option (((List Quad) × Int) ⊕ ((List Quad))):=
sel (decide (s2.2 < (a0.length : Int))) (((nth a0 s2.2).bind fun x4 =>
(nth y3 s2.2).bind fun x5 =>
sel (!x5) (some s2.1) <|
(sel ((x4.Op == 4) || (x4.Op == 5)) ((f60 y3 x4.N).bind fun y12 =>
some (Quad.mk x4.Op x4.Dst x4.A x4.B y12)) <|
some x4 : Option (Quad)).bind fun y11 =>
(app 40 s2.1 [y11]).bind fun r2 =>
some r2 : Option ((List Quad))).bind fun y10 =>
some (.inl (y10,w64 (s2.2 + 1)))) <|
some (.inr s2.1)
noncomputable def f4c (a0 : List Quad) : Option ((List Quad) × Bool):=
(f0s a0).bind fun y1 =>
sel (!y1) (some ([],false)) <|
(f52 a0).bind fun y2 =>
(iter (f6o a0) (0,y2)).bind fun y3 =>
(iter (f6n a0 y3) ([],0)).bind fun y7 =>
some (y7,true)
noncomputable def f6y (a0 : List Quad) : Option ((List Quad)):=
(f68 a0).bind fun y1 =>
(f6f y1.1).bind fun y2 =>
(f6d y2.1).bind fun y3 =>
(f6j y3.1).bind fun y4 =>
(f4c y4.1).bind fun y5 =>
some y5.1
noncomputable def f5w (a1 : Int) (s1 : (List Quad) × Int) : Option (((List Quad) × Int) ⊕ ((List Quad))):=
sel (decide (s1.2 < a1)) ((f6y s1.1).bind fun y6 =>
some (.inl (y6,w64 (s1.2 + 1)))) <|
some (.inr s1.1)
noncomputable def f3o (a0 : List Quad) (a1 : Int) : Option ((List Quad) × Bool):=
(f0s a0).bind fun y1 =>
(sel (!y1) (some true) ((f05 a1 0 4).bind fun y2=>some (!y2)) : Option (Bool)).bind fun b1 =>
sel b1 (some ([],false)) <|
(app 40 [] a0).bind fun r1 =>
(iter (f5w a1) (r1,0)).bind fun y3 =>
some (y3,true)
noncomputable def f75 (k : Nat) (a0 : L6Rd) : Option ((List Quad) × Int):=
(f01 (L6Rd.mk a0.b a0.p) 2).bind fun y1 =>
sel (y1.1 == 0) ((f3s (L6Rd.mk a0.b y1.2)).bind fun y2 =>
some (y2.1,y2.2)) <|
(f64 k (L6Rd.mk a0.b y1.2) 2).bind fun y3 =>
(f49 k y3.1).bind fun y4 =>
sel (decide ((y4.1.length : Int) > 40)) ((f3s (L6Rd.mk a0.b y3.2)).bind fun y5 =>
some (y5.1,y5.2)) <|
(f01 (L6Rd.mk a0.b y3.2) 3).bind fun y6 =>
(f3o y4.1 (w64 (Int.tdiv y6.1 2))).bind fun y7 =>
some (y7.1,y6.2)
noncomputable def f8h (a0 : L6Rd) (k : Nat) (y1 : Int × Int) (s1 : (List (List Quad)) × Int × Int) : Option (((List (List Quad)) × Int × Int) ⊕ ((List (List Quad)) × Int)):=
sel (decide (s1.2.1 < (w64 (1 + y1.1)))) ((f75 k (L6Rd.mk a0.b s1.2.2)).bind fun y5 =>
(app 24 s1.1 [y5.1]).bind fun r1 =>
some (.inl (r1,w64 (s1.2.1 + 1),y5.2))) <|
some (.inr (s1.1,s1.2.2))
noncomputable def f61 (k : Nat) (a0 : L6Rd) : Option ((List (List Quad)) × Int):=
(f01 (L6Rd.mk a0.b a0.p) 3).bind fun y1 =>
(iter (f8h a0 k y1) ([],0,y1.2)).bind fun y2 =>
some (y2.1,y2.2)
def f20 (a0 : Int) (a1 : Int) (a2 : Int) : Option (Int):=
sel (decide (a0 ≥ a1)) (some a2) <|
(nth [8,9,18,19,20,21,22,23] a0).bind fun x1 =>
some x1
def f2q (a0 : List Instr) (a1 : Int) (a2 : Int) : Option ((List Instr)):=
sel (decide (a1 < a2)) (some a0) <|
(app 40 a0 [(Instr.mk 16 0 2 7 (w64 (4 * (w64 (a1 - a2)))))]).bind fun r1 =>
some r1
def f2o (a0 : Int) : Option (Int):=
(f19 a0).bind fun y1 =>
sel (!y1) (some (-1)) <|
sel (decide (a0 < 0)) (some (w64 (a0 + 4294967296))) <|
some a0
def f3f (a0 : Int) (s1 : Int × Int) : Option ((Int × Int) ⊕ Int):=
sel (decide (s1.2 < a0)) (some (.inl (w64 (s1.1 * 2),w64 (s1.2 + 1)))) <|
some (.inr s1.1)
noncomputable def f0z (a0 : Int) : Option (Int):=
(iter (f3f a0) (1,0)).bind fun y1 =>
some y1
noncomputable def f06 (a0 : Int) (a1 : Int) (a2 : Int) : Option (Int):=
(f05 a0 0 4294967295).bind fun y1 =>
(sel (!y1) (some true) ((f05 a1 0 31).bind fun y2=>some (!y2)) : Option (Bool)).bind fun b1 =>
(sel b1 (some true) ((f05 a2 1 (w64 (32 - a1))).bind fun y3=>some (!y3)) : Option (Bool)).bind fun b2 =>
sel b2 (some 0) <|
(f0z a1).bind fun y4 =>
(quoO .i64 a0 y4).bind fun d1 =>
(f0z a2).bind fun y5 =>
(remO d1 y5).bind fun d2 =>
some d2
noncomputable def f11 (a0 : Int) (a1 : Int) : Option (Int):=
(f05 a1 1 32).bind fun y1 =>
(sel (!y1) (some true) ((f0z a1).bind fun y2=>(f05 a0 0 (w64 (y2 - 1))).bind fun y3=>some (!y3)) : Option (Bool)).bind fun b1 =>
sel b1 (some 0) <|
(f0z (w64 (a1 - 1))).bind fun y4 =>
sel (decide (a0 ≥ y4)) ((f0z a1).bind fun y5 =>
some (w64 (a0 - y5))) <|
some a0
noncomputable def f62 (a0 : Int) (a1 : Int) : Option ((List Instr)):=
(f05 a1 (-2048) 2047).bind fun y1 =>
sel y1 (some [(Instr.mk 12 a0 0 0 a1)]) <|
(f2o a1).bind fun y2 =>
(f06 y2 0 12).bind fun y3 =>
(f11 y3 12).bind fun y4 =>
(f1l (w64 (a1 - y4))).bind fun y5 =>
(f2o y5).bind fun y6 =>
(f06 y6 12 20).bind fun y7 =>
(app 40 [(Instr.mk 19 a0 0 0 y7)] [(Instr.mk 12 a0 a0 0 y4)]).bind fun r1 =>
some r1
def f2c (a0 : Int) (a1 : Int) (a2 : Int) : Option ((List Instr)):=
sel (decide (a0 < a1)) (some []) <|
some [(Instr.mk 14 a2 2 0 (w64 (4 * (w64 (a0 - a1)))))]
def f35 (a0 : Int) (a1 : Int) : Option (Instr):=
some (Instr.mk 12 a0 a1 0 0)
def f92 (a0 : Int) : Option (Int):=
(nth [7,8,6,8,11,9,10,1,2,3,4,5] (w64 (a0 - 1))).bind fun x1 =>
some x1
def f9t (a0 : Quad) (a1 : Int) : Option ((List Instr)):=
(f2c a0.A a1 5).bind fun y1 =>
(f2c a0.B a1 6).bind fun y2 =>
(app 40 y1 y2).bind fun r1 =>
(f20 a0.Dst a1 7).bind fun y3 =>
(f92 a0.N).bind fun y4 =>
(f20 a0.A a1 5).bind fun y5 =>
(f20 a0.B a1 6).bind fun y6 =>
(app 40 r1 [(Instr.mk y4 y3 y5 y6 0)]).bind fun r2 =>
(sel (a0.N == 4) ((app 40 r2 [(Instr.mk 13 y3 y3 0 1)]).bind fun r3 =>
some r3) <|
some r2 : Option ((List Instr))).bind fun y7 =>
(f2q y7 a0.Dst a1).bind fun y8 =>
some y8
def f98 (a0 : Quad) (a1 : Int) (a2 : Int) : Option ((List Instr)):=
(f2c a0.A a1 5).bind fun y1 =>
(f20 a0.A a1 5).bind fun y2 =>
(app 40 y1 [(Instr.mk 18 0 y2 0 8)]).bind fun r1 =>
(app 40 r1 [(Instr.mk 20 0 0 0 (w64 (a2 - (w64 (4 * (r1.length : Int))))))]).bind fun r2 =>
some r2
def f2j (a0 : List Instr) (a1 : Int) : Option ((List Instr)):=
(app 40 a0 [(Instr.mk 12 17 0 0 a1)]).bind fun r1 =>
(app 40 r1 [(Instr.mk 15 1 0 0 0)]).bind fun r2 =>
some r2
def f5f (a0 : Int) (a1 : Int) : Option ((List Instr)):=
(f2c a0 a1 5).bind fun y1 =>
(f20 a0 a1 5).bind fun y2 =>
(f35 10 y2).bind fun y3 =>
(app 40 y1 [y3]).bind fun r1 =>
some r1
def f6k (a0 : Int) : Option (Instr):=
some (Instr.mk 12 11 0 0 a0)
noncomputable def f5c (a0 : Quad) (a1 : Int) (a2 : Int) : Option ((List Instr)):=
(f20 a0.Dst a1 7).bind fun y1 =>
sel (a0.Op == 1) ((f62 y1 a0.N).bind fun y2 =>
(f2q y2 a0.Dst a1).bind fun y3 =>
some y3) <|
sel (a0.Op == 2) ((f2c a0.A a1 5).bind fun y4 =>
(f20 a0.A a1 5).bind fun y5 =>
(f35 y1 y5).bind fun y6 =>
(app 40 y4 [y6]).bind fun r1 =>
(f2q r1 a0.Dst a1).bind fun y7 =>
some y7) <|
sel (a0.Op == 3) ((f9t a0 a1).bind fun y8 =>
some y8) <|
sel (a0.Op == 4) (some [(Instr.mk 20 0 0 0 a2)]) <|
sel (a0.Op == 5) ((f98 a0 a1 a2).bind fun y9 =>
some y9) <|
sel (a0.Op == 6) ((f5f a0.A a1).bind fun y10 =>
(f6k a0.N).bind fun y11 =>
(app 40 y10 [y11]).bind fun r2 =>
(f2j r2 1).bind fun y12 =>
some y12) <|
sel (a0.Op == 7) ((f6k a0.N).bind fun y13 =>
(f2j [y13] 2).bind fun y14 =>
(f35 y1 10).bind fun y15 =>
(app 40 y14 [y15]).bind fun r3 =>
(f2q r3 a0.Dst a1).bind fun y16 =>
some y16) <|
sel (a0.Op == 8) ((f2j [] 3).bind fun y17 =>
some y17) <|
sel (a0.Op == 9) ((f5f a0.A a1).bind fun y18 =>
(f2j y18 4).bind fun y19 =>
some y19) <|
(f2j [] 5).bind fun y20 =>
some y20
noncomputable def f7t (a0 : List Quad) (a1 : Int) (s1 : (List Int) × Int × Int) : Option (((List Int) × Int × Int) ⊕ ((List Int))):=
sel (decide (s1.2.2 < (a0.length : Int))) ((app 8 s1.1 [s1.2.1]).bind fun r1 =>
(nth a0 s1.2.2).bind fun x1 =>
(f5c x1 a1 0).bind fun y4 =>
some (.inl (r1,w64 (s1.2.1 + (y4.length : Int)),w64 (s1.2.2 + 1)))) <|
some (.inr s1.1)
noncomputable def f57 (a0 : List Quad) (a1 : Int) : Option ((List Int)):=
(iter (f7t a0 a1) ([],0,0)).bind fun y1 =>
some y1
noncomputable def f9g (a0 : List Quad) (a1 : Int) (y1 : (List Int)) (s1 : (List Instr) × Int) : Option (((List Instr) × Int) ⊕ ((List Instr))):=
sel (decide (s1.2 < (a0.length : Int))) (((nth a0 s1.2).bind fun x1 =>
(sel (x1.Op == 4) (some true) ((nth a0 s1.2).bind fun x2=>some (x2.Op == 5)) : Option (Bool)).bind fun b1 =>
sel b1 ((nth a0 s1.2).bind fun x3 =>
(nth y1 x3.N).bind fun x4 =>
(nth y1 s1.2).bind fun x5 =>
some (w64 (4 * (w64 (x4 - x5))))) <|
some 0 : Option (Int)).bind fun y5 =>
(nth a0 s1.2).bind fun x6 =>
(f5c x6 a1 y5).bind fun y6 =>
(app 40 s1.1 y6).bind fun r1 =>
some (.inl (r1,w64 (s1.2 + 1)))) <|
some (.inr s1.1)
noncomputable def f7g (a0 : List Quad) (a1 : Int) : Option ((List Instr)):=
(f57 a0 a1).bind fun y1 =>
(iter (f9g a0 a1 y1) ([],0)).bind fun y2 =>
some y2
noncomputable def f8w (y1 : (List (List Quad)) × Int) (y2 : Int × Int) (s1 : (List (List Instr)) × Int) : Option (((List (List Instr)) × Int) ⊕ ((List (List Instr)))):=
sel (decide (s1.2 < (y1.1.length : Int))) ((nth y1.1 s1.2).bind fun x1 =>
(f7g x1 (w64 (1 + y2.1))).bind fun y6 =>
(app 24 s1.1 [y6]).bind fun r1 =>
some (.inl (r1,w64 (s1.2 + 1)))) <|
some (.inr s1.1)
noncomputable def f6i (k : Nat) (a0 : L6Rd) : Option ((List (List Instr)) × Int):=
(f61 k (L6Rd.mk a0.b a0.p)).bind fun y1 =>
(f01 (L6Rd.mk a0.b y1.2) 8).bind fun y2 =>
(iter (f8w y1 y2) ([],0)).bind fun y3 =>
some (y3,y2.2)
def f1i (a0 : Int) : Option (Bool):=
some ((decide (a0 ≥ (-2147483648))) && (decide (a0 ≤ 2147483647)))
def f0y (a0 : Int) : Option (Int):=
(f1i a0).bind fun y1 =>
sel (!y1) (some (-1)) <|
some (w64 (kwrap .u32 (a0)))
def f0m (a0 : Int) : Option (Int):=
sel ((decide (a0 ≥ 1)) && (decide (a0 ≤ 11))) (some 82) <|
sel ((decide (a0 ≥ 12)) && (decide (a0 ≤ 15))) (some 73) <|
sel (a0 == 16) (some 83) <|
sel ((a0 == 17) || (a0 == 18)) (some 66) <|
sel (a0 == 19) (some 85) <|
sel (a0 == 20) (some 74) <|
sel (a0 == 21) (some 69) <|
some 32
def f16 (a0 : Int) : Option (Bool):=
some ((decide (a0 ≥ 0)) && (decide (a0 < 32)))
def f0g (a0 : Instr) : Option (Bool):=
(f16 a0.Rd).bind fun y1 =>
(f16 a0.Rs).bind fun y2 =>
(f16 a0.Rt).bind fun y3 =>
(f0m a0.Op).bind fun y4 =>
sel (y4 == 82) (some (((y1 && y2) && y3) && (a0.Imm == 0))) <|
sel (y4 == 73) (some (((y1 && y2) && (a0.Rt == 0)) && ((decide (a0.Imm ≥ (-2048))) && (decide (a0.Imm ≤ 2047))))) <|
sel (y4 == 83) (some ((((a0.Rd == 0) && y2) && y3) && ((decide (a0.Imm ≥ (-2048))) && (decide (a0.Imm ≤ 2047))))) <|
sel (y4 == 66) (some ((((((a0.Rd == 0) && y2) && y3) && (decide (a0.Imm ≥ (-4096)))) && (decide (a0.Imm ≤ 4094))) && ((Int.tmod a0.Imm 2) == 0))) <|
sel (y4 == 85) (some ((((y1 && (a0.Rs == 0)) && (a0.Rt == 0)) && (decide (a0.Imm ≥ 0))) && (decide (a0.Imm ≤ 1048575)))) <|
sel (y4 == 74) (some (((((y1 && (a0.Rs == 0)) && (a0.Rt == 0)) && (decide (a0.Imm ≥ (-1048576)))) && (decide (a0.Imm ≤ 1048574))) && ((Int.tmod a0.Imm 2) == 0))) <|
sel (y4 == 69) (some ((a0.Op == 21) && ((a0.Rd == 0) && ((a0.Rs == 0) && ((a0.Rt == 0) && ((a0.Imm == 0) && true)))))) <|
some false
def f2g (a0 : Int) : Option (Bool):=
some ((decide (a0 ≥ 0)) && (decide (a0 < 4294967296)))
def f0f (a0 : Int) (a1 : Int) (a2 : Int) : Option (Int):=
(f2g a0).bind fun y1 =>
sel (((((!y1) || (decide (a1 < 0))) || (decide (a1 > 31))) || (decide (a2 < 1))) || (decide (a2 > (w64 (32 - a1))))) (some 0) <|
(shO .shr .i64 a0 a1).bind fun d1 =>
(shO .shl .i64 1 a2).bind fun d2 =>
some (bitsI .and .i64 d1 (w64 (d2 - 1)))
def f02 (a0 : Int) (a1 : Int) (a2 : Int) (a3 : Int) : Option (Int):=
(f0f a3 a0 a1).bind fun y1 =>
(shO .shl .i64 y1 a2).bind fun d1 =>
some d1
def f0t (a0 : Instr) : Option (Int × Bool):=
(f0g a0).bind fun y1 =>
sel (!y1) (some (0,false)) <|
(nth instrTable (w64 (a0.Op - 1))).bind fun x1 =>
(f0y a0.Imm).bind fun y2 =>
(f0m a0.Op).bind fun y3 =>
sel (y3 == 82) (some (bitsI .or .i64 (bitsI .or .i64 (w64 (x1.funct7 * 2 ^ (min 25 (IntKind.bits .i64)))) (bitsI .or .i64 (bitsI .or .i64 (bitsI .or .i64 (w64 (a0.Rt * 2 ^ (min 20 (IntKind.bits .i64)))) (w64 (a0.Rs * 2 ^ (min 15 (IntKind.bits .i64))))) (w64 (x1.funct3 * 2 ^ (min 12 (IntKind.bits .i64))))) x1.opcode)) (w64 (a0.Rd * 2 ^ (min 7 (IntKind.bits .i64)))),true)) <|
sel (y3 == 73) ((f02 0 12 20 y2).bind fun y4 =>
some (bitsI .or .i64 (bitsI .or .i64 y4 (bitsI .or .i64 (bitsI .or .i64 (bitsI .or .i64 (w64 (a0.Rt * 2 ^ (min 20 (IntKind.bits .i64)))) (w64 (a0.Rs * 2 ^ (min 15 (IntKind.bits .i64))))) (w64 (x1.funct3 * 2 ^ (min 12 (IntKind.bits .i64))))) x1.opcode)) (w64 (a0.Rd * 2 ^ (min 7 (IntKind.bits .i64)))),true)) <|
sel (y3 == 83) ((f02 5 7 25 y2).bind fun y5 =>
(f02 0 5 7 y2).bind fun y6 =>
some (bitsI .or .i64 (bitsI .or .i64 y5 (bitsI .or .i64 (bitsI .or .i64 (bitsI .or .i64 (w64 (a0.Rt * 2 ^ (min 20 (IntKind.bits .i64)))) (w64 (a0.Rs * 2 ^ (min 15 (IntKind.bits .i64))))) (w64 (x1.funct3 * 2 ^ (min 12 (IntKind.bits .i64))))) x1.opcode)) y6,true)) <|
sel (y3 == 66) ((f02 12 1 31 y2).bind fun y7 =>
(f02 5 6 25 y2).bind fun y8 =>
(f02 1 4 8 y2).bind fun y9 =>
(f02 11 1 7 y2).bind fun y10 =>
some (bitsI .or .i64 (bitsI .or .i64 (bitsI .or .i64 (bitsI .or .i64 y7 y8) (bitsI .or .i64 (bitsI .or .i64 (bitsI .or .i64 (w64 (a0.Rt * 2 ^ (min 20 (IntKind.bits .i64)))) (w64 (a0.Rs * 2 ^ (min 15 (IntKind.bits .i64))))) (w64 (x1.funct3 * 2 ^ (min 12 (IntKind.bits .i64))))) x1.opcode)) y9) y10,true)) <|
sel (y3 == 85) ((f02 0 20 12 y2).bind fun y11 =>
some (bitsI .or .i64 (bitsI .or .i64 y11 (w64 (a0.Rd * 2 ^ (min 7 (IntKind.bits .i64))))) x1.opcode,true)) <|
sel (y3 == 74) ((f02 20 1 31 y2).bind fun y12 =>
(f02 1 10 21 y2).bind fun y13 =>
(f02 11 1 20 y2).bind fun y14 =>
(f02 12 8 12 y2).bind fun y15 =>
some (bitsI .or .i64 (bitsI .or .i64 (bitsI .or .i64 (bitsI .or .i64 (bitsI .or .i64 y12 y13) y14) y15) (w64 (a0.Rd * 2 ^ (min 7 (IntKind.bits .i64))))) x1.opcode,true)) <|
some (x1.opcode,true)
def f1d (a0 : Int) : Option (Int):=
some (w64 (kwrap .i32 (a0)))
def f3b (a0 : List Instr) (s1 : (List Int) × Int) : Option (((List Int) × Int) ⊕ (((List Int) × Bool) ⊕ ((List Int)))):=
sel (decide (s1.2 < (a0.length : Int))) ((nth a0 s1.2).bind fun x1 =>
(f0t x1).bind fun y4 =>
sel (!y4.2) (some (.inr (.inl ([],false)))) <|
(f1d y4.1).bind fun y5 =>
(app 8 s1.1 [y5]).bind fun r1 =>
some (.inl (r1,w64 (s1.2 + 1)))) <|
some (.inr (.inr s1.1))
noncomputable def f53 (a0 : List Instr) : Option ((List Int) × Bool):=
(iter (f3b a0) ([],0)).bind fun y1 =>
both y1 (fun o3=>some o3) (fun o4 =>
some (o4,true))
def f1o (a0 : Instr) (a1 : Int) (a2 : Int) (a3 : Int) : Option (Bool):=
(f05 a0.Rd 0 (w64 (a1 * 31))).bind fun y1 =>
(sel y1 ((f05 a0.Rs 0 (w64 (a2 * 31))).bind fun y2=>some y2) (some false) : Option (Bool)).bind fun b1 =>
(sel b1 ((f05 a0.Rt 0 (w64 (a3 * 31))).bind fun y3=>some y3) (some false) : Option (Bool)).bind fun b2 =>
some b2
def f4y (a0 : Int) (a1 : Int) (a2 : Int) : Option (Bool):=
(f05 a0 a1 a2).bind fun y1 =>
some (y1 && ((Int.tmod a0 2) == 0))
def f2k (a0 : Instr) : Option (Bool):=
(f05 a0.Op 1 11).bind fun y1 =>
sel y1 ((f1o a0 1 1 1).bind fun y2 =>
some (y2 && (a0.Imm == 0))) <|
(f05 a0.Op 12 15).bind fun y3 =>
sel y3 ((f1o a0 1 1 0).bind fun y4 =>
(sel y4 ((f05 a0.Imm (-2048) 2047).bind fun y5=>some y5) (some false) : Option (Bool)).bind fun b1 =>
some b1) <|
sel (a0.Op == 16) ((f1o a0 0 1 1).bind fun y6 =>
(sel y6 ((f05 a0.Imm (-2048) 2047).bind fun y7=>some y7) (some false) : Option (Bool)).bind fun b2 =>
some b2) <|
sel ((a0.Op == 17) || (a0.Op == 18)) ((f1o a0 0 1 1).bind fun y8 =>
(sel y8 ((f4y a0.Imm (-4096) 4094).bind fun y9=>some y9) (some false) : Option (Bool)).bind fun b3 =>
some b3) <|
sel (a0.Op == 19) ((f1o a0 1 0 0).bind fun y10 =>
(sel y10 ((f05 a0.Imm 0 1048575).bind fun y11=>some y11) (some false) : Option (Bool)).bind fun b4 =>
some b4) <|
sel (a0.Op == 20) ((f1o a0 1 0 0).bind fun y12 =>
(sel y12 ((f4y a0.Imm (-1048576) 1048574).bind fun y13=>some y13) (some false) : Option (Bool)).bind fun b5 =>
some b5) <|
(sel (a0.Op == 21) ((f1o a0 0 0 0).bind fun y14=>some y14) (some false) : Option (Bool)).bind fun b6 =>
some (b6 && (a0.Imm == 0))
def f3p (a0 : Int) (a1 : Int) : Option (Int):=
sel (decide (a0 < 0)) (some (w64 (a0 + a1))) <|
some a0
noncomputable def f0c (a0 : Int) (a1 : Int) : Option (Int):=
(f0z a1).bind fun y1 =>
some (w64 (a0 * y1))
def f4f (a0 : Int) : Option (Int):=
(nth [0,0,0,4,6,7,6,4,1,5,2,0,3,2,0,2,0,1,0,0,0] (w64 (a0 - 1))).bind fun x1 =>
some x1
noncomputable def f3r (a0 : Instr) (a1 : Int) : Option (Int):=
(f0c a0.Rs 15).bind fun y1 =>
(f4f a0.Op).bind fun y2 =>
(f0c y2 12).bind fun y3 =>
some (w64 ((w64 (y1 + y3)) + a1))
noncomputable def f4t (a0 : Instr) (a1 : Int) : Option (Int):=
(f3p a0.Imm 4096).bind fun y1 =>
(f0c y1 20).bind fun y2 =>
(f3r a0 a1).bind fun y3 =>
(f0c a0.Rd 7).bind fun y4 =>
some (w64 ((w64 (y2 + y3)) + y4))
noncomputable def f5n (a0 : Instr) : Option (Int):=
(f3p a0.Imm 8192).bind fun y1 =>
(f06 y1 12 1).bind fun y2 =>
(f0c y2 31).bind fun y3 =>
(f06 y1 5 6).bind fun y4 =>
(f0c y4 25).bind fun y5 =>
(f0c a0.Rt 20).bind fun y6 =>
(f3r a0 99).bind fun y7 =>
(f06 y1 1 4).bind fun y8 =>
(f0c y8 8).bind fun y9 =>
(f06 y1 11 1).bind fun y10 =>
(f0c y10 7).bind fun y11 =>
some (w64 ((w64 ((w64 ((w64 ((w64 (y3 + y5)) + y6)) + y7)) + y9)) + y11))
noncomputable def f71 (a0 : Instr) : Option (Int):=
(f3p a0.Imm 2097152).bind fun y1 =>
(f06 y1 20 1).bind fun y2 =>
(f0c y2 31).bind fun y3 =>
(f06 y1 1 10).bind fun y4 =>
(f0c y4 21).bind fun y5 =>
(f06 y1 11 1).bind fun y6 =>
(f0c y6 20).bind fun y7 =>
(f06 y1 12 8).bind fun y8 =>
(f0c y8 12).bind fun y9 =>
(f0c a0.Rd 7).bind fun y10 =>
some (w64 ((w64 ((w64 ((w64 ((w64 (y3 + y5)) + y7)) + y9)) + y10)) + 111))
def f4e (a0 : Int) : Option (Int):=
(nth [0,32,1,1,1,0,0,0,0,32,0] (w64 (a0 - 1))).bind fun x1 =>
some x1
noncomputable def f0n (a0 : Instr) : Option (Int):=
(sel (a0.Op == 12) (some (a0.Op == 12)) <|
some (a0.Op == 13) : Option (Bool)).bind fun y1 =>
sel y1 ((f4t a0 19).bind fun y2 =>
some y2) <|
sel (a0.Op == 14) ((f4t a0 3).bind fun y3 =>
some y3) <|
sel (a0.Op == 15) ((f4t a0 103).bind fun y4 =>
some y4) <|
sel (a0.Op == 16) ((f3p a0.Imm 4096).bind fun y5 =>
(f06 y5 5 7).bind fun y6 =>
(f0c y6 25).bind fun y7 =>
(f0c a0.Rt 20).bind fun y8 =>
(f3r a0 35).bind fun y9 =>
(f06 y5 0 5).bind fun y10 =>
(f0c y10 7).bind fun y11 =>
some (w64 ((w64 ((w64 (y7 + y8)) + y9)) + y11))) <|
(sel (a0.Op == 17) (some (a0.Op == 17)) <|
some (a0.Op == 18) : Option (Bool)).bind fun y12 =>
sel y12 ((f5n a0).bind fun y13 =>
some y13) <|
sel (a0.Op == 19) ((f0c a0.Imm 12).bind fun y14 =>
(f0c a0.Rd 7).bind fun y15 =>
some (w64 ((w64 (y14 + y15)) + 55))) <|
sel (a0.Op == 20) ((f71 a0).bind fun y16 =>
some y16) <|
sel (a0.Op == 21) (some 115) <|
(f4e a0.Op).bind fun y17 =>
(f0c y17 25).bind fun y18 =>
(f0c a0.Rt 20).bind fun y19 =>
(f3r a0 51).bind fun y20 =>
(f0c a0.Rd 7).bind fun y21 =>
some (w64 ((w64 ((w64 (y18 + y19)) + y20)) + y21))
noncomputable def f1p (a0 : Instr) : Option (Int × Bool):=
(f2k a0).bind fun y1 =>
sel (!y1) (some (0,false)) <|
(f0n a0).bind fun y2 =>
some (y2,true)
noncomputable def f3e (a1 : List Instr) (s1 : (List Int) × Int) : Option (((List Int) × Int) ⊕ (((List Int) × Bool) ⊕ ((List Int)))):=
sel (decide (s1.2 < (a1.length : Int))) ((nth a1 s1.2).bind fun x1 =>
(f1p x1).bind fun y4 =>
sel (!y4.2) (some (.inr (.inl (s1.1,false)))) <|
(f1l y4.1).bind fun y5 =>
(app 8 s1.1 [y5]).bind fun r1 =>
some (.inl (r1,w64 (s1.2 + 1)))) <|
some (.inr (.inr s1.1))
noncomputable def f5i (a0 : List Int) (a1 : List Instr) : Option ((List Int) × Bool):=
(iter (f3e a1) (a0,0)).bind fun y1 =>
both y1 (fun o3=>some o3) (fun o4 =>
some (o4,true))
def f42 (a0 : List Int) (a1 : List Int) (s1 : Int) : Option (Int ⊕ (Bool ⊕ Unit)):=
sel (decide (s1 < (a0.length : Int))) ((nth a0 s1).bind fun x1 =>
(nth a1 s1).bind fun x2 =>
sel (x1 != x2) (some (.inr (.inl false))) <|
some (.inl (w64 (s1 + 1)))) <|
some (.inr (.inr ()))
noncomputable def f4h (a0 : List Int) (a1 : List Int) : Option (Bool):=
sel ((a0.length : Int) != (a1.length : Int)) (some false) <|
(iter (f42 a0 a1) 0).bind fun y1 =>
both y1 (fun o3=>some o3) (fun o4 =>
some true)
noncomputable def f2u (a0 : Machine) (a1 : Machine) : Option (Bool):=
(sel (a0.Pc == a1.Pc) ((f4h a0.Regs a1.Regs).bind fun y1=>some y1) (some false) : Option (Bool)).bind fun b1 =>
(sel b1 ((f4h a0.Mem a1.Mem).bind fun y2=>some y2) (some false) : Option (Bool)).bind fun b2 =>
some b2
def f0p (a0 : InstrRow) (a1 : Int) (a2 : Int) : Option (Bool):=
sel (a0.opcode != (bitsI .and .i64 a2 127)) (some false) <|
(f0m a1).bind fun y1 =>
sel (y1 == 82) ((f0f a2 12 3).bind fun y2 =>
(sel (a0.funct3 == y2) ((f0f a2 25 7).bind fun b_1=>some (a0.funct7 == b_1)) (some false)).bind fun b1 =>
some b1) <|
(sel (y1 == 73) (some (y1 == 73)) <|
sel (y1 == 83) (some (y1 == 83)) <|
some (y1 == 66) : Option (Bool)).bind fun y4 =>
sel y4 ((f0f a2 12 3).bind fun y5 =>
some (a0.funct3 == y5)) <|
some true
def f1c (a0 : Int) (a1 : Int) : Option (Int):=
(sel (((decide (a1 < 1)) || (decide (a1 > 32))) || (decide (a0 < 0))) (some true) ((shO .shl .i64 1 a1).bind fun d1=>some (decide (a0 ≥ d1))) : Option (Bool)).bind fun b1 =>
sel b1 (some 0) <|
(shO .shl .i64 1 (w64 (a1 - 1))).bind fun d2 =>
sel (decide (a0 ≥ d2)) ((shO .shl .i64 1 a1).bind fun d3 =>
some (w64 (a0 - d3))) <|
some a0
def f17 (a0 : Int) (a1 : Int) : Option (Instr):=
(f0f a1 7 5).bind fun y1 =>
(f0f a1 15 5).bind fun y2 =>
(f0f a1 20 5).bind fun y3 =>
(f0m a0).bind fun y4 =>
sel (y4 == 82) (some (Instr.mk a0 y1 y2 y3 0)) <|
sel (y4 == 73) ((f0f a1 20 12).bind fun y5 =>
(f1c y5 12).bind fun y6 =>
some (Instr.mk a0 y1 y2 0 y6)) <|
sel (y4 == 83) ((f0f a1 25 7).bind fun y7 =>
(f1c (bitsI .or .i64 (w64 (y7 * 2 ^ (min 5 (IntKind.bits .i64)))) y1) 12).bind fun y8 =>
some (Instr.mk a0 0 y2 y3 y8)) <|
sel (y4 == 66) ((f0f a1 31 1).bind fun y9 =>
(f0f a1 7 1).bind fun y10 =>
(f0f a1 25 6).bind fun y11 =>
(f0f a1 8 4).bind fun y12 =>
(f1c (bitsI .or .i64 (bitsI .or .i64 (bitsI .or .i64 (w64 (y9 * 2 ^ (min 12 (IntKind.bits .i64)))) (w64 (y10 * 2 ^ (min 11 (IntKind.bits .i64))))) (w64 (y11 * 2 ^ (min 5 (IntKind.bits .i64))))) (w64 (y12 * 2 ^ (min 1 (IntKind.bits .i64))))) 13).bind fun y13 =>
some (Instr.mk a0 0 y2 y3 y13)) <|
sel (y4 == 85) ((f0f a1 12 20).bind fun y14 =>
some (Instr.mk a0 y1 0 0 y14)) <|
sel (y4 == 74) ((f0f a1 31 1).bind fun y15 =>
(f0f a1 12 8).bind fun y16 =>
(f0f a1 20 1).bind fun y17 =>
(f0f a1 21 10).bind fun y18 =>
(f1c (bitsI .or .i64 (bitsI .or .i64 (bitsI .or .i64 (w64 (y15 * 2 ^ (min 20 (IntKind.bits .i64)))) (w64 (y16 * 2 ^ (min 12 (IntKind.bits .i64))))) (w64 (y17 * 2 ^ (min 11 (IntKind.bits .i64))))) (w64 (y18 * 2 ^ (min 1 (IntKind.bits .i64))))) 21).bind fun y19 =>
some (Instr.mk a0 y1 0 0 y19)) <|
some (Instr.mk a0 0 0 0 0)
def f1v (a0 : Int) (s1 : Int) : Option (Int ⊕ ((Instr × Bool) ⊕ Unit)):=
sel (decide (s1 ≤ 21)) (((nth instrTable (w64 (s1 - 1))).bind fun x1 =>
(f0p x1 s1 a0).bind fun y6 =>
sel (!y6) (some (.inl ())) <|
(f17 s1 a0).bind fun y7 =>
(f0t y7).bind fun y8 =>
sel (y8.2 && (y8.1 == a0)) (some (.inr (y7,true))) <|
some (.inl ()) : Option (Unit ⊕ (Instr × Bool))).bind fun y5 =>
both y5 (fun o5=>some (.inl (w64 (s1 + 1)))) (fun o6 =>
some (.inr (.inl o6)))) <|
some (.inr (.inr ()))
noncomputable def f12 (a0 : Int) : Option (Instr × Bool):=
(f2g a0).bind fun y1 =>
sel (!y1) (some ((Instr.mk 0 0 0 0 0),false)) <|
(iter (f1v a0) 1).bind fun y2 =>
both y2 (fun o7=>some o7) (fun o8 =>
some ((Instr.mk 0 0 0 0 0),false))
def f4a (a0 : List Int) (s1 : Int) : Option (Int ⊕ (Bool ⊕ Unit)):=
sel (decide (s1 < (a0.length : Int))) ((nth a0 s1).bind fun x1 =>
(f1i x1).bind fun y4 =>
sel (!y4) (some (.inr (.inl false))) <|
some (.inl (w64 (s1 + 1)))) <|
some (.inr (.inr ()))
noncomputable def f2p (a0 : List Int) : Option (Bool):=
(iter (f4a a0) 0).bind fun y1 =>
both y1 (fun o3=>some o3) (fun o4 =>
some true)
noncomputable def f1u (a0 : Machine) : Option (Bool):=
(sel ((a0.Regs.length : Int) == 32) ((f2p a0.Regs).bind fun y1=>some y1) (some false) : Option (Bool)).bind fun b1 =>
(sel b1 ((nth a0.Regs 0).bind fun x1=>some (x1 == 0)) (some false) : Option (Bool)).bind fun b2 =>
(sel b2 ((f1i a0.Pc).bind fun y2=>some y2) (some false) : Option (Bool)).bind fun b3 =>
(sel (b3 && (decide ((a0.Mem.length : Int) ≤ 10000))) ((f2p a0.Mem).bind fun y3=>some y3) (some false) : Option (Bool)).bind fun b4 =>
some b4
noncomputable def f3m (k : Nat) (a0 : List Int) : Option ((List Int) × (List (List Instr))):=
(f85 a0).bind fun y1 =>
(f6i k (L6Rd.mk y1.b y1.p)).bind fun y2 =>
(f01 (L6Rd.mk y1.b y2.2) 4).bind fun y3 =>
(f01 (L6Rd.mk y1.b y3.2) 4).bind fun y4 =>
((f01 (L6Rd.mk y1.b y4.2) 24).bind fun y6 =>
sel (y6.1 == 0) ((nth [w64 (1 + y3.1),w64 (1 + y4.1)] 0).bind fun x1 =>
(upd [w64 (1 + y3.1),w64 (1 + y4.1)] 0 0).bind fun r1 =>
some (y2.1,y6.2,r1)) <|
sel (y6.1 == 1) ((nth y2.1 0).bind fun x2 =>
(app 24 y2.1 (List.replicate 3 x2)).bind fun r2 =>
some (r2,y6.2,[w64 (1 + y3.1),w64 (1 + y4.1)])) <|
sel (y6.1 == 2) ((nth y2.1 0).bind fun x3 =>
(app 40 x3 [(Instr.mk 0 0 0 0 0)]).bind fun r3 =>
some ((y2.1.set (Int.toNat 0) r3),y6.2,[w64 (1 + y3.1),w64 (1 + y4.1)])) <|
some (y2.1,y6.2,[w64 (1 + y3.1),w64 (1 + y4.1)]) : Option ((List (List Instr)) × Int × (List Int))).bind fun y5 =>
some (y5.2.2,y5.1)
def f28 (a0 : List Int) (s1 : Int) : Option (Int ⊕ (Bool ⊕ Unit)):=
sel (decide (s1 < (a0.length : Int))) ((nth a0 s1).bind fun x1 =>
sel ((decide (x1 < 1)) || (decide (x1 > 4))) (some (.inr (.inl false))) <|
some (.inl (w64 (s1 + 1)))) <|
some (.inr (.inr ()))
noncomputable def f4q (a0 : List Int) : Option (Bool):=
(iter (f28 a0) 0).bind fun y1 =>
both y1 (fun o3=>some o3) (fun o4 =>
some (decide ((a0.length : Int) ≤ 3)))
def f2t (a0 : List Int) (s1 : Int) : Option (Int ⊕ (Bool ⊕ Unit)):=
sel (decide (s1 < (a0.length : Int))) ((nth a0 s1).bind fun x1 =>
(f05 x1 1 4).bind fun y4 =>
sel (!y4) (some (.inr (.inl false))) <|
some (.inl (w64 (s1 + 1)))) <|
some (.inr (.inr ()))
noncomputable def f3g (a0 : List Int) : Option (Bool):=
(iter (f2t a0) 0).bind fun y1 =>
both y1 (fun o3=>some o3) (fun o4 =>
some (decide ((a0.length : Int) ≤ 3)))
noncomputable def f3n (k : Nat) (a0 : List Int) : Option ((List Int) × (List (List Instr))):=
(f3m k a0).bind fun y1 =>
some (y1.1,y1.2)
def f13 (a0 : Int) (a1 : Int) (a2 : Int) : Option (Instr):=
some (Instr.mk 12 a0 a1 0 a2)
def f2b (a0 : Int) (a1 : Int) (a2 : Int) (a3 : Int) (a4 : Int) : Option (Instr):=
some (Instr.mk a0 0 a2 a3 (w64 (4 * (w64 (a4 - a1)))))
def f9u (a0 : Int) (a1 : Int) : Option (Instr):=
some (Instr.mk 20 0 0 0 (w64 (4 * (w64 (a1 - a0)))))
def f1r (a0 : Int) (a1 : Int) (a2 : Int) (a3 : Int) : Option (Instr):=
some (Instr.mk a0 a1 a2 a3 0)
def f2m (a0 : Int) (a1 : Int) (a2 : Int) : Option (Instr):=
some (Instr.mk 14 a0 a2 0 a1)
def f3t (a0 : Int) (a1 : Int) (a2 : Int) : Option (Instr):=
some (Instr.mk 16 0 a2 a0 a1)
def f8z (a0 : Int) : Option (Instr):=
some (Instr.mk 15 0 a0 0 0)
def f9i (s1 : (List Instr) × Int) : Option (((List Instr) × Int) ⊕ ((List Instr))):=
sel (decide (s1.2 < 13)) ((nth savedRegs s1.2).bind fun x1 =>
(f3t x1 (w64 ((w64 (4 * s1.2)) + 4)) 4).bind fun y58 =>
(app 40 s1.1 [y58]).bind fun r1 =>
some (.inl (r1,w64 (s1.2 + 1)))) <|
some (.inr s1.1)
def f9k (s2 : (List Instr) × Int) : Option (((List Instr) × Int) ⊕ ((List Instr))):=
sel (decide (s2.2 < 13)) ((nth savedRegs s2.2).bind fun x2 =>
(f2m x2 (w64 ((w64 (4 * s2.2)) + 4)) 4).bind fun y69 =>
(app 40 s2.1 [y69]).bind fun r3 =>
some (.inl (r3,w64 (s2.2 + 1)))) <|
some (.inr s2.1)
noncomputable def f2y : Option ((List Instr)):=
(f13 5 0 1).bind fun y1 =>
(f2b 17 1 17 5 9).bind fun y2 =>
(f13 5 0 2).bind fun y3 =>
(f2b 17 3 17 5 26).bind fun y4 =>
(f13 5 0 3).bind fun y5 =>
(f2b 17 5 17 5 47).bind fun y6 =>
(f13 5 0 4).bind fun y7 =>
(f2b 17 7 17 5 44).bind fun y8 =>
(f9u 8 50).bind fun y9 =>
(f13 5 0 5).bind fun y10 =>
(f1r 9 6 11 5).bind fun y11 =>
(f1r 1 6 6 3).bind fun y12 =>
(f2m 7 24 6).bind fun y13 =>
(f2m 28 16 6).bind fun y14 =>
(f2b 17 14 7 28 50).bind fun y15 =>
(f2m 29 20 6).bind fun y16 =>
(f1r 1 29 29 7).bind fun y17 =>
(f1r 5 29 29 28).bind fun y18 =>
(f13 5 0 2).bind fun y19 =>
(f1r 9 29 29 5).bind fun y20 =>
(f1r 1 29 29 6).bind fun y21 =>
(f3t 10 32 29).bind fun y22 =>
(f13 7 7 1).bind fun y23 =>
(f3t 7 24 6).bind fun y24 =>
(f3t 0 0 3).bind fun y25 =>
(f8z 1).bind fun y26 =>
(f13 5 0 5).bind fun y27 =>
(f1r 9 6 11 5).bind fun y28 =>
(f1r 1 6 6 3).bind fun y29 =>
(f2m 7 24 6).bind fun y30 =>
(f2b 17 30 7 0 50).bind fun y31 =>
(f2m 28 16 6).bind fun y32 =>
(f2m 29 20 6).bind fun y33 =>
(f13 5 0 2).bind fun y34 =>
(f1r 9 30 29 5).bind fun y35 =>
(f1r 1 30 30 6).bind fun y36 =>
(f2m 10 32 30).bind fun y37 =>
(f13 29 29 1).bind fun y38 =>
(f1r 5 29 29 28).bind fun y39 =>
(f3t 29 20 6).bind fun y40 =>
(f13 7 7 (-1)).bind fun y41 =>
(f3t 7 24 6).bind fun y42 =>
(f3t 0 0 3).bind fun y43 =>
(f8z 1).bind fun y44 =>
(f3t 0 0 3).bind fun y45 =>
(f8z 1).bind fun y46 =>
(f13 5 1 0).bind fun y47 =>
(f3t 0 0 3).bind fun y48 =>
(f9u 49 54).bind fun y49 =>
(f13 5 0 0).bind fun y50 =>
(f2m 6 0 3).bind fun y51 =>
(f13 6 6 1).bind fun y52 =>
(f3t 6 0 3).bind fun y53 =>
(f3t 5 0 4).bind fun y54 =>
(iter (f9i) ([y1,y2,y3,y4,y5,y6,y7,y8,y9,y10,y11,y12,y13,y14,y15,y16,y17,y18,y19,y20,y21,y22,y23,y24,y25,y26,y27,y28,y29,y30,y31,y32,y33,y34,y35,y36,y37,y38,y39,y40,y41,y42,y43,y44,(Instr.mk 21 0 0 0 0),y45,y46,y47,y48,y49,y50,y51,y52,y53,y54],0)).bind fun y55 =>
(f2m 6 0 3).bind fun y59 =>
(f2m 7 4 3).bind fun y60 =>
(f2b 17 70 6 7 90).bind fun y61 =>
(f13 4 4 64).bind fun y62 =>
(f2m 5 12 3).bind fun y63 =>
(f2b 18 73 4 5 75).bind fun y64 =>
(f2m 4 8 3).bind fun y65 =>
(app 40 y55 [y59,y60,y61,y62,y63,y64,y65]).bind fun r2 =>
(iter (f9k) (r2,0)).bind fun y66 =>
(f2m 5 0 4).bind fun y70 =>
(f8z 5).bind fun y71 =>
(f13 17 0 0).bind fun y72 =>
(app 40 y66 [y70,y71,y72,(Instr.mk 21 0 0 0 0)]).bind fun r4 =>
some r4
noncomputable def f2r (a1 : List (List Instr)) (s1 : (List Int) × (List Int) × Int) : Option (((List Int) × (List Int) × Int) ⊕ ((Machine × Int × Bool) ⊕ ((List Int) × (List Int)))):=
sel (decide (s1.2.2 < (a1.length : Int))) ((nth a1 s1.2.2).bind fun x1 =>
(f53 x1).bind fun y7 =>
sel (!y7.2) (some (.inr (.inl ((Machine.mk [] 0 []),0,false)))) <|
(app 8 s1.2.1 [w64 (4 * (s1.1.length : Int))]).bind fun r1 =>
(app 8 s1.1 y7.1).bind fun r2 =>
some (.inl (r2,r1,w64 (s1.2.2 + 1)))) <|
some (.inr (.inr (s1.1,s1.2.1)))
def f41 (a0 : List Int) (s2 : (List Int) × Int) : Option (((List Int) × Int) ⊕ ((List Int))):=
sel (decide (s2.2 < 3)) ((mk 8 8 0).bind fun r4 =>
(sel (decide (s2.2 < (a0.length : Int))) ((nth a0 s2.2).bind fun x2 =>
(nth r4 0).bind fun x3 =>
(upd r4 0 x2).bind fun r5 =>
some r5) <|
some r4 : Option ((List Int))).bind fun y11 =>
(app 8 s2.1 y11).bind fun r6 =>
some (.inl (r6,w64 (s2.2 + 1)))) <|
some (.inr s2.1)
def f43 (a1 : List (List Instr)) (o4 : (List Int) × (List Int)) (s3 : (List Int) × Int) : Option (((List Int) × Int) ⊕ ((List Int))):=
sel (decide (s3.2 < (o4.2.length : Int))) ((nth o4.2 s3.2).bind fun x4 =>
(mk 8 16 0).bind fun r7 =>
(nth r7 0).bind fun x5 =>
(upd r7 0 x4).bind fun r8 =>
(nth r8 2).bind fun x6 =>
(upd r8 2 (w64 ((w64 ((w64 ((w64 (4 * (o4.1.length : Int))) + 112)) + (w64 (64 * (a1.length : Int))))) + (w64 (48 * s3.2))))).bind fun r9 =>
(app 8 s3.1 r9).bind fun r10 =>
some (.inl (r10,w64 (s3.2 + 1)))) <|
some (.inr s3.1)
noncomputable def f3h (a0 : List Int) (a1 : List (List Instr)) : Option (Machine × Int × Bool):=
(f4q a0).bind fun y1 =>
sel (((!y1) || (decide ((a1.length : Int) < 1))) || (decide ((a1.length : Int) > 3))) (some ((Machine.mk [] 0 []),0,false)) <|
(f2y).bind fun y2 =>
(f53 y2).bind fun y3 =>
(iter (f2r a1) (y3.1,[],0)).bind fun y4 =>
both y4 (fun o3=>some o3) (fun o4 =>
(app 8 o4.1 [0,(a1.length : Int),w64 ((w64 (4 * (o4.1.length : Int))) + 112),w64 ((w64 ((w64 (4 * (o4.1.length : Int))) + 112)) + (w64 (64 * (a1.length : Int))))]).bind fun r3 =>
(iter (f41 a0) (r3,0)).bind fun y8 =>
(iter (f43 a1 o4) (y8,0)).bind fun y12 =>
(appz 8 y12 (w64 (12 * (a1.length : Int))) 0).bind fun r11 =>
sel (decide ((r11.length : Int) > 10000)) (some ((Machine.mk [] 0 []),0,false)) <|
(nth o4.2 0).bind fun x7 =>
(mk 8 32 0).bind fun r12 =>
(nth r12 2).bind fun x8 =>
(upd r12 2 (w64 ((w64 ((w64 (4 * (o4.1.length : Int))) + 112)) + (w64 (64 * (a1.length : Int)))))).bind fun r13 =>
(nth r13 3).bind fun x9 =>
(upd r13 3 (w64 (4 * (o4.1.length : Int)))).bind fun r14 =>
(nth r14 4).bind fun x10 =>
(upd r14 4 (w64 ((w64 (4 * (o4.1.length : Int))) + 112))).bind fun r15 =>
some ((Machine.mk r15 x7 r11),w64 (4 * (o4.1.length : Int)),true))
def f0q (a0 : Int) (a1 : Int) (a2 : Int) : Option (Instr):=
some (Instr.mk 12 a0 a1 0 a2)
def f34 (a0 : Int) (a1 : Int) (a2 : Int) (a3 : Int) (a4 : Int) : Option (Instr):=
some (Instr.mk a0 0 a1 a2 (w64 (4 * (w64 (a4 - a3)))))
def fa6 (a0 : Int) (a1 : Int) : Option (Instr):=
some (Instr.mk 20 0 0 0 (w64 (4 * (w64 (a1 - a0)))))
def fa0 : Option ((List Instr)):=
(f0q 5 0 1).bind fun y1 =>
(f34 17 17 5 1 9).bind fun y2 =>
(f0q 5 0 2).bind fun y3 =>
(f34 17 17 5 3 26).bind fun y4 =>
(f0q 5 0 3).bind fun y5 =>
(f34 17 17 5 5 47).bind fun y6 =>
(f0q 5 0 4).bind fun y7 =>
(f34 17 17 5 7 44).bind fun y8 =>
(fa6 8 50).bind fun y9 =>
some [y1,y2,y3,y4,y5,y6,y7,y8,y9]
def f29 (a0 : Int) (a1 : Int) (a2 : Int) (a3 : Int) : Option (Instr):=
some (Instr.mk a0 a1 a2 a3 0)
def f14 (a0 : Int) (a1 : Int) (a2 : Int) : Option (Instr):=
some (Instr.mk 14 a0 a2 0 a1)
def f1s (a0 : Int) (a1 : Int) (a2 : Int) : Option (Instr):=
some (Instr.mk 16 0 a2 a0 a1)
def f5k (a0 : Int) : Option (Instr):=
some (Instr.mk 15 0 a0 0 0)
def fa9 : Option ((List Instr)):=
(f0q 5 0 5).bind fun y1 =>
(f29 9 6 11 5).bind fun y2 =>
(f29 1 6 6 3).bind fun y3 =>
(f14 7 24 6).bind fun y4 =>
(f14 28 16 6).bind fun y5 =>
(f34 17 7 28 14 50).bind fun y6 =>
(f14 29 20 6).bind fun y7 =>
(f29 1 29 29 7).bind fun y8 =>
(f29 5 29 29 28).bind fun y9 =>
(f0q 5 0 2).bind fun y10 =>
(f29 9 29 29 5).bind fun y11 =>
(f29 1 29 29 6).bind fun y12 =>
(f1s 10 32 29).bind fun y13 =>
(f0q 7 7 1).bind fun y14 =>
(f1s 7 24 6).bind fun y15 =>
(f1s 0 0 3).bind fun y16 =>
(f5k 1).bind fun y17 =>
some [y1,y2,y3,y4,y5,y6,y7,y8,y9,y10,y11,y12,y13,y14,y15,y16,y17]
def fa8 : Option ((List Instr)):=
(f0q 5 0 5).bind fun y1 =>
(f29 9 6 11 5).bind fun y2 =>
(f29 1 6 6 3).bind fun y3 =>
(f14 7 24 6).bind fun y4 =>
(f34 17 7 0 30 50).bind fun y5 =>
(f14 28 16 6).bind fun y6 =>
(f14 29 20 6).bind fun y7 =>
(f0q 5 0 2).bind fun y8 =>
(f29 9 30 29 5).bind fun y9 =>
(f29 1 30 30 6).bind fun y10 =>
(f14 10 32 30).bind fun y11 =>
(f0q 29 29 1).bind fun y12 =>
(f29 5 29 29 28).bind fun y13 =>
(f1s 29 20 6).bind fun y14 =>
(f0q 7 7 (-1)).bind fun y15 =>
(f1s 7 24 6).bind fun y16 =>
(f1s 0 0 3).bind fun y17 =>
(f5k 1).bind fun y18 =>
some [y1,y2,y3,y4,y5,y6,y7,y8,y9,y10,y11,y12,y13,y14,y15,y16,y17,y18]
def f9z : Option ((List Instr)):=
(f1s 0 0 3).bind fun y1 =>
(f5k 1).bind fun y2 =>
(f0q 5 1 0).bind fun y3 =>
(f1s 0 0 3).bind fun y4 =>
(fa6 49 54).bind fun y5 =>
(f0q 5 0 0).bind fun y6 =>
(f14 6 0 3).bind fun y7 =>
(f0q 6 6 1).bind fun y8 =>
(f1s 6 0 3).bind fun y9 =>
some [(Instr.mk 21 0 0 0 0),y1,y2,y3,y4,y5,y6,y7,y8,y9]
def f8e : Option ((List Int)):=
some [1,2,8,9,18,19,20,21,22,23,10,11,17]
def fau (y2 : (List Int)) (s1 : (List Instr) × Int) : Option (((List Instr) × Int) ⊕ ((List Instr))):=
sel (decide (s1.2 < (y2.length : Int))) ((nth y2 s1.2).bind fun x1 =>
(f1s x1 (w64 (4 + (w64 (4 * s1.2)))) 4).bind fun y6 =>
(app 40 s1.1 [y6]).bind fun r1 =>
some (.inl (r1,w64 (s1.2 + 1)))) <|
some (.inr s1.1)
noncomputable def f77 : Option ((List Instr)):=
(f1s 5 0 4).bind fun y1 =>
(f8e).bind fun y2 =>
(iter (fau y2) ([y1],0)).bind fun y3 =>
some y3
def fan (y8 : (List Int)) (s1 : (List Instr) × Int) : Option (((List Instr) × Int) ⊕ ((List Instr))):=
sel (decide (s1.2 < (y8.length : Int))) ((nth y8 s1.2).bind fun x1 =>
(f14 x1 (w64 (4 + (w64 (4 * s1.2)))) 4).bind fun y12 =>
(app 40 s1.1 [y12]).bind fun r1 =>
some (.inl (r1,w64 (s1.2 + 1)))) <|
some (.inr s1.1)
noncomputable def f7i : Option ((List Instr)):=
(f14 6 0 3).bind fun y1 =>
(f14 7 4 3).bind fun y2 =>
(f34 17 6 7 70 90).bind fun y3 =>
(f0q 4 4 64).bind fun y4 =>
(f14 5 12 3).bind fun y5 =>
(f34 18 4 5 73 75).bind fun y6 =>
(f14 4 8 3).bind fun y7 =>
(f8e).bind fun y8 =>
(iter (fan y8) ([y1,y2,y3,y4,y5,y6,y7],0)).bind fun y9 =>
(f14 5 0 4).bind fun y13 =>
(f5k 5).bind fun y14 =>
(app 40 y9 [y13,y14]).bind fun r2 =>
some r2
noncomputable def f7e : Option ((List Instr)):=
(fa0).bind fun y1 =>
(fa9).bind fun y2 =>
(app 40 y1 y2).bind fun r1 =>
(fa8).bind fun y3 =>
(app 40 r1 y3).bind fun r2 =>
(f9z).bind fun y4 =>
(app 40 r2 y4).bind fun r3 =>
(f77).bind fun y5 =>
(app 40 r3 y5).bind fun r4 =>
(f7i).bind fun y6 =>
(app 40 r4 y6).bind fun r5 =>
(f0q 17 0 0).bind fun y7 =>
(app 40 r5 [y7,(Instr.mk 21 0 0 0 0)]).bind fun r6 =>
some r6
def f4l (a1 : List Int) (s1 : (List Int) × Int) : Option (((List Int) × Int) ⊕ ((List Int))):=
sel (decide (s1.2 < 3)) ((sel (decide (s1.2 < (a1.length : Int))) ((nth a1 s1.2).bind fun x1 =>
some x1) <|
some 0 : Option (Int)).bind fun y4 =>
(app 8 s1.1 [y4,0,0,0,0,0,0,0]).bind fun r1 =>
some (.inl (r1,w64 (s1.2 + 1)))) <|
some (.inr s1.1)
def f4s (a0 : Int) (a2 : List Int) (s2 : (List Int) × Int) : Option (((List Int) × Int) ⊕ ((List Int))):=
sel (decide (s2.2 < (a2.length : Int))) ((mk 8 16 0).bind fun r2 =>
(nth a2 s2.2).bind fun x2 =>
(nth r2 0).bind fun x3 =>
(upd r2 0 (w64 (4 * x2))).bind fun r3 =>
(nth r3 2).bind fun x4 =>
(upd r3 2 (w64 (4 * (w64 ((w64 ((w64 ((w64 (a0 + 4)) + 24)) + (w64 (16 * (a2.length : Int))))) + (w64 (12 * s2.2))))))).bind fun r4 =>
(app 8 s2.1 r4).bind fun r5 =>
some (.inl (r5,w64 (s2.2 + 1)))) <|
some (.inr s2.1)
noncomputable def f73 (a0 : Int) (a1 : List Int) (a2 : List Int) : Option ((List Int)):=
(iter (f4l a1) ([0,(a2.length : Int),w64 (4 * (w64 ((w64 (a0 + 4)) + 24))),w64 (4 * (w64 ((w64 ((w64 (a0 + 4)) + 24)) + (w64 (16 * (a2.length : Int))))))],0)).bind fun y1 =>
(iter (f4s a0 a2) (y1,0)).bind fun y5 =>
(appz 8 y5 (w64 (12 * (a2.length : Int))) 0).bind fun r6 =>
some r6
def f7c (a0 : List Int) (a1 : Int) (a2 : Int) : Option (Machine):=
(mk 8 32 0).bind fun r1 =>
(nth a0 (w64 ((w64 ((w64 (a1 + 4)) + 24)) + 2))).bind fun x1 =>
(nth r1 2).bind fun x2 =>
(upd r1 2 x1).bind fun r2 =>
(nth r2 3).bind fun x3 =>
(upd r2 3 (w64 (4 * a1))).bind fun r3 =>
(nth r3 4).bind fun x4 =>
(upd r3 4 (w64 (4 * (w64 ((w64 (a1 + 4)) + 24))))).bind fun r4 =>
some (Machine.mk r4 (w64 (4 * a2)) a0)
noncomputable def f2x (a1 : List (List Instr)) (s1 : (List Int) × (List Int) × Int) : Option (((List Int) × (List Int) × Int) ⊕ ((Machine × Int × Bool) ⊕ ((List Int) × (List Int)))):=
sel (decide (s1.2.2 < (a1.length : Int))) ((app 8 s1.2.1 [(s1.1.length : Int)]).bind fun r1 =>
(nth a1 s1.2.2).bind fun x1 =>
sel (decide ((x1.length : Int) > 10000)) (some (.inr (.inl ((Machine.mk [] 0 []),0,false)))) <|
(nth a1 s1.2.2).bind fun x2 =>
(f5i s1.1 x2).bind fun y8 =>
sel (!y8.2) (some (.inr (.inl ((Machine.mk [] 0 []),0,false)))) <|
some (.inl (y8.1,r1,w64 (s1.2.2 + 1)))) <|
some (.inr (.inr (s1.1,s1.2.1)))
noncomputable def f3j (a0 : List Int) (a1 : List (List Instr)) : Option (Machine × Int × Bool):=
(f3g a0).bind fun y1 =>
(sel (!y1) (some true) ((f05 (a1.length : Int) 1 3).bind fun y2=>some (!y2)) : Option (Bool)).bind fun b1 =>
sel b1 (some ((Machine.mk [] 0 []),0,false)) <|
(f7e).bind fun y3 =>
(f5i [] y3).bind fun y4 =>
(iter (f2x a1) (y4.1,[],0)).bind fun y5 =>
both y5 (fun o3=>some o3) (fun o4 =>
(f73 (o4.1.length : Int) a0 o4.2).bind fun y9 =>
(app 8 o4.1 y9).bind fun r2 =>
sel (decide ((r2.length : Int) > 10000)) (some ((Machine.mk [] 0 []),0,false)) <|
(nth o4.2 0).bind fun x3 =>
(f7c r2 (o4.1.length : Int) x3).bind fun y10 =>
some ((Machine.mk y10.Regs y10.Pc y10.Mem),w64 (4 * (o4.1.length : Int)),true))
noncomputable def f3k (a0 : Int) : Option (Instr × Bool):=
(f2y).bind fun y1 =>
sel ((decide (a0 < 0)) || (decide (a0 ≥ (y1.length : Int)))) (some ((Instr.mk 0 0 0 0 0),false)) <|
(nth y1 a0).bind fun x1 =>
some (x1,true)
noncomputable def f3l (s1 : (List Instr) × Int) : Option (((List Instr) × Int) ⊕ ((List Instr))):=
sel (decide (s1.2 < 92)) ((f3k s1.2).bind fun y4 =>
(app 40 s1.1 [y4.1]).bind fun r1 =>
some (.inl (r1,w64 (s1.2 + 1)))) <|
some (.inr s1.1)
noncomputable def f56 : Option ((List Instr)):=
(iter (f3l) ([],0)).bind fun y1 =>
some y1
def f4k (y1 : (List Int) × (List (List Instr))) (s1 : (List Instr) × Int) : Option (((List Instr) × Int) ⊕ ((List Instr))):=
sel (decide (s1.2 < (y1.2.length : Int))) ((nth y1.2 s1.2).bind fun x1 =>
(app 40 s1.1 x1).bind fun r1 =>
some (.inl (r1,w64 (s1.2 + 1)))) <|
some (.inr s1.1)
noncomputable def f4n (y2 : Machine × Int × Bool) (y7 : (List Instr)) (s2 : Int) : Option (Int ⊕ (Bool ⊕ Unit)):=
sel (decide (s2 < (y7.length : Int))) ((nth y2.1.Mem s2).bind fun x2 =>
(f0y x2).bind fun y13 =>
(f12 y13).bind fun y14 =>
(sel (!y14.2) (some true) ((nth y7 s2).bind fun b_1=>some (!((y14.1.Op == b_1.Op) && ((y14.1.Rd == b_1.Rd) && ((y14.1.Rs == b_1.Rs) && ((y14.1.Rt == b_1.Rt) && ((y14.1.Imm == b_1.Imm) && true)))))))).bind fun b3 =>
sel b3 (some (.inr (.inl false))) <|
some (.inl (w64 (s2 + 1)))) <|
some (.inr (.inr ()))
noncomputable def f99 (k : Nat) (a0 : List Int) : Option (Bool):=
sel (decide ((a0.length : Int) > 1048576)) (some true) <|
(f3n k a0).bind fun y1 =>
(f3h y1.1 y1.2).bind fun y2 =>
(f3j y1.1 y1.2).bind fun y3 =>
(sel ((y2.2.2 != y3.2.2) || (y2.2.1 != y3.2.1)) (some true) ((f2u (Machine.mk y2.1.Regs y2.1.Pc y2.1.Mem) (Machine.mk y3.1.Regs y3.1.Pc y3.1.Mem)).bind fun y4=>some (!y4)) : Option (Bool)).bind fun b1 =>
sel (b1 || (!y2.2.2)) ((sel ((y2.2.2 == y3.2.2) && (y2.2.1 == y3.2.1)) ((f2u (Machine.mk y2.1.Regs y2.1.Pc y2.1.Mem) (Machine.mk y3.1.Regs y3.1.Pc y3.1.Mem)).bind fun y5=>some y5) (some false) : Option (Bool)).bind fun b2 =>
some b2) <|
(f56).bind fun y6 =>
(iter (f4k y1) (y6,0)).bind fun y7 =>
(iter (f4n y2 y7) 0).bind fun y10 =>
both y10 (fun o3=>some o3) (fun o4 =>
(f1u (Machine.mk y2.1.Regs y2.1.Pc y2.1.Mem)).bind fun y15 =>
some (y15 && (y2.2.1 == (w64 (4 * (y7.length : Int))))))
def f6t (a0 : List Int) (s1 : Int) : Option (Int ⊕ (Bool ⊕ Unit)):=
sel (decide (s1 < (a0.length : Int))) ((nth a0 s1).bind fun x1 =>
(f19 x1).bind fun y4 =>
sel (!y4) (some (.inr (.inl false))) <|
some (.inl (w64 (s1 + 1)))) <|
some (.inr (.inr ()))
noncomputable def f5b (a0 : List Int) (a1 : Int) : Option (Bool):=
sel ((a0.length : Int) != a1) (some false) <|
(iter (f6t a0) 0).bind fun y1 =>
both y1 (fun o3=>some o3) (fun o4 =>
some true)
noncomputable def fa1 (a0 : Machine) : Option (Bool):=
(f5b a0.Regs 32).bind fun y1 =>
(sel y1 ((nth a0.Regs 0).bind fun x1=>some (x1 == 0)) (some false) : Option (Bool)).bind fun b1 =>
(sel b1 ((f19 a0.Pc).bind fun y2=>some y2) (some false) : Option (Bool)).bind fun b2 =>
(sel (b2 && (decide ((a0.Mem.length : Int) ≤ 10000))) ((f5b a0.Mem (a0.Mem.length : Int)).bind fun y3=>some y3) (some false) : Option (Bool)).bind fun b3 =>
some b3
noncomputable def f8a (a0 : Int) (s1 : Int) : Option (Int ⊕ (Int ⊕ Unit)):=
sel (decide (s1 ≤ 11)) ((f06 a0 12 3).bind fun y5 =>
(f4f s1).bind fun y6 =>
(sel (y5 == y6) ((f06 a0 25 7).bind fun y7=>(f4e s1).bind fun y8=>some (y7 == y8)) (some false) : Option (Bool)).bind fun b1 =>
sel b1 (some (.inr (.inl s1))) <|
some (.inl (w64 (s1 + 1)))) <|
some (.inr (.inr ()))
noncomputable def f7m (a0 : Int) : Option (Int):=
(f06 a0 0 7).bind fun y1 =>
sel (y1 == 51) ((iter (f8a a0) 1).bind fun y2 =>
both y2 (fun o3=>some o3) (fun o4 =>
some 0)) <|
sel (y1 == 19) ((f06 a0 12 3).bind fun y9 =>
sel (y9 == 0) (some 12) <|
some 13) <|
sel (y1 == 3) (some 14) <|
sel (y1 == 103) (some 15) <|
sel (y1 == 35) (some 16) <|
sel (y1 == 99) ((f06 a0 12 3).bind fun y10 =>
sel (y10 == 0) (some 17) <|
some 18) <|
sel (y1 == 55) (some 19) <|
sel (y1 == 111) (some 20) <|
sel (y1 == 115) (some 21) <|
some 0
noncomputable def f0b (a0 : Int) (a1 : Int) : Option (Instr):=
(f06 a1 7 5).bind fun y1 =>
(f06 a1 15 5).bind fun y2 =>
(f06 a1 20 5).bind fun y3 =>
sel (decide (a0 ≤ 11)) (some (Instr.mk a0 y1 y2 y3 0)) <|
sel (decide (a0 ≤ 15)) ((f06 a1 20 12).bind fun y4 =>
(f11 y4 12).bind fun y5 =>
some (Instr.mk a0 y1 y2 0 y5)) <|
sel (a0 == 16) ((f06 a1 25 7).bind fun y6 =>
(f11 (w64 ((w64 (y6 * 32)) + y1)) 12).bind fun y7 =>
some (Instr.mk a0 0 y2 y3 y7)) <|
sel ((a0 == 17) || (a0 == 18)) ((f06 a1 31 1).bind fun y8 =>
(f06 a1 7 1).bind fun y9 =>
(f06 a1 25 6).bind fun y10 =>
(f06 a1 8 4).bind fun y11 =>
(f11 (w64 ((w64 ((w64 ((w64 (y8 * 4096)) + (w64 (y9 * 2048)))) + (w64 (y10 * 32)))) + (w64 (y11 * 2)))) 13).bind fun y12 =>
some (Instr.mk a0 0 y2 y3 y12)) <|
sel (a0 == 19) ((f06 a1 12 20).bind fun y13 =>
some (Instr.mk a0 y1 0 0 y13)) <|
sel (a0 == 20) ((f06 a1 31 1).bind fun y14 =>
(f06 a1 12 8).bind fun y15 =>
(f06 a1 20 1).bind fun y16 =>
(f06 a1 21 10).bind fun y17 =>
(f11 (w64 ((w64 ((w64 ((w64 (y14 * 1048576)) + (w64 (y15 * 4096)))) + (w64 (y16 * 2048)))) + (w64 (y17 * 2)))) 21).bind fun y18 =>
some (Instr.mk a0 y1 0 0 y18)) <|
some (Instr.mk a0 0 0 0 0)
noncomputable def f2z (a0 : Int) : Option (Instr × Bool):=
(f05 a0 0 4294967295).bind fun y1 =>
(sel (!y1) (some true) ((f7m a0).bind fun y2=>some (y2 == 0)) : Option (Bool)).bind fun b1 =>
sel b1 (some ((Instr.mk 0 0 0 0 0),false)) <|
(f7m a0).bind fun y3 =>
(f0b y3 a0).bind fun y4 =>
(f0n y4).bind fun y5 =>
sel (y5 != a0) (some ((Instr.mk 0 0 0 0 0),false)) <|
some (y4,true)
def fa5 (a0 : Machine) (a1 : Int) : Option (Int):=
sel (((decide (a1 < 0)) || ((Int.tmod a1 4) != 0)) || (decide ((w64 (Int.tdiv a1 4)) ≥ (a0.Mem.length : Int)))) (some (-1)) <|
(nth a0.Mem (w64 (Int.tdiv a1 4))).bind fun x1 =>
some (w64 (Int.tdiv a1 4))
def f24 (a0 : Machine) (a1 : Int) (a2 : Int) : Option ((List Int)):=
sel (a1 != 0) ((nth a0.Regs a1).bind fun x1 =>
(upd a0.Regs a1 a2).bind fun r1 =>
some r1) <|
some a0.Regs
def fb4 (a0 : Bool) : Option (Int):=
sel a0 (some 1) <|
some 0
def feo (a0 : Int) (a1 : Int) (a2 : Int) : Option (Int):=
sel (a0 == 1) (some (bitsI .or .i64 a1 a2)) <|
sel (a0 == 2) (some (bitsI .xor .i64 a1 a2)) <|
sel (a0 == 3) (some (bitsI .and .i64 a1 a2)) <|
sel (a0 == 4) ((fb4 (a1 == a2)).bind fun y1 =>
some y1) <|
sel (a0 == 5) ((fb4 (decide (a1 < a2))).bind fun y2 =>
some y2) <|
sel (a0 == 6) ((shO .shl .i64 a1 (bitsI .and .i64 a2 31)).bind fun d1 =>
(f1d d1).bind fun y3 =>
some y3) <|
sel (a0 == 7) ((shO .shr .i64 a1 (bitsI .and .i64 a2 31)).bind fun d2 =>
some d2) <|
sel (a0 == 8) ((f1d (w64 (a1 + a2))).bind fun y4 =>
some y4) <|
sel (a0 == 9) ((f1d (w64 (a1 - a2))).bind fun y5 =>
some y5) <|
sel (a0 == 10) ((f1d (w64 (a1 * a2))).bind fun y6 =>
some y6) <|
sel (a0 == 11) (sel (a2 == 0) (some (-1)) <|
(quoO .i64 a1 a2).bind fun d3 =>
(f1d d3).bind fun y7 =>
some y7) <|
sel (a2 == 0) (some a1) <|
(remO a1 a2).bind fun d4 =>
some d4
noncomputable def fc2 (a0 : Machine) : Option (Int × (List Int) × Int × (List Int)):=
(fa5 (Machine.mk a0.Regs a0.Pc a0.Mem) a0.Pc).bind fun y1 =>
sel (decide (y1 < 0)) (some (3,a0.Regs,a0.Pc,a0.Mem)) <|
(nth a0.Mem y1).bind fun x1 =>
(f0y x1).bind fun y2 =>
(f12 y2).bind fun y3 =>
sel (!y3.2) (some (3,a0.Regs,a0.Pc,a0.Mem)) <|
(nth a0.Regs y3.1.Rs).bind fun x2 =>
(nth a0.Regs y3.1.Rt).bind fun x3 =>
(f1d (w64 (a0.Pc + 4))).bind fun y4 =>
(sel (y3.1.Op == 21) (some (.inr (2,a0.Regs,a0.Pc,a0.Mem))) <|
sel (y3.1.Op == 12) ((f1d (w64 (x2 + y3.1.Imm))).bind fun y6 =>
(f24 (Machine.mk a0.Regs a0.Pc a0.Mem) y3.1.Rd y6).bind fun y7 =>
some (.inl (y4,y7,a0.Mem))) <|
sel (y3.1.Op == 13) ((f0y x2).bind fun y8 =>
(f0y y3.1.Imm).bind fun y9 =>
(fb4 (decide (y8 < y9))).bind fun y10 =>
(f24 (Machine.mk a0.Regs a0.Pc a0.Mem) y3.1.Rd y10).bind fun y11 =>
some (.inl (y4,y11,a0.Mem))) <|
(sel (y3.1.Op == 14) (some (y3.1.Op == 14)) <|
some (y3.1.Op == 16) : Option (Bool)).bind fun y12 =>
sel y12 ((f1d (w64 (x2 + y3.1.Imm))).bind fun y13 =>
(fa5 (Machine.mk a0.Regs a0.Pc a0.Mem) y13).bind fun y14 =>
sel (decide (y14 < 0)) (some (.inr (3,a0.Regs,a0.Pc,a0.Mem))) <|
sel (y3.1.Op == 16) ((nth a0.Mem y14).bind fun x4 =>
(upd a0.Mem y14 x3).bind fun r1 =>
some (.inl (y4,a0.Regs,r1))) <|
(nth a0.Mem y14).bind fun x5 =>
(f24 (Machine.mk a0.Regs a0.Pc a0.Mem) y3.1.Rd x5).bind fun y15 =>
some (.inl (y4,y15,a0.Mem))) <|
sel (y3.1.Op == 15) ((f24 (Machine.mk a0.Regs a0.Pc a0.Mem) y3.1.Rd y4).bind fun y16 =>
(f1d (w64 (x2 + y3.1.Imm))).bind fun y17 =>
some (.inl (bitsI .andNot .i64 y17 1,y16,a0.Mem))) <|
(sel (y3.1.Op == 17) (some (y3.1.Op == 17)) <|
some (y3.1.Op == 18) : Option (Bool)).bind fun y18 =>
sel y18 (sel ((x2 == x3) == (y3.1.Op == 17)) ((f1d (w64 (a0.Pc + y3.1.Imm))).bind fun y19 =>
some (.inl (y19,a0.Regs,a0.Mem))) <|
some (.inl (y4,a0.Regs,a0.Mem))) <|
sel (y3.1.Op == 19) ((f1d (w64 (y3.1.Imm * 4096))).bind fun y20 =>
(f24 (Machine.mk a0.Regs a0.Pc a0.Mem) y3.1.Rd y20).bind fun y21 =>
some (.inl (y4,y21,a0.Mem))) <|
sel (y3.1.Op == 20) ((f24 (Machine.mk a0.Regs a0.Pc a0.Mem) y3.1.Rd y4).bind fun y22 =>
(f1d (w64 (a0.Pc + y3.1.Imm))).bind fun y23 =>
some (.inl (y23,y22,a0.Mem))) <|
(nth machineOps (w64 (y3.1.Op - 1))).bind fun x6 =>
(feo x6 x2 x3).bind fun y24 =>
(f24 (Machine.mk a0.Regs a0.Pc a0.Mem) y3.1.Rd y24).bind fun y25 =>
some (.inl (y4,y25,a0.Mem)) : Option ((Int × (List Int) × (List Int)) ⊕ (Int × (List Int) × Int × (List Int)))).bind fun y5 =>
both y5 (fun o3=>some (1,o3.2.1,o3.1,o3.2.2)) (fun o4 =>
some o4)
end Go.Proofs.YtmpplggjpmmhlaaGreatDoor.N
namespace Go.Proofs.YtmpplggjpmmhlaaGreatDoor.X
variable {σ τ ρ ρ' α : Type}
theorem w64_eq (x : Int) : w64 x = if 9223372036854775808 ≤ x % 18446744073709551616 then x % 18446744073709551616 - 18446744073709551616 else x % 18446744073709551616:=by
 show IntKind.wrap .i64 x = _
 simp [IntKind.wrap,IntKind.signed,IntKind.bits]
theorem w64_id {x : Int} (h1 : -9223372036854775808 ≤ x) (h2 : x ≤ 9223372036854775807) : w64 x = x:=by
 rw [w64_eq]
 split <;> omega
theorem iter_st {f : σ → Option (σ ⊕ ρ)} (st : Nat → σ) (n : Nat) {r : ρ} (h : ∀ i,i < n → f (st i) = some (.inl (st (i + 1)))) (he : f (st n) = some (.inr r)) : iter f (st 0) = some r:=by
 have key : ∀ m,m ≤ n → iter f (st (n - m)) = some r:=by
  intro m
  induction m with
  | zero=>intro _; rw [iter_eq]; simp [he]
  | succ m ih =>
   intro hm
   rw [iter_eq,h (n - (m + 1)) (by omega)]
   have:=ih (by omega)
   rw [show n - m = n - (m + 1) + 1 by omega] at this
   exact this
 have:=key n (Nat.le_refl n)
 rwa [Nat.sub_self] at this
theorem iter_inv {f : σ → Option (σ ⊕ ρ)} (I : σ → Prop) (μ : σ → Nat) (Q : ρ → Prop) (h : ∀ s,I s → (∃ s',f s = some (.inl s') ∧ I s' ∧ μ s' < μ s) ∨ (∃ r,f s = some (.inr r) ∧ Q r)) : ∀ {s : σ},I s → ∃ r,iter f s = some r ∧ Q r:=by
 have key : ∀ n s,μ s ≤ n → I s → ∃ r,iter f s = some r ∧ Q r:=by
  intro n
  induction n with
  | zero =>
   intro s hs hI
   rcases h s hI with ⟨s',_,_,h3⟩ | ⟨r,h1,h2⟩
   ·omega
   ·exact ⟨r,by rw [iter_eq,h1],h2⟩
  | succ n ih =>
   intro s hs hI
   rcases h s hI with ⟨s',h1,h2,h3⟩ | ⟨r,h1,h2⟩
   ·obtain ⟨r,k1,k2⟩:=ih s' (by omega) h2
    exact ⟨r,by rw [iter_eq,h1]; exact k1,k2⟩
   ·exact ⟨r,by rw [iter_eq,h1],h2⟩
 exact fun {s} hI=>key _ s (Nat.le_refl _) hI
theorem iter_sim {f : σ → Option (σ ⊕ ρ)} {g : τ → Option (τ ⊕ ρ')} (R : σ → τ → Prop) (μ : σ → Nat) (Q : ρ → ρ' → Prop)
  (h : ∀ s t,R s t → (∃ s' t',f s = some (.inl s') ∧ g t = some (.inl t') ∧ R s' t' ∧ μ s' < μ s) ∨ (∃ r r',f s = some (.inr r) ∧ g t = some (.inr r') ∧ Q r r')) : ∀ {s : σ} {t : τ},R s t → ∃ r r',iter f s = some r ∧ iter g t = some r' ∧ Q r r':=by
 have key : ∀ n s t,μ s ≤ n → R s t → ∃ r r',iter f s = some r ∧ iter g t = some r' ∧ Q r r':=by
  intro n
  induction n with
  | zero =>
   intro s t hs hI
   rcases h s t hI with ⟨s',t',_,_,_,h3⟩ | ⟨r,r',h1,h2,h3⟩
   ·omega
   ·exact ⟨r,r',by rw [iter_eq,h1],by rw [iter_eq,h2],h3⟩
  | succ n ih =>
   intro s t hs hI
   rcases h s t hI with ⟨s',t',h1,h2,h3,h4⟩ | ⟨r,r',h1,h2,h3⟩
   ·obtain ⟨r,r',k1,k2,k3⟩:=ih s' t' (by omega) h3
    exact ⟨r,r',by rw [iter_eq,h1]; exact k1,by rw [iter_eq,h2]; exact k2,k3⟩
   ·exact ⟨r,r',by rw [iter_eq,h1],by rw [iter_eq,h2],h3⟩
 exact fun {s t} hI=>key _ s t (Nat.le_refl _) hI
theorem nth_at {l : List α} {i : Nat} (h : i < l.length) : nth l (i : Int) = some l[i]:=by
 unfold nth
 rw [if_neg (by omega)]
 simp [List.getElem?_eq_getElem h]
theorem app_ok {bytes : Nat} {l m : List α} (h : (l.length + m.length) * bytes ≤ 140737488355328) : app bytes l m = some (l ++ m):=by
 unfold app roomy
 rw [Nat.ble_eq_true_of_le h]
theorem sel_true {α : Type} {b : Bool} (h : b = true) (x y : α) : sel b x y = x:=by subst h; rfl
theorem sel_false {α : Type} {b : Bool} (h : b = false) (x y : α) : sel b x y = y:=by subst h; rfl
theorem sel_to {α : Type} {b : Bool} {x y r : α} (h : b = false) (k : y = r) : sel b x y = r:=by subst h; exact k
theorem w64_nat {i : Nat} (h : i ≤ 9223372036854775806) : w64 ((i : Int) + 1) = ((i + 1 : Nat) : Int):=by rw [w64_id (by omega) (by omega)]; omega
def markL (mk : α → Int → Option (Int × α)) : List α → Int → Option (Int × List α)
 | [],k=>some (k,[])
 | x :: xs,k=>match mk x k with
  | some (k1,x')=>match markL mk xs k1 with
   | some (k2,xs')=>some (k2,x' :: xs')
   | none=>none
  | none=>none
def HeldL (hd : α → Int → Int → Prop) : List α → Int → Int → Prop
 | [],k,k'=>k' = k
 | x :: xs,k,k'=>∃ k1,hd x k k1 ∧ HeldL hd xs k1 k'
def MH (mk : α → Int → Option (Int × α)) (hd : α → Int → Int → Prop) (sz : α → Nat) : Prop:=
 ∀ x (k : Int),1 ≤ k → k + sz x ≤ 1000000000000 → ∃ x',mk x k = some (k + sz x,x') ∧ hd x' k (k + sz x)
def szs (sz : α → Nat) : List α → Nat
 | []=>0
 | x :: xs=>sz x + szs sz xs
theorem MH.list {mk : α → Int → Option (Int × α)} {hd : α → Int → Int → Prop} {sz : α → Nat} (h : MH mk hd sz) : ∀ (l : List α) (k : Int),1 ≤ k → k + szs sz l ≤ 1000000000000 → ∃ l',markL mk l k = some (k + szs sz l,l') ∧ HeldL hd l' k (k + szs sz l) ∧ l'.length = l.length
 | [],k,_,_=>⟨[],by simp [markL,szs],by simp [HeldL,szs],rfl⟩
 | x :: xs,k,h1,h2=>by
  simp only [szs] at h2
  obtain ⟨x',k1,k2⟩:=h x k h1 (by omega)
  obtain ⟨l',k3,k4,k5⟩:=MH.list h xs (k + sz x) (by omega) (by omega)
  refine ⟨x' :: l',?_,⟨_,k2,?_⟩,by simp [k5]⟩
  ·simp only [markL,k1,k3,szs]
   congr 2
   omega
  ·rw [show k + (szs sz (x :: xs) : Nat) = k + sz x + szs sz xs by simp only [szs]; omega]
   exact k4
end Go.Proofs.YtmpplggjpmmhlaaGreatDoor.X
namespace Go.Proofs.YtmpplggjpmmhlaaGreatDoor.X
theorem wrap64_nat {n : Nat} (h : n < 9223372036854775808) : IntKind.wrap .i64 (n : Int) = n:=by
 have:=w64_id (x:=(n : Int)) (by omega) (by omega)
 exact this
theorem ofInt_nat {n : Nat} (h : n < 18446744073709551616) : (BitVec.ofInt 64 (n : Int)).toNat = n:=by
 simp only [BitVec.ofInt_natCast,BitVec.toNat_ofNat]
 exact Nat.mod_eq_of_lt h
theorem and_nat {a b : Nat} (ha : a < 9223372036854775808) (hb : b < 9223372036854775808) : bitsI .and .i64 (a : Int) (b : Int) = ((a &&& b : Nat) : Int):=by
 show IntKind.wrap .i64 ((BitVec.ofInt 64 (a : Int) &&& BitVec.ofInt 64 (b : Int)).toNat : Int) = _
 rw [BitVec.toNat_and,ofInt_nat (by omega),ofInt_nat (by omega)]
 exact wrap64_nat (Nat.lt_of_le_of_lt Nat.and_le_left ha)
theorem or_nat {a b : Nat} (ha : a < 9223372036854775808) (hb : b < 9223372036854775808) : bitsI .or .i64 (a : Int) (b : Int) = ((a ||| b : Nat) : Int):=by
 show IntKind.wrap .i64 ((BitVec.ofInt 64 (a : Int) ||| BitVec.ofInt 64 (b : Int)).toNat : Int) = _
 rw [BitVec.toNat_or,ofInt_nat (by omega),ofInt_nat (by omega)]
 exact wrap64_nat (Nat.or_lt_two_pow (n:=63) ha hb)
theorem mask_nat {a k : Nat} (ha : a < 9223372036854775808) (hk : k ≤ 62) : bitsI .and .i64 (a : Int) (((2 ^ k : Nat) : Int) - 1) = ((a % 2 ^ k : Nat) : Int):=by
 have h1 : 2 ^ k ≤ 2 ^ 62:=Nat.pow_le_pow_right (by omega) hk
 have h2 : 0 < 2 ^ k:=Nat.two_pow_pos k
 have h3 : (2 : Nat) ^ 62 = 4611686018427387904:=by decide
 rw [show (((2 ^ k : Nat) : Int) - 1) = ((2 ^ k - 1 : Nat) : Int) by omega,and_nat ha (by omega),Nat.and_two_pow_sub_one_eq_mod]
theorem add_or {i x y : Nat} (h : y < 2 ^ i) : 2 ^ i * x + y = 2 ^ i * x ||| y:=(Nat.two_pow_add_eq_or_of_lt h x)
theorem shl_nat {x k : Nat} (hk : k ≤ 62) (hx : x * 2 ^ k < 9223372036854775808) : shO .shl .i64 (x : Int) (k : Int) = some ((x * 2 ^ k : Nat) : Int):=by
 unfold shO
 rw [if_neg (by omega)]
 have hm : min ((k : Int).toNat) (IntKind.bits .i64) = k:=by
  have : IntKind.bits .i64 = 64:=rfl
  rw [this]; omega
 simp only [hm]
 congr 1
 show w64 _ = _
 have : (x : Int) * 2 ^ k = ((x * 2 ^ k : Nat) : Int):=by simp
 rw [this]
 exact w64_id (by omega) (by omega)
theorem shr_nat {x k : Nat} (hk : k ≤ 62) : shO .shr .i64 (x : Int) (k : Int) = some ((x / 2 ^ k : Nat) : Int):=by
 unfold shO
 rw [if_neg (by omega)]
 have hm : min ((k : Int).toNat) (IntKind.bits .i64) = k:=by
  have : IntKind.bits .i64 = 64:=rfl
  rw [this]; omega
 simp only [hm]
 congr 1
 rw [show ((2 : Int) ^ k) = ((2 ^ k : Nat) : Int) by simp,Int.fdiv_eq_ediv_of_nonneg _ (Int.natCast_nonneg _)]
 rfl
end Go.Proofs.YtmpplggjpmmhlaaGreatDoor.X
namespace Go.Proofs.YtmpplggjpmmhlaaGreatDoor.N
open Go.Proofs.YtmpplggjpmmhlaaGreatDoor.X
theorem sel_and' (b c : Bool) : sel b (some c) (some false) = some (b && c):=by cases b <;> rfl
theorem pow_ok (k : Nat) (hk : k ≤ 62) : f0z (k : Int) = some ((2 ^ k : Nat) : Int):=by
 unfold f0z
 have h63 : ∀ i,i ≤ 62 → 2 ^ i ≤ 4611686018427387904:=fun i hi=>Nat.pow_le_pow_right (by omega : 0 < 2) hi
 have:=iter_st (f:=f3f (k : Int)) (fun i=>(((2 ^ i : Nat) : Int),(i : Int))) k (r:=((2 ^ k : Nat) : Int)) (fun i hi=>by
  unfold f3f
  have h1:=h63 (i + 1) (by omega)
  rw [sel_true (by simpa using hi),w64_nat (by omega)]
  rw [Nat.pow_succ] at h1 ⊢
  generalize 2 ^ i = x at h1 ⊢
  rw [w64_id (by omega) (by omega)]
  simp) (by
  unfold f3f
  rw [sel_false (by simp)])
 rw [show ((2 ^ 0 : Nat) : Int) = 1 from rfl,show ((0 : Nat) : Int) = 0 from rfl] at this
 rw [this]
 rfl
theorem put_ok (n k : Nat) (hk : k ≤ 62) (hn : n * 2 ^ k < 9223372036854775808) : f0c (n : Int) (k : Int) = some ((n * 2 ^ k : Nat) : Int):=by
 unfold f0c
 rw [pow_ok k hk]
 simp only [Option.bind_some]
 rw [show (n : Int) * ((2 ^ k : Nat) : Int) = ((n * 2 ^ k : Nat) : Int) by simp,w64_id (by omega) (by omega)]
theorem sbits_ok (u low many : Nat) (hu : u < 4294967296) (hl : low ≤ 31) (hm : 1 ≤ many) (hm2 : many + low ≤ 32) : f06 (u : Int) (low : Int) (many : Int) = some ((u / 2 ^ low % 2 ^ many : Nat) : Int):=by
 unfold f06 f05
 simp only [Option.bind_some]
 have w1 : w64 (32 - (low : Int)) = 32 - low:=w64_id (by omega) (by omega)
 have e1 : (decide ((u : Int) ≥ 0) && decide ((u : Int) ≤ 4294967295)) = true:=by simp; omega
 have e2 : (decide ((low : Int) ≥ 0) && decide ((low : Int) ≤ 31)) = true:=by simp; omega
 have e3 : (decide ((many : Int) ≥ 1) && decide ((many : Int) ≤ 32 - (low : Int))) = true:=by simp; omega
 rw [e1,e2,w1,e3]
 simp only [Bool.not_true,sel,Option.bind_some]
 rw [pow_ok low (by omega),pow_ok many (by omega)]
 simp only [Option.bind_some]
 have p1:=Nat.two_pow_pos low
 have p2:=Nat.two_pow_pos many
 unfold quoO remO
 rw [if_neg (by omega)]
 simp only [Option.bind_some]
 rw [if_neg (by omega)]
 simp only [Option.bind_some]
 congr 1
 have q1 : Int.tdiv (u : Int) ((2 ^ low : Nat) : Int) = ((u / 2 ^ low : Nat) : Int):=rfl
 have hle : u / 2 ^ low ≤ u:=Nat.div_le_self _ _
 rw [q1]
 generalize u / 2 ^ low = q at hle ⊢
 show Int.tmod (w64 _) _ = _
 rw [w64_id (by omega) (by omega)]
 rfl
theorem ib1 (u low many : Nat) (hu : u < 4294967296) (hl : low ≤ 31) (hm : 1 ≤ many) (hm2 : many + low ≤ 32) : (shO .shr .i64 (u : Int) (low : Int)).bind (fun d1 =>
   (shO .shl .i64 1 (many : Int)).bind fun d2=>some (bitsI .and .i64 d1 (w64 (d2 - 1)))) =
  some ((u / 2 ^ low % 2 ^ many : Nat) : Int):=by
 have hp : 2 ^ many ≤ 2 ^ 32:=Nat.pow_le_pow_right (by omega) (by omega)
 have h3 : (2 : Nat) ^ 32 = 4294967296:=by decide
 rw [h3] at hp
 have h1 : shO .shl .i64 ((1 : Nat) : Int) (many : Int) = _:=shl_nat (x:=1) (k:=many) (by omega) (by omega)
 rw [Nat.one_mul] at h1
 have hle : u / 2 ^ low ≤ u:=Nat.div_le_self _ _
 have h4:=Nat.two_pow_pos many
 have hX : ∀ X : Nat,0 < X → X ≤ 4294967296 → w64 ((X : Int) - 1) = (X : Int) - 1:=fun X h1 h2=>w64_id (by omega) (by omega)
 refine bind_to (shr_nat (x:=u) (k:=low) (by omega)) ?_
 refine bind_to h1 ?_
 rw [hX _ h4 hp]
 congr 1
 exact mask_nat (by omega) (by omega)
theorem ibits_ok (u low many : Nat) (hu : u < 4294967296) (hl : low ≤ 31) (hm : 1 ≤ many) (hm2 : many + low ≤ 32) : f0f (u : Int) (low : Int) (many : Int) = some ((u / 2 ^ low % 2 ^ many : Nat) : Int):=by
 have w1 : w64 (32 - (low : Int)) = 32 - low:=w64_id (by omega) (by omega)
 have e1 : (decide ((u : Int) ≥ 0) && decide ((u : Int) < 4294967296)) = true:=by rw [decide_eq_true (by omega),decide_eq_true (by omega)]; rfl
 have e2 : decide ((low : Int) < 0) = false:=decide_eq_false (by omega)
 have e3 : decide ((low : Int) > 31) = false:=decide_eq_false (by omega)
 have e4 : decide ((many : Int) < 1) = false:=decide_eq_false (by omega)
 have e5 : decide ((many : Int) > 32 - (low : Int)) = false:=decide_eq_false (by omega)
 unfold f0f f2g
 rw [e1,w1,e2,e3,e4,e5]
 exact ib1 u low many hu hl hm hm2
theorem part_ok (u low many place : Nat) (hu : u < 4294967296) (hl : low ≤ 31) (hm : 1 ≤ many) (hm2 : many + low ≤ 32) (hp : place + many ≤ 32) : f02 (low : Int) (many : Int) (place : Int) (u : Int) = some ((u / 2 ^ low % 2 ^ many * 2 ^ place : Nat) : Int):=by
 unfold f02
 rw [ibits_ok u low many hu hl hm hm2]
 simp only [Option.bind_some]
 have h1 : u / 2 ^ low % 2 ^ many < 2 ^ many:=Nat.mod_lt _ (Nat.two_pow_pos _)
 have h2 : u / 2 ^ low % 2 ^ many * 2 ^ place < 2 ^ many * 2 ^ place:=(Nat.mul_lt_mul_right (Nat.two_pow_pos _)).2 h1
 rw [← Nat.pow_add] at h2
 have h3 : 2 ^ (many + place) ≤ 2 ^ 32:=Nat.pow_le_pow_right (by omega) (by omega)
 have h4 : (2 : Nat) ^ 32 = 4294967296:=by decide
 rw [shl_nat (by omega) (by omega)]
 rfl
theorem fmt_R {op : Int} (h : 1 ≤ op ∧ op ≤ 11) : f0m op = some 82:=by unfold f0m; rw [sel_true (by simp; omega)]
theorem fmt_I {op : Int} (h : 12 ≤ op ∧ op ≤ 15) : f0m op = some 73:=by unfold f0m; rw [sel_false (by simp; omega),sel_true (by simp; omega)]
theorem fmt_S' {op : Int} (h : op = 16) : f0m op = some 83:=by subst h; rfl
theorem fmt_B {op : Int} (h : op = 17 ∨ op = 18) : f0m op = some 66:=by rcases h with rfl | rfl <;> rfl
theorem fmt_U' {op : Int} (h : op = 19) : f0m op = some 85:=by subst h; rfl
theorem fmt_J' {op : Int} (h : op = 20) : f0m op = some 74:=by subst h; rfl
theorem fmt_E' {op : Int} (h : op = 21) : f0m op = some 69:=by subst h; rfl
theorem fmt_X {op : Int} (h : op < 1 ∨ 21 < op) : f0m op = some 32:=by
 unfold f0m
 rw [sel_false (by simp; omega),sel_false (by simp; omega),sel_false (by simp; omega),sel_false (by simp; omega),sel_false (by simp; omega),sel_false (by simp; omega),sel_false (by simp; omega)]
theorem op_cases (op : Int) : (1 ≤ op ∧ op ≤ 11) ∨ (12 ≤ op ∧ op ≤ 15) ∨ op = 16 ∨ (op = 17 ∨ op = 18) ∨ op = 19 ∨ op = 20 ∨ op = 21 ∨ (op < 1 ∨ 21 < op):=by omega
end Go.Proofs.YtmpplggjpmmhlaaGreatDoor.N
namespace Go.Proofs.YtmpplggjpmmhlaaGreatDoor.N
open Go.Proofs.YtmpplggjpmmhlaaGreatDoor.X
theorem tab (k : Nat) (h : k < 21) : ∃ (x : InstrRow) (f3 f7 opc : Nat),nth instrTable (k : Int) = some x ∧ x.funct3 = f3 ∧ x.funct7 = f7 ∧ x.opcode = opc ∧ f3 < 8 ∧ f7 < 128 ∧ opc < 128 ∧ nth [0,0,0,4,6,7,6,4,1,5,2,0,3,2,0,2,0,1,0,0,0] (k : Int) = some (f3 : Int) ∧
  (k < 11 → nth [0,32,1,1,1,0,0,0,0,32,0] (k : Int) = some (f7 : Int) ∧ opc = 51) ∧ (k = 11 ∨ k = 12 → opc = 19) ∧ (k = 13 → opc = 3) ∧ (k = 14 → opc = 103) ∧ (k = 15 → opc = 35) ∧ (k = 16 ∨ k = 17 → opc = 99) ∧ (k = 18 → opc = 55) ∧ (k = 19 → opc = 111) ∧ (k = 20 → opc = 115):=by
 have h' : k = 0 ∨ k = 1 ∨ k = 2 ∨ k = 3 ∨ k = 4 ∨ k = 5 ∨ k = 6 ∨ k = 7 ∨ k = 8 ∨ k = 9 ∨ k = 10 ∨ k = 11 ∨ k = 12 ∨ k = 13 ∨ k = 14 ∨ k = 15 ∨ k = 16 ∨ k = 17 ∨ k = 18 ∨ k = 19 ∨ k = 20:=by omega
 rcases h' with rfl | rfl | rfl | rfl | rfl | rfl | rfl | rfl | rfl | rfl | rfl | rfl | rfl | rfl | rfl | rfl | rfl | rfl | rfl | rfl | rfl
 ·exact ⟨_,0,0,51,rfl,rfl,rfl,rfl,by decide,by decide,by decide,rfl,fun h=>⟨rfl,rfl⟩,by decide,by decide,by decide,by decide,by decide,by decide,by decide,by decide⟩
 ·exact ⟨_,0,32,51,rfl,rfl,rfl,rfl,by decide,by decide,by decide,rfl,fun h=>⟨rfl,rfl⟩,by decide,by decide,by decide,by decide,by decide,by decide,by decide,by decide⟩
 ·exact ⟨_,0,1,51,rfl,rfl,rfl,rfl,by decide,by decide,by decide,rfl,fun h=>⟨rfl,rfl⟩,by decide,by decide,by decide,by decide,by decide,by decide,by decide,by decide⟩
 ·exact ⟨_,4,1,51,rfl,rfl,rfl,rfl,by decide,by decide,by decide,rfl,fun h=>⟨rfl,rfl⟩,by decide,by decide,by decide,by decide,by decide,by decide,by decide,by decide⟩
 ·exact ⟨_,6,1,51,rfl,rfl,rfl,rfl,by decide,by decide,by decide,rfl,fun h=>⟨rfl,rfl⟩,by decide,by decide,by decide,by decide,by decide,by decide,by decide,by decide⟩
 ·exact ⟨_,7,0,51,rfl,rfl,rfl,rfl,by decide,by decide,by decide,rfl,fun h=>⟨rfl,rfl⟩,by decide,by decide,by decide,by decide,by decide,by decide,by decide,by decide⟩
 ·exact ⟨_,6,0,51,rfl,rfl,rfl,rfl,by decide,by decide,by decide,rfl,fun h=>⟨rfl,rfl⟩,by decide,by decide,by decide,by decide,by decide,by decide,by decide,by decide⟩
 ·exact ⟨_,4,0,51,rfl,rfl,rfl,rfl,by decide,by decide,by decide,rfl,fun h=>⟨rfl,rfl⟩,by decide,by decide,by decide,by decide,by decide,by decide,by decide,by decide⟩
 ·exact ⟨_,1,0,51,rfl,rfl,rfl,rfl,by decide,by decide,by decide,rfl,fun h=>⟨rfl,rfl⟩,by decide,by decide,by decide,by decide,by decide,by decide,by decide,by decide⟩
 ·exact ⟨_,5,32,51,rfl,rfl,rfl,rfl,by decide,by decide,by decide,rfl,fun h=>⟨rfl,rfl⟩,by decide,by decide,by decide,by decide,by decide,by decide,by decide,by decide⟩
 ·exact ⟨_,2,0,51,rfl,rfl,rfl,rfl,by decide,by decide,by decide,rfl,fun h=>⟨rfl,rfl⟩,by decide,by decide,by decide,by decide,by decide,by decide,by decide,by decide⟩
 ·exact ⟨_,0,0,19,rfl,rfl,rfl,rfl,by decide,by decide,by decide,rfl,fun h=>absurd h (by decide),by decide,by decide,by decide,by decide,by decide,by decide,by decide,by decide⟩
 ·exact ⟨_,3,0,19,rfl,rfl,rfl,rfl,by decide,by decide,by decide,rfl,fun h=>absurd h (by decide),by decide,by decide,by decide,by decide,by decide,by decide,by decide,by decide⟩
 ·exact ⟨_,2,0,3,rfl,rfl,rfl,rfl,by decide,by decide,by decide,rfl,fun h=>absurd h (by decide),by decide,by decide,by decide,by decide,by decide,by decide,by decide,by decide⟩
 ·exact ⟨_,0,0,103,rfl,rfl,rfl,rfl,by decide,by decide,by decide,rfl,fun h=>absurd h (by decide),by decide,by decide,by decide,by decide,by decide,by decide,by decide,by decide⟩
 ·exact ⟨_,2,0,35,rfl,rfl,rfl,rfl,by decide,by decide,by decide,rfl,fun h=>absurd h (by decide),by decide,by decide,by decide,by decide,by decide,by decide,by decide,by decide⟩
 ·exact ⟨_,0,0,99,rfl,rfl,rfl,rfl,by decide,by decide,by decide,rfl,fun h=>absurd h (by decide),by decide,by decide,by decide,by decide,by decide,by decide,by decide,by decide⟩
 ·exact ⟨_,1,0,99,rfl,rfl,rfl,rfl,by decide,by decide,by decide,rfl,fun h=>absurd h (by decide),by decide,by decide,by decide,by decide,by decide,by decide,by decide,by decide⟩
 ·exact ⟨_,0,0,55,rfl,rfl,rfl,rfl,by decide,by decide,by decide,rfl,fun h=>absurd h (by decide),by decide,by decide,by decide,by decide,by decide,by decide,by decide,by decide⟩
 ·exact ⟨_,0,0,111,rfl,rfl,rfl,rfl,by decide,by decide,by decide,rfl,fun h=>absurd h (by decide),by decide,by decide,by decide,by decide,by decide,by decide,by decide,by decide⟩
 ·exact ⟨_,0,0,115,rfl,rfl,rfl,rfl,by decide,by decide,by decide,rfl,fun h=>absurd h (by decide),by decide,by decide,by decide,by decide,by decide,by decide,by decide,by decide⟩
theorem shl_lit {n k : Nat} (h : n * 2 ^ k < 9223372036854775808) : w64 ((n : Int) * 2 ^ k) = ((n * 2 ^ k : Nat) : Int):=by
 have : (n : Int) * 2 ^ k = ((n * 2 ^ k : Nat) : Int):=by simp
 rw [this]
 exact w64_id (by omega) (by omega)
theorem uns_ok {x : Int} (h1 : -2147483648 ≤ x) (h2 : x ≤ 2147483647) : ∃ u : Nat,u < 4294967296 ∧ (u : Int) = x % 4294967296 ∧ f0y x = some (u : Int) ∧ f2o x = some (u : Int):=by
 refine ⟨(x % 4294967296).toNat,by omega,by omega,?_,?_⟩
 ·unfold f0y f1i
  have e1 : (decide (x ≥ -2147483648) && decide (x ≤ 2147483647)) = true:=by rw [decide_eq_true (by omega),decide_eq_true (by omega)]; rfl
  rw [e1]
  simp only [Option.bind_some,Bool.not_true,sel]
  have e2 : kwrap .u32 x = x % 4294967296:=by
   show IntKind.wrap .u32 x = _
   simp [IntKind.wrap,IntKind.signed,IntKind.bits]
  rw [e2,w64_id (by omega) (by omega)]
  congr 1
  omega
 ·unfold f2o f19 f05
  have e1 : (decide (x ≥ -2147483648) && decide (x ≤ 2147483647)) = true:=by rw [decide_eq_true (by omega),decide_eq_true (by omega)]; rfl
  rw [e1]
  simp only [Option.bind_some,Bool.not_true]
  rw [sel_false rfl]
  by_cases h : x < 0
  ·rw [sel_true (by simpa using h),w64_id (by omega) (by omega)]
   congr 1
   omega
  ·rw [sel_false (by simpa using h)]
   congr 1
   omega
theorem mod_ok {x : Int} {p : Nat} (h1 : -(p : Int) ≤ x) (h2 : x < p) (h3 : p ≤ 4294967296) : ∃ m : Nat,m < p ∧ (m : Int) = x % p ∧ f3p x p = some (m : Int):=by
 have hp : 0 < (p : Int):=by omega
 unfold f3p
 by_cases h : x < 0
 ·refine ⟨(x + p).toNat,by omega,?_,?_⟩
  ·rw [Int.toNat_of_nonneg (by omega),← Int.add_emod_right,Int.emod_eq_of_lt (by omega) (by omega)]
  ·rw [sel_true (by simpa using h),w64_id (by omega) (by omega),Int.toNat_of_nonneg (by omega)]
 ·refine ⟨x.toNat,by omega,?_,?_⟩
  ·rw [Int.toNat_of_nonneg (by omega),Int.emod_eq_of_lt (by omega) (by omega)]
  ·rw [sel_false (by simpa using h),Int.toNat_of_nonneg (by omega)]
theorem or_R {f7 rt rs f3 opc rd : Nat} (h1 : opc < 128) (h2 : rd < 32) (h3 : f3 < 8) (h4 : rs < 32) (h5 : rt < 32) :
  ((f7 * 2 ^ 25 ||| (rt * 2 ^ 20 ||| rs * 2 ^ 15 ||| f3 * 2 ^ 12 ||| opc)) ||| rd * 2 ^ 7) = f7 * 2 ^ 25 + rt * 2 ^ 20 + (rs * 2 ^ 15 + f3 * 2 ^ 12 + opc) + rd * 2 ^ 7:=by
 have e : f7 * 2 ^ 25 + rt * 2 ^ 20 + (rs * 2 ^ 15 + f3 * 2 ^ 12 + opc) + rd * 2 ^ 7 = 2 ^ 25 * f7 + (2 ^ 20 * rt + (2 ^ 15 * rs + (2 ^ 12 * f3 + (2 ^ 7 * rd + opc)))):=by omega
 rw [e,add_or (i:=25) (by omega),add_or (i:=20) (by omega),add_or (i:=15) (by omega),add_or (i:=12) (by omega),add_or (i:=7) (by omega)]
 simp only [Nat.mul_comm _ (2 ^ 25),Nat.mul_comm _ (2 ^ 20),Nat.mul_comm _ (2 ^ 15),Nat.mul_comm _ (2 ^ 12),Nat.mul_comm _ (2 ^ 7)]
 ac_rfl
end Go.Proofs.YtmpplggjpmmhlaaGreatDoor.N
namespace Go.Proofs.YtmpplggjpmmhlaaGreatDoor.N
open Go.Proofs.YtmpplggjpmmhlaaGreatDoor.X
def IOk (x : Instr) : Prop:=(0 ≤ x.Rd ∧ x.Rd ≤ 31) ∧ (0 ≤ x.Rs ∧ x.Rs ≤ 31) ∧ (0 ≤ x.Rt ∧ x.Rt ≤ 31) ∧
  ((1 ≤ x.Op ∧ x.Op ≤ 11 ∧ x.Imm = 0) ∨ (12 ≤ x.Op ∧ x.Op ≤ 15 ∧ x.Rt = 0 ∧ -2048 ≤ x.Imm ∧ x.Imm ≤ 2047) ∨ (x.Op = 16 ∧ x.Rd = 0 ∧ -2048 ≤ x.Imm ∧ x.Imm ≤ 2047) ∨
   ((x.Op = 17 ∨ x.Op = 18) ∧ x.Rd = 0 ∧ -4096 ≤ x.Imm ∧ x.Imm ≤ 4094 ∧ x.Imm % 2 = 0) ∨ (x.Op = 19 ∧ x.Rs = 0 ∧ x.Rt = 0 ∧ 0 ≤ x.Imm ∧ x.Imm ≤ 1048575) ∨
   (x.Op = 20 ∧ x.Rs = 0 ∧ x.Rt = 0 ∧ -1048576 ≤ x.Imm ∧ x.Imm ≤ 1048574 ∧ x.Imm % 2 = 0) ∨ (x.Op = 21 ∧ x.Rd = 0 ∧ x.Rs = 0 ∧ x.Rt = 0 ∧ x.Imm = 0))
instance (x : Instr) : Decidable (IOk x):=by unfold IOk; infer_instance
theorem sel_tt {α : Type} {b : Bool} {x y r : α} (h : b = true) (k : x = r) : sel b x y = r:=by subst h; exact k
def sx (v n : Nat) : Int:=bif Nat.ble (2 ^ (n - 1)) v then (v : Int) - ((2 ^ n : Nat) : Int) else v
theorem sx_bd {v n : Nat} (hn : 1 ≤ n) (hv : v < 2 ^ n) : -((2 ^ (n - 1) : Nat) : Int) ≤ sx v n ∧ sx v n < ((2 ^ (n - 1) : Nat) : Int):=by
 unfold sx
 have h2 : 2 ^ n = 2 * 2 ^ (n - 1):=by rw [← Nat.pow_succ']; congr 1; omega
 rw [h2] at hv ⊢
 generalize 2 ^ (n - 1) = p at hv ⊢
 cases hb : Nat.ble p v with
 | true =>
  have:=Nat.le_of_ble_eq_true hb
  simp only [cond_true]
  omega
 | false =>
  have : ¬ p ≤ v:=fun h=>by rw [Nat.ble_eq_true_of_le h] at hb; cases hb
  simp only [cond_false]
  omega
theorem sx_ev (m n : Nat) (hn : 1 ≤ n) : ∃ q : Int,sx (2 * m) n = 2 * q:=by
 unfold sx
 rw [show 2 ^ n = 2 * 2 ^ (n - 1) by rw [← Nat.pow_succ']; congr 1; omega]
 generalize 2 ^ (n - 1) = p
 cases Nat.ble p (2 * m)
 ·exact ⟨m,by simp only [cond_false]; omega⟩
 ·exact ⟨m - p,by simp only [cond_true]; omega⟩
theorem ble_int (p v : Nat) : decide ((v : Int) ≥ (p : Int)) = Nat.ble p v:=by
 rw [Bool.eq_iff_iff]
 simp only [decide_eq_true_eq,Nat.ble_eq]
 omega
theorem ssx_ok (v n : Nat) (h1 : 1 ≤ n) (h2 : n ≤ 31) (hv : v < 2 ^ n) : f11 (v : Int) (n : Int) = some (sx v n):=by
 have hp : 2 ^ n ≤ 2 ^ 31:=Nat.pow_le_pow_right (by omega) h2
 have h3 : (2 : Nat) ^ 31 = 2147483648:=by decide
 rw [h3] at hp
 have q1 : f0z (w64 ((n : Int) - 1)) = some ((2 ^ (n - 1) : Nat) : Int):=by
  rw [w64_id (by omega) (by omega),show (n : Int) - 1 = ((n - 1 : Nat) : Int) by omega]
  exact pow_ok (n - 1) (by omega)
 have q2:=pow_ok n (by omega)
 have hb : Nat.ble (2 ^ (n - 1)) v = Nat.ble (2 ^ (n - 1)) v:=rfl
 unfold f11 sx f05
 generalize 2 ^ n = N at q2 hv hp ⊢
 generalize 2 ^ (n - 1) = M at q1 ⊢
 have e1 : (decide ((n : Int) ≥ 1) && decide ((n : Int) ≤ 32)) = true:=by rw [decide_eq_true (by omega),decide_eq_true (by omega)]; rfl
 have e2 : (decide ((v : Int) ≥ 0) && decide ((v : Int) ≤ (w64 ((N : Int) - 1)))) = true:=by rw [w64_id (by omega) (by omega),decide_eq_true (by omega),decide_eq_true (by omega)]; rfl
 refine bind_to (congrArg some e1) (bind_to (y:=false) ?_ ?_)
 ·refine sel_to rfl (bind_to q2 ?_)
  rw [e2]
  rfl
 ·refine sel_to rfl (bind_to q1 ?_)
  rw [ble_int]
  cases Nat.ble M v
  ·rfl
  ·refine sel_tt rfl (bind_to q2 ?_)
   rw [w64_id (by omega) (by omega)]
   rfl
theorem dm {r a b m p q : Nat} (h : r = (a * q + m) * p + b) (hb : b < p) (hm : m < q) : r / p % q = m:=by
 subst h
 rw [Nat.add_comm,Nat.add_mul_div_right _ _ (by omega),Nat.div_eq_of_lt hb,Nat.zero_add,Nat.add_comm,Nat.add_mul_mod_self_right,Nat.mod_eq_of_lt hm]
theorem split21 {i : Nat} (h : i < 21) : i = 0 ∨ i = 1 ∨ i = 2 ∨ i = 3 ∨ i = 4 ∨ i = 5 ∨ i = 6 ∨ i = 7 ∨ i = 8 ∨ i = 9 ∨ i = 10 ∨ i = 11 ∨ i = 12 ∨ i = 13 ∨ i = 14 ∨ i = 15 ∨ i = 16 ∨ i = 17 ∨ i = 18 ∨ i = 19 ∨ i = 20:=by omega
def t3 (i : Nat) : Nat:=[0,0,0,4,6,7,6,4,1,5,2,0,3,2,0,2,0,1,0,0,0].getD i 0
def t7 (i : Nat) : Nat:=[0,32,1,1,1,0,0,0,0,32,0].getD i 0
def tO (i : Nat) : Nat:=[51,51,51,51,51,51,51,51,51,51,51,19,19,3,103,35,99,99,55,111,115].getD i 0
theorem t3_of {k f : Nat} (hk : k < 21) (h : nth [0,0,0,4,6,7,6,4,1,5,2,0,3,2,0,2,0,1,0,0,0] (k : Int) = some (f : Int)) : f = t3 k:=by
 rcases split21 hk with rfl | rfl | rfl | rfl | rfl | rfl | rfl | rfl | rfl | rfl | rfl | rfl | rfl | rfl | rfl | rfl | rfl | rfl | rfl | rfl | rfl
 all_goals (have k':=Option.some.inj h; simp only [t3]; exact (Int.ofNat.inj k').symm)
theorem t7_of {k f : Nat} (hk : k < 11) (h : nth [0,32,1,1,1,0,0,0,0,32,0] (k : Int) = some (f : Int)) : f = t7 k:=by
 rcases (by omega : k = 0 ∨ k = 1 ∨ k = 2 ∨ k = 3 ∨ k = 4 ∨ k = 5 ∨ k = 6 ∨ k = 7 ∨ k = 8 ∨ k = 9 ∨ k = 10) with rfl | rfl | rfl | rfl | rfl | rfl | rfl | rfl | rfl | rfl | rfl
 all_goals (have k':=Option.some.inj h; simp only [t7]; exact (Int.ofNat.inj k').symm)
theorem tO_R {k : Nat} (hk : k < 11) : tO k = 51:=by
 rcases (by omega : k = 0 ∨ k = 1 ∨ k = 2 ∨ k = 3 ∨ k = 4 ∨ k = 5 ∨ k = 6 ∨ k = 7 ∨ k = 8 ∨ k = 9 ∨ k = 10) with rfl | rfl | rfl | rfl | rfl | rfl | rfl | rfl | rfl | rfl | rfl <;> rfl
theorem sx12 {imm : Int} {m : Nat} (hb : -2048 ≤ imm ∧ imm ≤ 2047) (hm : (m : Int) = imm % 4096) : sx m 12 = imm:=by
 unfold sx
 rw [show ((2 ^ 12 : Nat) : Int) = 4096 from rfl,show (2 ^ (12 - 1) : Nat) = 2048 from rfl]
 cases h : Nat.ble 2048 m
 ·have h' : ¬ 2048 ≤ m:=fun hh=>by rw [Nat.ble_eq_true_of_le hh] at h; cases h
  simp only [cond_false]; omega
 ·have h':=Nat.le_of_ble_eq_true h
  simp only [cond_true]; omega
theorem sx13 {imm : Int} {m : Nat} (hb : -4096 ≤ imm ∧ imm ≤ 4095) (hm : (m : Int) = imm % 8192) : sx m 13 = imm:=by
 unfold sx
 rw [show ((2 ^ 13 : Nat) : Int) = 8192 from rfl,show (2 ^ (13 - 1) : Nat) = 4096 from rfl]
 cases h : Nat.ble 4096 m
 ·have h' : ¬ 4096 ≤ m:=fun hh=>by rw [Nat.ble_eq_true_of_le hh] at h; cases h
  simp only [cond_false]; omega
 ·have h':=Nat.le_of_ble_eq_true h
  simp only [cond_true]; omega
theorem sx21 {imm : Int} {m : Nat} (hb : -1048576 ≤ imm ∧ imm ≤ 1048575) (hm : (m : Int) = imm % 2097152) : sx m 21 = imm:=by
 unfold sx
 rw [show ((2 ^ 21 : Nat) : Int) = 2097152 from congrArg (fun n : Nat=>(n : Int)) (show (2 ^ 21 : Nat) = 2097152 from rfl),show (2 ^ (21 - 1) : Nat) = 1048576 from rfl]
 cases h : Nat.ble 1048576 m
 ·have h' : ¬ 1048576 ≤ m:=fun hh=>by rw [Nat.ble_eq_true_of_le hh] at h; cases h
  simp only [cond_false]; omega
 ·have h':=Nat.le_of_ble_eq_true h
  simp only [cond_true]; omega
def Fl (i : Instr) (r : Nat) : Prop:=∃ k : Nat,k < 21 ∧ i.Op = (k : Int) + 1 ∧ r % 128 = tO k ∧ (k < 18 → r / 4096 % 8 = t3 k) ∧ (k < 11 → r / 33554432 % 128 = t7 k) ∧ f0b i.Op (r : Int) = some i
theorem fl_R {k d s t f3 f7 : Nat} (hk : k < 11) (hd : d < 32) (hs : s < 32) (ht : t < 32) (h3 : f3 = t3 k) (h3' : f3 < 8) (h7 : f7 = t7 k) (h7' : f7 < 128) : Fl ⟨(k : Int) + 1,d,s,t,0⟩ (f7 * 2 ^ 25 + t * 2 ^ 20 + (s * 2 ^ 15 + f3 * 2 ^ 12 + 51) + d * 2 ^ 7):=by
 generalize hr : f7 * 2 ^ 25 + t * 2 ^ 20 + (s * 2 ^ 15 + f3 * 2 ^ 12 + 51) + d * 2 ^ 7 = r
 simp only [Nat.reducePow] at hr
 have hu : r < 4294967296:=by omega
 have b1:=sbits_ok r 7 5 hu (by omega) (by omega) (by omega)
 have b2:=sbits_ok r 15 5 hu (by omega) (by omega) (by omega)
 have b3:=sbits_ok r 20 5 hu (by omega) (by omega) (by omega)
 rw [show r / 2 ^ 7 % 2 ^ 5 = d by simp only [Nat.reducePow]; omega] at b1
 rw [show r / 2 ^ 15 % 2 ^ 5 = s by simp only [Nat.reducePow]; omega] at b2
 rw [show r / 2 ^ 20 % 2 ^ 5 = t by simp only [Nat.reducePow]; omega] at b3
 refine ⟨k,by omega,rfl,by rw [tO_R hk]; omega,fun _=>by omega,fun _=>by omega,?_⟩
 show f0b ((k : Int) + 1) (r : Int) = _
 unfold f0b
 exact bind_to b1 (bind_to b2 (bind_to b3 (sel_tt (decide_eq_true (by omega)) rfl)))
theorem fl_I {k d s f3 o m : Nat} {imm : Int} (hk : 11 ≤ k) (hk2 : k < 15) (hd : d < 32) (hs : s < 32) (h3 : f3 = t3 k) (h3' : f3 < 8) (ho : o = tO k) (ho' : o < 128) (hb : -2048 ≤ imm ∧ imm ≤ 2047) (hm : (m : Int) = imm % 4096) : Fl ⟨(k : Int) + 1,d,s,0,imm⟩ (m * 2 ^ 20 + (s * 2 ^ 15 + f3 * 2 ^ 12 + o) + d * 2 ^ 7):=by
 have x1:=ssx_ok m 12 (by omega) (by omega) (by omega)
 rw [sx12 hb hm] at x1
 generalize hr : m * 2 ^ 20 + (s * 2 ^ 15 + f3 * 2 ^ 12 + o) + d * 2 ^ 7 = r
 simp only [Nat.reducePow] at hr
 have hu : r < 4294967296:=by omega
 have b1:=sbits_ok r 7 5 hu (by omega) (by omega) (by omega)
 have b2:=sbits_ok r 15 5 hu (by omega) (by omega) (by omega)
 have b3:=sbits_ok r 20 5 hu (by omega) (by omega) (by omega)
 have b4:=sbits_ok r 20 12 hu (by omega) (by omega) (by omega)
 rw [show r / 2 ^ 7 % 2 ^ 5 = d by simp only [Nat.reducePow]; omega] at b1
 rw [show r / 2 ^ 15 % 2 ^ 5 = s by simp only [Nat.reducePow]; omega] at b2
 rw [show r / 2 ^ 20 % 2 ^ 12 = m by simp only [Nat.reducePow]; omega] at b4
 refine ⟨k,by omega,rfl,by omega,fun _=>by omega,fun _=>by omega,?_⟩
 show f0b ((k : Int) + 1) (r : Int) = _
 unfold f0b
 exact bind_to b1 (bind_to b2 (bind_to b3 (sel_to (decide_eq_false (by omega)) (sel_tt (decide_eq_true (by omega)) (bind_to b4 (bind_to x1 rfl))))))
theorem fl_S {s t f3 h7 l5 m : Nat} {imm : Int} (hs : s < 32) (ht : t < 32) (h3 : f3 = t3 15) (h3' : f3 < 8) (h1 : h7 < 128) (h2 : l5 < 32) (hrel : h7 * 32 + l5 = m) (hb : -2048 ≤ imm ∧ imm ≤ 2047) (hm : (m : Int) = imm % 4096) : Fl ⟨16,0,s,t,imm⟩ (h7 * 2 ^ 25 + t * 2 ^ 20 + (s * 2 ^ 15 + f3 * 2 ^ 12 + 35) + l5 * 2 ^ 7):=by
 have x1:=ssx_ok m 12 (by omega) (by omega) (by omega)
 rw [sx12 hb hm,← hrel] at x1
 have e1 : w64 (w64 ((h7 : Int) * 32) + (l5 : Int)) = ((h7 * 32 + l5 : Nat) : Int):=by rw [w64_id (x:=(h7 : Int) * 32) (by omega) (by omega),w64_id (by omega) (by omega)]; omega
 rw [← e1] at x1
 generalize hr : h7 * 2 ^ 25 + t * 2 ^ 20 + (s * 2 ^ 15 + f3 * 2 ^ 12 + 35) + l5 * 2 ^ 7 = r
 simp only [Nat.reducePow] at hr
 have hu : r < 4294967296:=by omega
 have b1:=sbits_ok r 7 5 hu (by omega) (by omega) (by omega)
 have b2:=sbits_ok r 15 5 hu (by omega) (by omega) (by omega)
 have b3:=sbits_ok r 20 5 hu (by omega) (by omega) (by omega)
 have b4:=sbits_ok r 25 7 hu (by omega) (by omega) (by omega)
 rw [show r / 2 ^ 7 % 2 ^ 5 = l5 from dm (a:=h7 * 8192 + t * 256 + s * 8 + f3) (b:=35) (by simp only [Nat.reducePow]; omega) (by simp only [Nat.reducePow]; omega) (by simp only [Nat.reducePow]; omega)] at b1
 rw [show r / 2 ^ 15 % 2 ^ 5 = s from dm (a:=h7 * 32 + t) (b:=f3 * 4096 + l5 * 128 + 35) (by simp only [Nat.reducePow]; omega) (by simp only [Nat.reducePow]; omega) (by simp only [Nat.reducePow]; omega)] at b2
 rw [show r / 2 ^ 20 % 2 ^ 5 = t from dm (a:=h7) (b:=s * 32768 + f3 * 4096 + l5 * 128 + 35) (by simp only [Nat.reducePow]; omega) (by simp only [Nat.reducePow]; omega) (by simp only [Nat.reducePow]; omega)] at b3
 rw [show r / 2 ^ 25 % 2 ^ 7 = h7 from dm (a:=0) (b:=t * 1048576 + s * 32768 + f3 * 4096 + l5 * 128 + 35) (by simp only [Nat.reducePow]; omega) (by simp only [Nat.reducePow]; omega) (by simp only [Nat.reducePow]; omega)] at b4
 refine ⟨15,by omega,rfl,by rw [show tO 15 = 35 from rfl]; omega,fun _=>(dm (r:=r) (p:=4096) (q:=8) (m:=f3) (a:=h7 * 1024 + t * 32 + s) (b:=l5 * 128 + 35) (by omega) (by omega) h3').trans h3,fun _=>by omega,?_⟩
 unfold f0b
 exact bind_to b1 (bind_to b2 (bind_to b3 (sel_to rfl (sel_to rfl (sel_tt rfl (bind_to b4 (bind_to x1 rfl)))))))
theorem fl_B {k s t f3 v1 v2 v3 v4 m : Nat} {imm : Int} (hk : k = 16 ∨ k = 17) (hs : s < 32) (ht : t < 32) (h3 : f3 = t3 k) (h3' : f3 < 8) (l1 : v1 < 2) (l2 : v2 < 64) (l3 : v3 < 16) (l4 : v4 < 2) (hrel : v1 * 4096 + v4 * 2048 + v2 * 32 + v3 * 2 = m) (hb : -4096 ≤ imm ∧ imm ≤ 4095) (hm : (m : Int) = imm % 8192) :
  Fl ⟨(k : Int) + 1,0,s,t,imm⟩ (v1 * 2 ^ 31 + v2 * 2 ^ 25 + t * 2 ^ 20 + (s * 2 ^ 15 + f3 * 2 ^ 12 + 99) + v3 * 2 ^ 8 + v4 * 2 ^ 7):=by
 have x1:=ssx_ok m 13 (by omega) (by omega) (by omega)
 rw [sx13 hb hm,← hrel] at x1
 have e1 : w64 (w64 (w64 (w64 ((v1 : Int) * 4096) + w64 ((v4 : Int) * 2048)) + w64 ((v2 : Int) * 32)) + w64 ((v3 : Int) * 2)) = ((v1 * 4096 + v4 * 2048 + v2 * 32 + v3 * 2 : Nat) : Int):=by
  rw [w64_id (x:=(v1 : Int) * 4096) (by omega) (by omega),w64_id (x:=(v4 : Int) * 2048) (by omega) (by omega),w64_id (x:=(v2 : Int) * 32) (by omega) (by omega),w64_id (x:=(v3 : Int) * 2) (by omega) (by omega),w64_id (x:=(v1 : Int) * 4096 + (v4 : Int) * 2048) (by omega) (by omega),w64_id (x:=(v1 : Int) * 4096 + (v4 : Int) * 2048 + (v2 : Int) * 32) (by omega) (by omega),w64_id (by omega) (by omega)]
  omega
 rw [← e1] at x1
 generalize hr : v1 * 2 ^ 31 + v2 * 2 ^ 25 + t * 2 ^ 20 + (s * 2 ^ 15 + f3 * 2 ^ 12 + 99) + v3 * 2 ^ 8 + v4 * 2 ^ 7 = r
 simp only [Nat.reducePow] at hr
 have hu : r < 4294967296:=by omega
 have b1:=sbits_ok r 7 5 hu (by omega) (by omega) (by omega)
 have b2:=sbits_ok r 15 5 hu (by omega) (by omega) (by omega)
 have b3:=sbits_ok r 20 5 hu (by omega) (by omega) (by omega)
 have b4:=sbits_ok r 31 1 hu (by omega) (by omega) (by omega)
 have b5:=sbits_ok r 7 1 hu (by omega) (by omega) (by omega)
 have b6:=sbits_ok r 25 6 hu (by omega) (by omega) (by omega)
 have b7:=sbits_ok r 8 4 hu (by omega) (by omega) (by omega)
 rw [show r / 2 ^ 15 % 2 ^ 5 = s from dm (a:=v1 * 2048 + v2 * 32 + t) (b:=f3 * 4096 + v3 * 256 + v4 * 128 + 99) (by simp only [Nat.reducePow]; omega) (by simp only [Nat.reducePow]; omega) (by simp only [Nat.reducePow]; omega)] at b2
 rw [show r / 2 ^ 20 % 2 ^ 5 = t from dm (a:=v1 * 64 + v2) (b:=s * 32768 + f3 * 4096 + v3 * 256 + v4 * 128 + 99) (by simp only [Nat.reducePow]; omega) (by simp only [Nat.reducePow]; omega) (by simp only [Nat.reducePow]; omega)] at b3
 rw [show r / 2 ^ 31 % 2 ^ 1 = v1 from dm (a:=0) (b:=v2 * 33554432 + t * 1048576 + s * 32768 + f3 * 4096 + v3 * 256 + v4 * 128 + 99) (by simp only [Nat.reducePow]; omega) (by simp only [Nat.reducePow]; omega) (by simp only [Nat.reducePow]; omega)] at b4
 rw [show r / 2 ^ 7 % 2 ^ 1 = v4 from dm (a:=v1 * 8388608 + v2 * 131072 + t * 4096 + s * 128 + f3 * 16 + v3) (b:=99) (by simp only [Nat.reducePow]; omega) (by simp only [Nat.reducePow]; omega) (by simp only [Nat.reducePow]; omega)] at b5
 rw [show r / 2 ^ 25 % 2 ^ 6 = v2 from dm (a:=v1) (b:=t * 1048576 + s * 32768 + f3 * 4096 + v3 * 256 + v4 * 128 + 99) (by simp only [Nat.reducePow]; omega) (by simp only [Nat.reducePow]; omega) (by simp only [Nat.reducePow]; omega)] at b6
 rw [show r / 2 ^ 8 % 2 ^ 4 = v3 from dm (a:=v1 * 524288 + v2 * 8192 + t * 256 + s * 8 + f3) (b:=v4 * 128 + 99) (by simp only [Nat.reducePow]; omega) (by simp only [Nat.reducePow]; omega) (by simp only [Nat.reducePow]; omega)] at b7
 refine ⟨k,by omega,rfl,by rcases hk with rfl | rfl <;> (show r % 128 = 99; omega),fun _=>(dm (r:=r) (p:=4096) (q:=8) (m:=f3) (a:=v1 * 65536 + v2 * 1024 + t * 32 + s) (b:=v3 * 256 + v4 * 128 + 99) (by omega) (by omega) h3').trans h3,fun _=>by omega,?_⟩
 show f0b ((k : Int) + 1) (r : Int) = _
 unfold f0b
 refine bind_to b1 (bind_to b2 (bind_to b3 (sel_to (decide_eq_false (by omega)) (sel_to (decide_eq_false (by omega)) (sel_to ?_ (sel_tt ?_ (bind_to b4 (bind_to b5 (bind_to b6 (bind_to b7 (bind_to x1 rfl)))))))))))
 ·rcases hk with rfl | rfl <;> rfl
 ·rcases hk with rfl | rfl <;> rfl
theorem fl_U {d m : Nat} {imm : Int} (hd : d < 32) (hl : m < 1048576) (hm : imm = (m : Int)) : Fl ⟨19,d,0,0,imm⟩ (m * 2 ^ 12 + d * 2 ^ 7 + 55):=by
 subst hm
 generalize hr : m * 2 ^ 12 + d * 2 ^ 7 + 55 = r
 simp only [Nat.reducePow] at hr
 have hu : r < 4294967296:=by omega
 have b1:=sbits_ok r 7 5 hu (by omega) (by omega) (by omega)
 have b2:=sbits_ok r 15 5 hu (by omega) (by omega) (by omega)
 have b3:=sbits_ok r 20 5 hu (by omega) (by omega) (by omega)
 have b4:=sbits_ok r 12 20 hu (by omega) (by omega) (by omega)
 rw [show r / 2 ^ 7 % 2 ^ 5 = d by simp only [Nat.reducePow]; omega] at b1
 rw [show r / 2 ^ 12 % 2 ^ 20 = m by simp only [Nat.reducePow]; omega] at b4
 refine ⟨18,by omega,rfl,by rw [show tO 18 = 55 from rfl]; omega,fun h=>absurd h (by omega),fun h=>absurd h (by omega),?_⟩
 unfold f0b
 exact bind_to b1 (bind_to b2 (bind_to b3 (sel_to rfl (sel_to rfl (sel_to rfl (sel_to rfl (sel_tt rfl (bind_to b4 rfl))))))))
theorem fl_J {d v1 v2 v3 v4 m : Nat} {imm : Int} (hd : d < 32) (l1 : v1 < 2) (l2 : v2 < 1024) (l3 : v3 < 2) (l4 : v4 < 256) (hrel : v1 * 1048576 + v4 * 4096 + v3 * 2048 + v2 * 2 = m) (hb : -1048576 ≤ imm ∧ imm ≤ 1048575) (hm : (m : Int) = imm % 2097152) :
    Fl ⟨20, d, 0, 0, imm⟩ (v1 * 2 ^ 31 + v2 * 2 ^ 21 + v3 * 2 ^ 20 + v4 * 2 ^ 12 + d * 2 ^ 7 + 111) := by
  have x1 := ssx_ok m 21 (by omega) (by omega) (by have : (2 : Nat) ^ 21 = 2097152 := rfl
                                                   omega)
  rw [sx21 hb hm, ← hrel] at x1
  have e1 : w64 (w64 (w64 (w64 ((v1 : Int) * 1048576) + w64 ((v4 : Int) * 4096)) + w64 ((v3 : Int) * 2048)) + w64 ((v2 : Int) * 2)) = ((v1 * 1048576 + v4 * 4096 + v3 * 2048 + v2 * 2 : Nat) : Int) := by
    rw [w64_id (x := (v1 : Int) * 1048576) (by omega) (by omega), w64_id (x := (v4 : Int) * 4096) (by omega) (by omega), w64_id (x := (v3 : Int) * 2048) (by omega) (by omega), w64_id (x := (v2 : Int) * 2) (by omega) (by omega), w64_id (x := (v1 : Int) * 1048576 + (v4 : Int) * 4096) (by omega) (by omega), w64_id (x := (v1 : Int) * 1048576 + (v4 : Int) * 4096 + (v3 : Int) * 2048) (by omega) (by omega), w64_id (by omega) (by omega)]
    omega
  rw [← e1] at x1
  generalize hr : v1 * 2 ^ 31 + v2 * 2 ^ 21 + v3 * 2 ^ 20 + v4 * 2 ^ 12 + d * 2 ^ 7 + 111 = r
  simp only [Nat.reducePow] at hr
  have hu : r < 4294967296 := by omega
  have b1 := sbits_ok r 7 5 hu (by omega) (by omega) (by omega)
  have b2 := sbits_ok r 15 5 hu (by omega) (by omega) (by omega)
  have b3 := sbits_ok r 20 5 hu (by omega) (by omega) (by omega)
  have b4 := sbits_ok r 31 1 hu (by omega) (by omega) (by omega)
  have b5 := sbits_ok r 12 8 hu (by omega) (by omega) (by omega)
  have b6 := sbits_ok r 20 1 hu (by omega) (by omega) (by omega)
  have b7 := sbits_ok r 21 10 hu (by omega) (by omega) (by omega)
  rw [show r / 2 ^ 7 % 2 ^ 5 = d from dm (a := v1 * 524288 + v2 * 512 + v3 * 256 + v4) (b := 111) (by simp only [Nat.reducePow]; omega) (by simp only [Nat.reducePow]; omega) (by simp only [Nat.reducePow]; omega)] at b1
  rw [show r / 2 ^ 31 % 2 ^ 1 = v1 from dm (a := 0) (b := v2 * 2097152 + v3 * 1048576 + v4 * 4096 + d * 128 + 111) (by simp only [Nat.reducePow]; omega) (by simp only [Nat.reducePow]; omega) (by simp only [Nat.reducePow]; omega)] at b4
  rw [show r / 2 ^ 12 % 2 ^ 8 = v4 from dm (a := v1 * 2048 + v2 * 2 + v3) (b := d * 128 + 111) (by simp only [Nat.reducePow]; omega) (by simp only [Nat.reducePow]; omega) (by simp only [Nat.reducePow]; omega)] at b5
  rw [show r / 2 ^ 20 % 2 ^ 1 = v3 from dm (a := v1 * 1024 + v2) (b := v4 * 4096 + d * 128 + 111) (by simp only [Nat.reducePow]; omega) (by simp only [Nat.reducePow]; omega) (by simp only [Nat.reducePow]; omega)] at b6
  rw [show r / 2 ^ 21 % 2 ^ 10 = v2 from dm (a := v1) (b := v3 * 1048576 + v4 * 4096 + d * 128 + 111) (by simp only [Nat.reducePow]; omega) (by simp only [Nat.reducePow]; omega) (by simp only [Nat.reducePow]; omega)] at b7
  refine ⟨19, by omega, rfl, by rw [show tO 19 = 111 from rfl]; omega, fun h => absurd h (by omega), fun h => absurd h (by omega), ?_⟩
  unfold f0b
  exact bind_to b1 (bind_to b2 (bind_to b3 (sel_to rfl (sel_to rfl (sel_to rfl (sel_to rfl (sel_to rfl (sel_tt rfl (bind_to b4 (bind_to b5 (bind_to b6 (bind_to b7 (bind_to x1 rfl)))))))))))))
theorem fl_E : Fl ⟨21,0,0,0,0⟩ 115:=by
 have b1:=sbits_ok 115 7 5 (by omega) (by omega) (by omega) (by omega)
 have b2:=sbits_ok 115 15 5 (by omega) (by omega) (by omega) (by omega)
 have b3:=sbits_ok 115 20 5 (by omega) (by omega) (by omega) (by omega)
 refine ⟨20,by omega,rfl,rfl,fun h=>absurd h (by omega),fun h=>absurd h (by omega),?_⟩
 unfold f0b
 exact bind_to b1 (bind_to b2 (bind_to b3 (sel_to rfl (sel_to rfl (sel_to rfl (sel_to rfl (sel_to rfl (sel_to rfl rfl))))))))
end Go.Proofs.YtmpplggjpmmhlaaGreatDoor.N
namespace Go.Proofs.YtmpplggjpmmhlaaGreatDoor.N
open Go.Proofs.YtmpplggjpmmhlaaGreatDoor.X
theorem w64_add {a b : Nat} (h : a + b < 9223372036854775808) : w64 ((a : Int) + (b : Int)) = ((a + b : Nat) : Int):=by rw [w64_id (by omega) (by omega)]; omega
theorem mid_ok {op rd rs rt imm : Int} {k srs f3 opc : Nat} (hk : op = (k : Int) + 1) (hk2 : k < 21) (hrs : rs = srs) (hs : srs < 32) (hf : nth [0,0,0,4,6,7,6,4,1,5,2,0,3,2,0,2,0,1,0,0,0] (k : Int) = some (f3 : Int)) (h3 : f3 < 8) (ho : opc < 128) :
  f3r (Instr.mk op rd rs rt imm) (opc : Int) = some ((srs * 2 ^ 15 + f3 * 2 ^ 12 + opc : Nat) : Int):=by
 unfold f3r f4f
 simp only
 rw [hk,hrs,show (k : Int) + 1 - 1 = k by omega,w64_id (x:=(k : Int)) (by omega) (by omega),hf,show (15 : Int) = ((15 : Nat) : Int) from rfl,put_ok srs 15 (by omega) (by omega)]
 simp only [Option.bind_some]
 rw [show (12 : Int) = ((12 : Nat) : Int) from rfl,put_ok f3 12 (by omega) (by omega)]
 simp only [Option.bind_some]
 rw [w64_add (by omega),w64_add (by omega)]
def Enc (i : Instr) : Prop:=∃ r : Nat,r < 4294967296 ∧ (∀ k : Nat,i.Op = (k : Int) + 1 → 11 ≤ k → k ≤ 17 → nth [0,0,0,4,6,7,6,4,1,5,2,0,3,2,0,2,0,1,0,0,0] (k : Int) = some ((r / 4096 % 8 : Nat) : Int)) ∧ f0n i = some (r : Int) ∧ (f0g i = some true → f0t i = some ((r : Int),true)) ∧ (IOk i → Fl i r)
theorem f7f {i : Instr} {r : Option (Int × Bool)} (hv : f0g i = some true) : f0t i = (nth instrTable (w64 (i.Op - 1))).bind fun x1=>(f0y i.Imm).bind fun y2=>(f0m i.Op).bind fun y3 =>
  sel (y3 == 82) (some (bitsI .or .i64 (bitsI .or .i64 (w64 (x1.funct7 * 2 ^ (min 25 (IntKind.bits .i64)))) (bitsI .or .i64 (bitsI .or .i64 (bitsI .or .i64 (w64 (i.Rt * 2 ^ (min 20 (IntKind.bits .i64)))) (w64 (i.Rs * 2 ^ (min 15 (IntKind.bits .i64))))) (w64 (x1.funct3 * 2 ^ (min 12 (IntKind.bits .i64))))) x1.opcode)) (w64 (i.Rd * 2 ^ (min 7 (IntKind.bits .i64)))),true)) <|
  sel (y3 == 73) ((f02 0 12 20 y2).bind fun y4 =>
  some (bitsI .or .i64 (bitsI .or .i64 y4 (bitsI .or .i64 (bitsI .or .i64 (bitsI .or .i64 (w64 (i.Rt * 2 ^ (min 20 (IntKind.bits .i64)))) (w64 (i.Rs * 2 ^ (min 15 (IntKind.bits .i64))))) (w64 (x1.funct3 * 2 ^ (min 12 (IntKind.bits .i64))))) x1.opcode)) (w64 (i.Rd * 2 ^ (min 7 (IntKind.bits .i64)))),true)) <|
  sel (y3 == 83) ((f02 5 7 25 y2).bind fun y5=>(f02 0 5 7 y2).bind fun y6 =>
  some (bitsI .or .i64 (bitsI .or .i64 y5 (bitsI .or .i64 (bitsI .or .i64 (bitsI .or .i64 (w64 (i.Rt * 2 ^ (min 20 (IntKind.bits .i64)))) (w64 (i.Rs * 2 ^ (min 15 (IntKind.bits .i64))))) (w64 (x1.funct3 * 2 ^ (min 12 (IntKind.bits .i64))))) x1.opcode)) y6,true)) <|
  sel (y3 == 66) ((f02 12 1 31 y2).bind fun y7=>(f02 5 6 25 y2).bind fun y8=>(f02 1 4 8 y2).bind fun y9=>(f02 11 1 7 y2).bind fun y10 =>
  some (bitsI .or .i64 (bitsI .or .i64 (bitsI .or .i64 (bitsI .or .i64 y7 y8) (bitsI .or .i64 (bitsI .or .i64 (bitsI .or .i64 (w64 (i.Rt * 2 ^ (min 20 (IntKind.bits .i64)))) (w64 (i.Rs * 2 ^ (min 15 (IntKind.bits .i64))))) (w64 (x1.funct3 * 2 ^ (min 12 (IntKind.bits .i64))))) x1.opcode)) y9) y10,true)) <|
  sel (y3 == 85) ((f02 0 20 12 y2).bind fun y11=>some (bitsI .or .i64 (bitsI .or .i64 y11 (w64 (i.Rd * 2 ^ (min 7 (IntKind.bits .i64))))) x1.opcode,true)) <|
  sel (y3 == 74) ((f02 20 1 31 y2).bind fun y12=>(f02 1 10 21 y2).bind fun y13=>(f02 11 1 20 y2).bind fun y14=>(f02 12 8 12 y2).bind fun y15 =>
  some (bitsI .or .i64 (bitsI .or .i64 (bitsI .or .i64 (bitsI .or .i64 (bitsI .or .i64 y12 y13) y14) y15) (w64 (i.Rd * 2 ^ (min 7 (IntKind.bits .i64))))) x1.opcode,true)) <|
  some (x1.opcode,true):=by
 unfold f0t
 rw [hv]
 rfl
theorem sh25 {n : Nat} (h : n < 128) : w64 ((n : Int) * 2 ^ (min 25 (IntKind.bits .i64))) = ((n * 2 ^ 25 : Nat) : Int):=shl_lit (k:=25) (by omega)
theorem sh20 {n : Nat} (h : n < 32) : w64 ((n : Int) * 2 ^ (min 20 (IntKind.bits .i64))) = ((n * 2 ^ 20 : Nat) : Int):=shl_lit (k:=20) (by omega)
theorem sh15 {n : Nat} (h : n < 32) : w64 ((n : Int) * 2 ^ (min 15 (IntKind.bits .i64))) = ((n * 2 ^ 15 : Nat) : Int):=shl_lit (k:=15) (by omega)
theorem sh12 {n : Nat} (h : n < 8) : w64 ((n : Int) * 2 ^ (min 12 (IntKind.bits .i64))) = ((n * 2 ^ 12 : Nat) : Int):=shl_lit (k:=12) (by omega)
theorem sh7 {n : Nat} (h : n < 32) : w64 ((n : Int) * 2 ^ (min 7 (IntKind.bits .i64))) = ((n * 2 ^ 7 : Nat) : Int):=shl_lit (k:=7) (by omega)
theorem or_lt {a b : Nat} (ha : a < 4294967296) (hb : b < 4294967296) : a ||| b < 4294967296:=Nat.or_lt_two_pow (n:=32) ha hb
theorem or_n {a b : Nat} (ha : a < 4294967296) (hb : b < 4294967296) : bitsI .or .i64 (a : Int) (b : Int) = ((a ||| b : Nat) : Int):=or_nat (by omega) (by omega)
theorem nat_of {x : Int} {n : Int} (h0 : 0 ≤ x) (h1 : x ≤ n) : ∃ k : Nat,x = k ∧ (k : Int) ≤ n:=⟨x.toNat,by omega,by omega⟩
theorem enc_R {op rd rs rt : Int} (h : 1 ≤ op ∧ op ≤ 11) (hd : 0 ≤ rd ∧ rd ≤ 31) (hs : 0 ≤ rs ∧ rs ≤ 31) (ht : 0 ≤ rt ∧ rt ≤ 31) : Enc (Instr.mk op rd rs rt 0):=by
 obtain ⟨d,rfl,hd2⟩:=nat_of hd.1 hd.2
 obtain ⟨s,rfl,hs2⟩:=nat_of hs.1 hs.2
 obtain ⟨t,rfl,ht2⟩:=nat_of ht.1 ht.2
 obtain ⟨k,rfl⟩ : ∃ k : Nat,op = (k : Int) + 1:=⟨(op - 1).toNat,by omega⟩
 obtain ⟨x,f3,f7,opc,g1,g2,g3,g4,g5,g6,g7,g8,g9,_⟩:=tab k (by omega)
 obtain ⟨g10,rfl⟩:=g9 (by omega)
 obtain ⟨u,u1,u2,u3,_⟩:=uns_ok (x:=0) (by omega) (by omega)
 refine ⟨f7 * 2 ^ 25 + t * 2 ^ 20 + (s * 2 ^ 15 + f3 * 2 ^ 12 + 51) + d * 2 ^ 7,by omega,(fun k' hk h1 h2=>by simp only at hk; omega),?_,fun hv=>?_,fun _=>fl_R (by omega) (by omega) (by omega) (by omega) (t3_of (by omega) g8) g5 (t7_of (by omega) g10) g6⟩
 ·unfold f0n
  simp only
  have c : ∀ n : Int,12 ≤ n → (((k : Int) + 1) == n) = false:=fun n hn=>by simp; omega
  rw [c 12 (by omega),c 13 (by omega),c 14 (by omega),c 15 (by omega),c 16 (by omega),c 17 (by omega),c 18 (by omega),c 19 (by omega),c 20 (by omega),c 21 (by omega)]
  simp only [sel,Option.bind_some]
  have hm:=mid_ok (op:=(k : Int) + 1) (rd:=d) (rs:=s) (rt:=t) (imm:=0) (k:=k) (srs:=s) (f3:=f3) (opc:=51) rfl (by omega) rfl (by omega) g8 g5 (by omega)
  rw [show ((51 : Nat) : Int) = 51 from rfl] at hm
  rw [hm]
  unfold f4e
  rw [show (k : Int) + 1 - 1 = k by omega,w64_id (x:=(k : Int)) (by omega) (by omega),g10]
  simp only [Option.bind_some]
  rw [show (25 : Int) = ((25 : Nat) : Int) from rfl,show (20 : Int) = ((20 : Nat) : Int) from rfl,show (7 : Int) = ((7 : Nat) : Int) from rfl,put_ok f7 25 (by omega) (by omega),put_ok t 20 (by omega) (by omega),put_ok d 7 (by omega) (by omega)]
  simp only [Option.bind_some]
  rw [w64_add (by omega),w64_add (by omega),w64_add (by omega)]
 ·rw [f7f (r:=none) hv]
  simp only
  rw [show (k : Int) + 1 - 1 = k by omega,w64_id (x:=(k : Int)) (by omega) (by omega),g1,u3,fmt_R (by omega)]
  simp only [Option.bind_some,sel,Int.reduceBEq]
  rw [g2,g3,g4,sh25 g6,sh20 (by omega),sh15 (by omega),sh12 g5,sh7 (by omega)]
  rw [or_n (by omega) (by omega),or_n (or_lt (by omega) (by omega)) (by omega),or_n (or_lt (or_lt (by omega) (by omega)) (by omega)) (by omega),or_n (by omega) (or_lt (or_lt (or_lt (by omega) (by omega)) (by omega)) (by omega)),
   or_n (or_lt (by omega) (or_lt (or_lt (or_lt (by omega) (by omega)) (by omega)) (by omega))) (by omega),or_R (by omega) (by omega) (by omega) (by omega) (by omega)]
theorem sel_f0 {α : Type} (x y : α) : sel false x y = y:=rfl
theorem sel_t0 {α : Type} (x y : α) : sel true x y = x:=rfl
theorem imm_bits0 {x : Int} {u m p q low many : Nat} (hu : (u : Int) = x % (q : Int)) (hm : (m : Int) = x % p) (hp : 2 ^ (low + many) ∣ p) (hp2 : p ∣ q) : u / 2 ^ low % 2 ^ many = m / 2 ^ low % 2 ^ many:=by
 have e1 : u % p = m:=by
  have h1 : ((u % p : Nat) : Int) = (m : Int):=by
   rw [Int.natCast_emod,hu,hm]
   exact Int.emod_emod_of_dvd _ (Int.natCast_dvd_natCast.2 hp2)
  exact Int.ofNat.inj h1
 have e2 : ∀ n : Nat,n / 2 ^ low % 2 ^ many = n % 2 ^ (low + many) / 2 ^ low:=fun n=>by rw [Nat.pow_add,Nat.mod_mul_right_div_self]
 rw [e2 u,e2 m,← e1,Nat.mod_mod_of_dvd _ hp]
theorem imm_bits {x : Int} {u m p low many : Nat} (hu : (u : Int) = x % 4294967296) (hm : (m : Int) = x % p) (hp : 2 ^ (low + many) ∣ p) (hp2 : ∃ c,4294967296 = p * c) : u / 2 ^ low % 2 ^ many = m / 2 ^ low % 2 ^ many:=imm_bits0 (q:=4294967296) hu hm hp hp2
theorem or_I {m rs f3 opc rd : Nat} (h1 : opc < 128) (h2 : rd < 32) (h3 : f3 < 8) (h4 : rs < 32) :
  ((m * 2 ^ 20 ||| (0 ||| rs * 2 ^ 15 ||| f3 * 2 ^ 12 ||| opc)) ||| rd * 2 ^ 7) = m * 2 ^ 20 + (rs * 2 ^ 15 + f3 * 2 ^ 12 + opc) + rd * 2 ^ 7:=by
 have e : m * 2 ^ 20 + (rs * 2 ^ 15 + f3 * 2 ^ 12 + opc) + rd * 2 ^ 7 = 2 ^ 20 * m + (2 ^ 15 * rs + (2 ^ 12 * f3 + (2 ^ 7 * rd + opc))):=by omega
 rw [e,add_or (i:=20) (by omega),add_or (i:=15) (by omega),add_or (i:=12) (by omega),add_or (i:=7) (by omega)]
 simp only [Nat.mul_comm _ (2 ^ 20),Nat.mul_comm _ (2 ^ 15),Nat.mul_comm _ (2 ^ 12),Nat.mul_comm _ (2 ^ 7),Nat.zero_or]
 ac_rfl
theorem or_S {hi7 rt rs f3 lo5 : Nat} (h1 : rt < 32) (h2 : lo5 < 32) (h3 : f3 < 8) (h4 : rs < 32) :
  ((hi7 * 2 ^ 25 ||| (rt * 2 ^ 20 ||| rs * 2 ^ 15 ||| f3 * 2 ^ 12 ||| 35)) ||| lo5 * 2 ^ 7) = hi7 * 2 ^ 25 + rt * 2 ^ 20 + (rs * 2 ^ 15 + f3 * 2 ^ 12 + 35) + lo5 * 2 ^ 7:=or_R (by omega) h2 h3 h4 h1
theorem or_B {v1 v2 rt rs f3 v3 v4 : Nat} (h1 : rt < 32) (h2 : v2 < 64) (h3 : f3 < 8) (h4 : rs < 32) (h5 : v3 < 16) (h6 : v4 < 2) :
  ((((v1 * 2 ^ 31 ||| v2 * 2 ^ 25) ||| (rt * 2 ^ 20 ||| rs * 2 ^ 15 ||| f3 * 2 ^ 12 ||| 99)) ||| v3 * 2 ^ 8) ||| v4 * 2 ^ 7) = v1 * 2 ^ 31 + v2 * 2 ^ 25 + rt * 2 ^ 20 + (rs * 2 ^ 15 + f3 * 2 ^ 12 + 99) + v3 * 2 ^ 8 + v4 * 2 ^ 7:=by
 have e : v1 * 2 ^ 31 + v2 * 2 ^ 25 + rt * 2 ^ 20 + (rs * 2 ^ 15 + f3 * 2 ^ 12 + 99) + v3 * 2 ^ 8 + v4 * 2 ^ 7 = 2 ^ 31 * v1 + (2 ^ 25 * v2 + (2 ^ 20 * rt + (2 ^ 15 * rs + (2 ^ 12 * f3 + (2 ^ 8 * v3 + (2 ^ 7 * v4 + 99)))))):=by omega
 rw [e,add_or (i:=31) (by omega),add_or (i:=25) (by omega),add_or (i:=20) (by omega),add_or (i:=15) (by omega),add_or (i:=12) (by omega),add_or (i:=8) (by omega),add_or (i:=7) (by omega)]
 generalize 99 = q
 simp only [Nat.mul_comm _ (2 ^ 31),Nat.mul_comm _ (2 ^ 25),Nat.mul_comm _ (2 ^ 20),Nat.mul_comm _ (2 ^ 15),Nat.mul_comm _ (2 ^ 12),Nat.mul_comm _ (2 ^ 8),Nat.mul_comm _ (2 ^ 7)]
 ac_rfl
theorem or_U {u d : Nat} (h : d < 32) : (u * 2 ^ 12 ||| d * 2 ^ 7 ||| 55) = u * 2 ^ 12 + d * 2 ^ 7 + 55:=by
 have e : u * 2 ^ 12 + d * 2 ^ 7 + 55 = 2 ^ 12 * u + (2 ^ 7 * d + 55):=by omega
 rw [e,add_or (i:=12) (by omega),add_or (i:=7) (by omega)]
 generalize 55 = q
 simp only [Nat.mul_comm _ (2 ^ 12),Nat.mul_comm _ (2 ^ 7)]
 ac_rfl
theorem or_J {v1 v2 v3 v4 d : Nat} (h2 : v2 < 1024) (h3 : v3 < 2) (h4 : v4 < 256) (h5 : d < 32) :
  (((((v1 * 2 ^ 31 ||| v2 * 2 ^ 21) ||| v3 * 2 ^ 20) ||| v4 * 2 ^ 12) ||| d * 2 ^ 7) ||| 111) = v1 * 2 ^ 31 + v2 * 2 ^ 21 + v3 * 2 ^ 20 + v4 * 2 ^ 12 + d * 2 ^ 7 + 111:=by
 have e : v1 * 2 ^ 31 + v2 * 2 ^ 21 + v3 * 2 ^ 20 + v4 * 2 ^ 12 + d * 2 ^ 7 + 111 = 2 ^ 31 * v1 + (2 ^ 21 * v2 + (2 ^ 20 * v3 + (2 ^ 12 * v4 + (2 ^ 7 * d + 111)))):=by omega
 rw [e,add_or (i:=31) (by omega),add_or (i:=21) (by omega),add_or (i:=20) (by omega),add_or (i:=12) (by omega),add_or (i:=7) (by omega)]
 generalize 111 = q
 simp only [Nat.mul_comm _ (2 ^ 31),Nat.mul_comm _ (2 ^ 21),Nat.mul_comm _ (2 ^ 20),Nat.mul_comm _ (2 ^ 12),Nat.mul_comm _ (2 ^ 7)]
 ac_rfl
theorem or4 {a b c d : Nat} (h1 : a < 4294967296) (h2 : b < 4294967296) (h3 : c < 4294967296) (h4 : d < 4294967296) : bitsI .or .i64 (bitsI .or .i64 (bitsI .or .i64 (a : Int) (b : Int)) (c : Int)) (d : Int) = ((a ||| b ||| c ||| d : Nat) : Int):=by
 rw [or_n h1 h2,or_n (or_lt h1 h2) h3,or_n (or_lt (or_lt h1 h2) h3) h4]
end Go.Proofs.YtmpplggjpmmhlaaGreatDoor.N
namespace Go.Proofs.YtmpplggjpmmhlaaGreatDoor.N
open Go.Proofs.YtmpplggjpmmhlaaGreatDoor.X
theorem enc_S {rs rt imm : Int} (hs : 0 ≤ rs ∧ rs ≤ 31) (ht : 0 ≤ rt ∧ rt ≤ 31) (hi : -2048 ≤ imm ∧ imm ≤ 2047) : Enc (Instr.mk 16 0 rs rt imm):=by
 obtain ⟨s,rfl,hs2⟩:=nat_of hs.1 hs.2
 obtain ⟨t,rfl,ht2⟩:=nat_of ht.1 ht.2
 obtain ⟨x,f3,f7,opc,g1,g2,g3,g4,g5,g6,g7,g8,g9,g10,g11,g12,g13,_⟩:=tab 15 (by omega)
 obtain rfl:=g13 rfl
 obtain ⟨u,u1,u2,u3,_⟩:=uns_ok (x:=imm) (by omega) (by omega)
 obtain ⟨m,m1,m2,m3⟩:=mod_ok (x:=imm) (p:=4096) (by omega) (by omega) (by omega)
 rw [show ((4096 : Nat) : Int) = 4096 from rfl] at m3
 have hm:=mid_ok (op:=((15 : Nat) : Int) + 1) (rd:=0) (rs:=s) (rt:=t) (imm:=imm) (k:=15) (srs:=s) (f3:=f3) (opc:=35) rfl (by omega) rfl (by omega) g8 g5 g7
 have b1:=sbits_ok m 5 7 (by omega) (by omega) (by omega) (by omega)
 have b2:=sbits_ok m 0 5 (by omega) (by omega) (by omega) (by omega)
 have l1 : m / 2 ^ 5 % 2 ^ 7 < 128:=Nat.mod_lt _ (by decide)
 have l2 : m / 2 ^ 0 % 2 ^ 5 < 32:=Nat.mod_lt _ (by decide)
 have p1:=part_ok u 5 7 25 u1 (by omega) (by omega) (by omega) (by omega)
 have p2:=part_ok u 0 5 7 u1 (by omega) (by omega) (by omega) (by omega)
 rw [imm_bits (x:=imm) (m:=m) (p:=4096) u2 m2 (by decide) ⟨1048576,rfl⟩] at p1 p2
 have hrel : m / 2 ^ 5 % 2 ^ 7 * 32 + m / 2 ^ 0 % 2 ^ 5 = m:=by omega
 generalize m / 2 ^ 5 % 2 ^ 7 = hi7 at b1 p1 l1 hrel
 generalize m / 2 ^ 0 % 2 ^ 5 = lo5 at b2 p2 l2 hrel
 refine ⟨hi7 * 2 ^ 25 + t * 2 ^ 20 + (s * 2 ^ 15 + f3 * 2 ^ 12 + 35) + lo5 * 2 ^ 7,by omega,(fun k' hk h1 h2=>by
  obtain rfl : k' = 15:=by simp only at hk; omega
  rw [g8]
  exact congrArg (fun n : Nat=>some (n : Int)) (by simp only [Nat.reducePow]; omega)),?_,fun hv=>?_,fun _=>fl_S (by omega) (by omega) (t3_of (by omega) g8) g5 l1 l2 hrel hi m2⟩
 ·unfold f0n
  refine bind_to (y:=false) rfl (sel_to rfl (sel_to rfl (sel_to rfl (sel_tt rfl ?_))))
  refine bind_to m3 (bind_to b1 (bind_to (put_ok hi7 25 (by omega) (by omega)) (bind_to (put_ok t 20 (by omega) (by omega)) (bind_to hm (bind_to b2 (bind_to (put_ok lo5 7 (by omega) (by omega)) ?_))))))
  rw [w64_add (by omega),w64_add (by omega),w64_add (by omega)]
 ·rw [f7f (r:=none) hv]
  refine bind_to g1 (bind_to u3 (bind_to (y:=83) rfl ?_))
  refine sel_to rfl (sel_to rfl (sel_tt rfl ?_))
  refine bind_to p1 (bind_to p2 ?_)
  rw [g2,g4,sh20 (by omega),sh15 (by omega),sh12 g5,or4 (a:=t * 2 ^ 20) (by omega) (by omega) (by omega) (by omega),or_n (by omega) (or_lt (or_lt (or_lt (by omega) (by omega)) (by omega)) (by omega)),or_n (or_lt (by omega) (or_lt (or_lt (or_lt (by omega) (by omega)) (by omega)) (by omega))) (by omega),or_S (by omega) l2 g5 (by omega)]
end Go.Proofs.YtmpplggjpmmhlaaGreatDoor.N
namespace Go.Proofs.YtmpplggjpmmhlaaGreatDoor.N
open Go.Proofs.YtmpplggjpmmhlaaGreatDoor.X
theorem enc_B {op rs rt imm : Int} (h : op = 17 ∨ op = 18) (hs : 0 ≤ rs ∧ rs ≤ 31) (ht : 0 ≤ rt ∧ rt ≤ 31) (hi : -4096 ≤ imm ∧ imm ≤ 4094) : Enc (Instr.mk op 0 rs rt imm):=by
 obtain ⟨s,rfl,hs2⟩:=nat_of hs.1 hs.2
 obtain ⟨t,rfl,ht2⟩:=nat_of ht.1 ht.2
 obtain ⟨k,rfl⟩ : ∃ k : Nat,op = (k : Int) + 1:=⟨(op - 1).toNat,by omega⟩
 obtain ⟨x,f3,f7,opc,g1,g2,g3,g4,g5,g6,g7,g8,g9,g10,g11,g12,g13,g14,_⟩:=tab k (by omega)
 obtain rfl:=g14 (by omega)
 obtain ⟨u,u1,u2,u3,_⟩:=uns_ok (x:=imm) (by omega) (by omega)
 obtain ⟨m,m1,m2,m3⟩:=mod_ok (x:=imm) (p:=8192) (by omega) (by omega) (by omega)
 rw [show ((8192 : Nat) : Int) = 8192 from rfl] at m3
 have hm:=mid_ok (op:=(k : Int) + 1) (rd:=0) (rs:=s) (rt:=t) (imm:=imm) (k:=k) (srs:=s) (f3:=f3) (opc:=99) rfl (by omega) rfl (by omega) g8 g5 g7
 have b1:=sbits_ok m 12 1 (by omega) (by omega) (by omega) (by omega)
 have b2:=sbits_ok m 5 6 (by omega) (by omega) (by omega) (by omega)
 have b3:=sbits_ok m 1 4 (by omega) (by omega) (by omega) (by omega)
 have b4:=sbits_ok m 11 1 (by omega) (by omega) (by omega) (by omega)
 have l1 : m / 2 ^ 12 % 2 ^ 1 < 2:=Nat.mod_lt _ (by decide)
 have l2 : m / 2 ^ 5 % 2 ^ 6 < 64:=Nat.mod_lt _ (by decide)
 have l3 : m / 2 ^ 1 % 2 ^ 4 < 16:=Nat.mod_lt _ (by decide)
 have l4 : m / 2 ^ 11 % 2 ^ 1 < 2:=Nat.mod_lt _ (by decide)
 have p1:=part_ok u 12 1 31 u1 (by omega) (by omega) (by omega) (by omega)
 have p2:=part_ok u 5 6 25 u1 (by omega) (by omega) (by omega) (by omega)
 have p3:=part_ok u 1 4 8 u1 (by omega) (by omega) (by omega) (by omega)
 have p4:=part_ok u 11 1 7 u1 (by omega) (by omega) (by omega) (by omega)
 rw [imm_bits (x:=imm) (m:=m) (p:=8192) u2 m2 (by decide) ⟨524288,rfl⟩] at p1 p2 p3 p4
 have hrel : imm % 2 = 0 → m / 2 ^ 12 % 2 ^ 1 * 4096 + m / 2 ^ 11 % 2 ^ 1 * 2048 + m / 2 ^ 5 % 2 ^ 6 * 32 + m / 2 ^ 1 % 2 ^ 4 * 2 = m:=fun he=>by omega
 generalize m / 2 ^ 12 % 2 ^ 1 = v1 at b1 p1 l1 hrel
 generalize m / 2 ^ 5 % 2 ^ 6 = v2 at b2 p2 l2 hrel
 generalize m / 2 ^ 1 % 2 ^ 4 = v3 at b3 p3 l3 hrel
 generalize m / 2 ^ 11 % 2 ^ 1 = v4 at b4 p4 l4 hrel
 refine ⟨v1 * 2 ^ 31 + v2 * 2 ^ 25 + t * 2 ^ 20 + (s * 2 ^ 15 + f3 * 2 ^ 12 + 99) + v3 * 2 ^ 8 + v4 * 2 ^ 7,by omega,(fun k' hk h1 h2=>by
  obtain rfl : k' = k:=by simp only at hk; omega
  rw [g8]
  exact congrArg (fun n : Nat=>some (n : Int)) (by simp only [Nat.reducePow]; omega)),?_,fun hv=>?_,fun hI=>fl_B (by omega) (by omega) (by omega) (t3_of (by omega) g8) g5 l1 l2 l3 l4 (hrel (by unfold IOk at hI; simp only at hI; omega)) (by omega) m2⟩
 ·have hb : f5n (Instr.mk ((k : Int) + 1) 0 s t imm) = some ((v1 * 2 ^ 31 + v2 * 2 ^ 25 + t * 2 ^ 20 + (s * 2 ^ 15 + f3 * 2 ^ 12 + 99) + v3 * 2 ^ 8 + v4 * 2 ^ 7 : Nat) : Int):=by
   unfold f5n
   refine bind_to m3 (bind_to b1 (bind_to (put_ok v1 31 (by omega) (by omega)) (bind_to b2 (bind_to (put_ok v2 25 (by omega) (by omega)) (bind_to (put_ok t 20 (by omega) (by omega)) (bind_to hm (bind_to b3 (bind_to (put_ok v3 8 (by omega) (by omega)) (bind_to b4 (bind_to (put_ok v4 7 (by omega) (by omega)) ?_))))))))))
   rw [w64_add (by omega),w64_add (by omega),w64_add (by omega),w64_add (by omega),w64_add (by omega)]
  unfold f0n
  simp only
  have c : ∀ n : Int,n ≤ 16 → (((k : Int) + 1) == n) = false:=fun n hn=>by simp; omega
  have hy : (sel (((k : Int) + 1) == 17) (some (((k : Int) + 1) == 17)) (some (((k : Int) + 1) == 18)) : Option Bool) = some true:=by
   rcases (by omega : k = 16 ∨ k = 17) with rfl | rfl <;> rfl
  rw [c 12 (by omega),c 13 (by omega),c 14 (by omega),c 15 (by omega),c 16 (by omega),hy,hb]
  simp only [sel_f0,sel_t0,Option.bind_some]
 ·rw [f7f (r:=none) hv]
  simp only
  rw [show (k : Int) + 1 - 1 = k by omega,w64_id (x:=(k : Int)) (by omega) (by omega)]
  refine bind_to g1 (bind_to u3 (bind_to (fmt_B h) ?_))
  refine sel_to rfl (sel_to rfl (sel_to rfl (sel_tt rfl ?_)))
  refine bind_to p1 (bind_to p2 (bind_to p3 (bind_to p4 ?_)))
  have t1 : t ≤ 31:=by omega
  have s1 : s ≤ 31:=by omega
  have z1 : v1 * 2 ^ 31 < 4294967296:=Nat.lt_of_le_of_lt (Nat.mul_le_mul_right _ (Nat.le_of_lt_succ l1)) (by decide)
  have z2 : v2 * 2 ^ 25 < 4294967296:=Nat.lt_of_le_of_lt (Nat.mul_le_mul_right _ (Nat.le_of_lt_succ l2)) (by decide)
  have z3 : t * 2 ^ 20 < 4294967296:=Nat.lt_of_le_of_lt (Nat.mul_le_mul_right _ t1) (by decide)
  have z4 : s * 2 ^ 15 < 4294967296:=Nat.lt_of_le_of_lt (Nat.mul_le_mul_right _ s1) (by decide)
  have z5 : f3 * 2 ^ 12 < 4294967296:=Nat.lt_of_le_of_lt (Nat.mul_le_mul_right _ (Nat.le_of_lt_succ g5)) (by decide)
  have z6 : v3 * 2 ^ 8 < 4294967296:=Nat.lt_of_le_of_lt (Nat.mul_le_mul_right _ (Nat.le_of_lt_succ l3)) (by decide)
  have z7 : v4 * 2 ^ 7 < 4294967296:=Nat.lt_of_le_of_lt (Nat.mul_le_mul_right _ (Nat.le_of_lt_succ l4)) (by decide)
  have z8 : 99 < 4294967296:=by decide
  have zr:=or_lt (or_lt (or_lt z3 z4) z5) z8
  rw [g2,g4,sh20 (Nat.lt_succ_of_le t1),sh15 (Nat.lt_succ_of_le s1),sh12 g5,or4 z3 z4 z5 z8,or_n z1 z2,or_n (or_lt z1 z2) zr,or_n (or_lt (or_lt z1 z2) zr) z6,or_n (or_lt (or_lt (or_lt z1 z2) zr) z6) z7,or_B (Nat.lt_succ_of_le t1) l2 g5 (Nat.lt_succ_of_le s1) l3 l4]
end Go.Proofs.YtmpplggjpmmhlaaGreatDoor.N
namespace Go.Proofs.YtmpplggjpmmhlaaGreatDoor.N
open Go.Proofs.YtmpplggjpmmhlaaGreatDoor.X
theorem enc_U {rd imm : Int} (hd : 0 ≤ rd ∧ rd ≤ 31) (hi : 0 ≤ imm ∧ imm ≤ 1048575) : Enc (Instr.mk 19 rd 0 0 imm):=by
 obtain ⟨d,rfl,hd2⟩:=nat_of hd.1 hd.2
 obtain ⟨m,rfl,hm2⟩:=nat_of hi.1 hi.2
 obtain ⟨x,f3,f7,opc,g1,g2,g3,g4,g5,g6,g7,g8,g9,g10,g11,g12,g13,g14,g15,_⟩:=tab 18 (by omega)
 obtain rfl:=g15 rfl
 obtain ⟨u,u1,u2,u3,_⟩:=uns_ok (x:=(m : Int)) (by omega) (by omega)
 obtain rfl : u = m:=by omega
 have p1:=part_ok u 0 20 12 u1 (by omega) (by omega) (by omega) (by omega)
 rw [show u / 2 ^ 0 % 2 ^ 20 = u by omega] at p1
 refine ⟨u * 2 ^ 12 + d * 2 ^ 7 + 55,by omega,(fun k' hk h1 h2=>by simp only at hk; omega),?_,fun hv=>?_,fun _=>fl_U (by omega) (by omega) rfl⟩
 ·unfold f0n
  refine bind_to (y:=false) rfl (sel_to rfl (sel_to rfl (sel_to rfl (sel_to rfl (bind_to (y:=false) rfl (sel_to rfl (sel_tt rfl (bind_to (put_ok u 12 (by omega) (by omega)) (bind_to (put_ok d 7 (by omega) (by omega)) ?_)))))))))
  rw [w64_add (by omega)]
  exact congrArg some (w64_add (a:=u * 2 ^ 12 + d * 2 ^ 7) (b:=55) (by omega))
 ·rw [f7f (r:=none) hv]
  refine bind_to g1 (bind_to u3 (bind_to (y:=85) rfl ?_))
  refine sel_to rfl (sel_to rfl (sel_to rfl (sel_to rfl (sel_tt rfl ?_))))
  refine bind_to p1 ?_
  have z1 : u * 2 ^ 12 < 4294967296:=by omega
  have z2 : d * 2 ^ 7 < 4294967296:=by omega
  have z8 : 55 < 4294967296:=by omega
  rw [g4,sh7 (by omega),or_n z1 z2,or_n (or_lt z1 z2) z8,or_U (by omega)]
theorem enc_J {rd imm : Int} (hd : 0 ≤ rd ∧ rd ≤ 31) (hi : -1048576 ≤ imm ∧ imm ≤ 1048574) : Enc (Instr.mk 20 rd 0 0 imm):=by
 obtain ⟨d,rfl,hd2⟩:=nat_of hd.1 hd.2
 obtain ⟨x,f3,f7,opc,g1,g2,g3,g4,g5,g6,g7,g8,g9,g10,g11,g12,g13,g14,g15,g16,_⟩:=tab 19 (by omega)
 obtain rfl:=g16 rfl
 obtain ⟨u,u1,u2,u3,_⟩:=uns_ok (x:=imm) (by omega) (by omega)
 obtain ⟨m,m1,m2,m3⟩:=mod_ok (x:=imm) (p:=2097152) (by omega) (by omega) (by omega)
 rw [show ((2097152 : Nat) : Int) = 2097152 from rfl] at m3
 have b1:=sbits_ok m 20 1 (by omega) (by omega) (by omega) (by omega)
 have b2:=sbits_ok m 1 10 (by omega) (by omega) (by omega) (by omega)
 have b3:=sbits_ok m 11 1 (by omega) (by omega) (by omega) (by omega)
 have b4:=sbits_ok m 12 8 (by omega) (by omega) (by omega) (by omega)
 have l1 : m / 2 ^ 20 % 2 ^ 1 < 2:=Nat.mod_lt _ (by decide)
 have l2 : m / 2 ^ 1 % 2 ^ 10 < 1024:=Nat.mod_lt _ (by decide)
 have l3 : m / 2 ^ 11 % 2 ^ 1 < 2:=Nat.mod_lt _ (by decide)
 have l4 : m / 2 ^ 12 % 2 ^ 8 < 256:=Nat.mod_lt _ (by decide)
 have p1:=part_ok u 20 1 31 u1 (by omega) (by omega) (by omega) (by omega)
 have p2:=part_ok u 1 10 21 u1 (by omega) (by omega) (by omega) (by omega)
 have p3:=part_ok u 11 1 20 u1 (by omega) (by omega) (by omega) (by omega)
 have p4:=part_ok u 12 8 12 u1 (by omega) (by omega) (by omega) (by omega)
 rw [imm_bits (x:=imm) (m:=m) (p:=2097152) u2 m2 (by decide) ⟨2048,rfl⟩] at p1 p2 p3 p4
 have hrel : imm % 2 = 0 → m / 2 ^ 20 % 2 ^ 1 * 1048576 + m / 2 ^ 12 % 2 ^ 8 * 4096 + m / 2 ^ 11 % 2 ^ 1 * 2048 + m / 2 ^ 1 % 2 ^ 10 * 2 = m:=fun he=>by simp only [Nat.reducePow]; omega
 generalize m / 2 ^ 20 % 2 ^ 1 = v1 at b1 p1 l1 hrel
 generalize m / 2 ^ 1 % 2 ^ 10 = v2 at b2 p2 l2 hrel
 generalize m / 2 ^ 11 % 2 ^ 1 = v3 at b3 p3 l3 hrel
 generalize m / 2 ^ 12 % 2 ^ 8 = v4 at b4 p4 l4 hrel
 refine ⟨v1 * 2 ^ 31 + v2 * 2 ^ 21 + v3 * 2 ^ 20 + v4 * 2 ^ 12 + d * 2 ^ 7 + 111,by omega,(fun k' hk h1 h2=>by simp only at hk; omega),?_,fun hv=>?_,fun hI=>fl_J (by omega) l1 l2 l3 l4 (hrel (by unfold IOk at hI; simp only at hI; omega)) (by omega) m2⟩
 ·have hj : f71 (Instr.mk 20 d 0 0 imm) = some ((v1 * 2 ^ 31 + v2 * 2 ^ 21 + v3 * 2 ^ 20 + v4 * 2 ^ 12 + d * 2 ^ 7 + 111 : Nat) : Int):=by
   unfold f71
   refine bind_to m3 (bind_to b1 (bind_to (put_ok v1 31 (by omega) (by omega)) (bind_to b2 (bind_to (put_ok v2 21 (by omega) (by omega)) (bind_to b3 (bind_to (put_ok v3 20 (by omega) (by omega)) (bind_to b4 (bind_to (put_ok v4 12 (by omega) (by omega)) (bind_to (put_ok d 7 (by omega) (by omega)) ?_)))))))))
   rw [w64_add (by omega),w64_add (by omega),w64_add (by omega),w64_add (by omega)]
   exact congrArg some (w64_add (a:=v1 * 2 ^ 31 + v2 * 2 ^ 21 + v3 * 2 ^ 20 + v4 * 2 ^ 12 + d * 2 ^ 7) (b:=111) (by omega))
  unfold f0n
  exact bind_to (y:=false) rfl (sel_to rfl (sel_to rfl (sel_to rfl (sel_to rfl (bind_to (y:=false) rfl (sel_to rfl (sel_to rfl (sel_tt rfl (bind_to hj rfl)))))))))
 ·rw [f7f (r:=none) hv]
  refine bind_to g1 (bind_to u3 (bind_to (y:=74) rfl ?_))
  refine sel_to rfl (sel_to rfl (sel_to rfl (sel_to rfl (sel_to rfl (sel_tt rfl ?_)))))
  refine bind_to p1 (bind_to p2 (bind_to p3 (bind_to p4 ?_)))
  have d1 : d ≤ 31:=by omega
  have z1 : v1 * 2 ^ 31 < 4294967296:=Nat.lt_of_le_of_lt (Nat.mul_le_mul_right _ (Nat.le_of_lt_succ l1)) (by decide)
  have z2 : v2 * 2 ^ 21 < 4294967296:=Nat.lt_of_le_of_lt (Nat.mul_le_mul_right _ (Nat.le_of_lt_succ l2)) (by decide)
  have z3 : v3 * 2 ^ 20 < 4294967296:=Nat.lt_of_le_of_lt (Nat.mul_le_mul_right _ (Nat.le_of_lt_succ l3)) (by decide)
  have z4 : v4 * 2 ^ 12 < 4294967296:=Nat.lt_of_le_of_lt (Nat.mul_le_mul_right _ (Nat.le_of_lt_succ l4)) (by decide)
  have z5 : d * 2 ^ 7 < 4294967296:=Nat.lt_of_le_of_lt (Nat.mul_le_mul_right _ d1) (by decide)
  have z8 : 111 < 4294967296:=by decide
  rw [g4,sh7 (Nat.lt_succ_of_le d1),or_n z1 z2,or_n (or_lt z1 z2) z3,or_n (or_lt (or_lt z1 z2) z3) z4,or_n (or_lt (or_lt (or_lt z1 z2) z3) z4) z5,or_n (or_lt (or_lt (or_lt (or_lt z1 z2) z3) z4) z5) z8,or_J l2 l3 l4 (Nat.lt_succ_of_le d1)]
theorem enc_E : Enc (Instr.mk 21 0 0 0 0):=by
 obtain ⟨x,f3,f7,opc,g1,g2,g3,g4,g5,g6,g7,g8,g9,g10,g11,g12,g13,g14,g15,g16,g17⟩:=tab 20 (by omega)
 obtain rfl:=g17 rfl
 obtain ⟨u,u1,u2,u3,_⟩:=uns_ok (x:=0) (by omega) (by omega)
 refine ⟨115,by omega,(fun k' hk h1 h2=>by simp only at hk; omega),?_,fun hv=>?_,fun _=>fl_E⟩
 ·unfold f0n
  exact bind_to (y:=false) rfl (sel_to rfl (sel_to rfl (sel_to rfl (sel_to rfl (bind_to (y:=false) rfl (sel_to rfl (sel_to rfl (sel_to rfl (sel_tt rfl rfl)))))))))
 ·rw [f7f (r:=none) hv]
  refine bind_to g1 (bind_to u3 (bind_to (y:=69) rfl ?_))
  refine sel_to rfl (sel_to rfl (sel_to rfl (sel_to rfl (sel_to rfl (sel_to rfl (?_))))))
  rw [g4]
end Go.Proofs.YtmpplggjpmmhlaaGreatDoor.N
namespace Go.Proofs.YtmpplggjpmmhlaaGreatDoor.N
open Go.Proofs.YtmpplggjpmmhlaaGreatDoor.X
theorem enc_I {op rd rs imm : Int} (h : 12 ≤ op ∧ op ≤ 15) (hd : 0 ≤ rd ∧ rd ≤ 31) (hs : 0 ≤ rs ∧ rs ≤ 31) (hi : -2048 ≤ imm ∧ imm ≤ 2047) : Enc (Instr.mk op rd rs 0 imm):=by
 obtain ⟨d,rfl,hd2⟩:=nat_of hd.1 hd.2
 obtain ⟨s,rfl,hs2⟩:=nat_of hs.1 hs.2
 obtain ⟨k,rfl⟩ : ∃ k : Nat,op = (k : Int) + 1:=⟨(op - 1).toNat,by omega⟩
 obtain ⟨x,f3,f7,opc,g1,g2,g3,g4,g5,g6,g7,g8,g9,g10,g11,g12,_⟩:=tab k (by omega)
 obtain ⟨u,u1,u2,u3,_⟩:=uns_ok (x:=imm) (by omega) (by omega)
 obtain ⟨m,m1,m2,m3⟩:=mod_ok (x:=imm) (p:=4096) (by omega) (by omega) (by omega)
 rw [show ((4096 : Nat) : Int) = 4096 from rfl] at m3
 have hm:=mid_ok (op:=(k : Int) + 1) (rd:=d) (rs:=s) (rt:=0) (imm:=imm) (k:=k) (srs:=s) (f3:=f3) (opc:=opc) rfl (by omega) rfl (by omega) g8 g5 g7
 have him : f4t (Instr.mk ((k : Int) + 1) d s 0 imm) opc = some ((m * 2 ^ 20 + (s * 2 ^ 15 + f3 * 2 ^ 12 + opc) + d * 2 ^ 7 : Nat) : Int):=by
  unfold f4t
  rw [hm]
  simp only
  rw [m3]
  simp only [Option.bind_some]
  rw [show (20 : Int) = ((20 : Nat) : Int) from rfl,show (7 : Int) = ((7 : Nat) : Int) from rfl,put_ok m 20 (by omega) (by omega),put_ok d 7 (by omega) (by omega)]
  simp only [Option.bind_some]
  rw [w64_add (by omega),w64_add (by omega)]
 refine ⟨m * 2 ^ 20 + (s * 2 ^ 15 + f3 * 2 ^ 12 + opc) + d * 2 ^ 7,by omega,(fun k' hk h1 h2=>by
  obtain rfl : k' = k:=by simp only at hk; omega
  rw [g8]
  exact congrArg (fun n : Nat=>some (n : Int)) (by simp only [Nat.reducePow]; omega)),?_,fun hv=>?_,fun _=>fl_I (by omega) (by omega) (by omega) (by omega) (t3_of (by omega) g8) g5 (by rcases (by omega : k = 11 ∨ k = 12 ∨ k = 13 ∨ k = 14) with rfl | rfl | rfl | rfl <;> first | exact g10 (.inl rfl) | exact g10 (.inr rfl) | exact g11 rfl | exact g12 rfl) g7 hi m2⟩
 ·unfold f0n
  simp only
  rcases (by omega : k = 11 ∨ k = 12 ∨ k = 13 ∨ k = 14) with rfl | rfl | rfl | rfl
  ·obtain rfl:=g10 (by omega)
   exact bind_to (y:=true) rfl (bind_to him rfl)
  ·obtain rfl:=g10 (by omega)
   exact bind_to (y:=true) rfl (bind_to him rfl)
  ·obtain rfl:=g11 (by omega)
   exact bind_to (y:=false) rfl (bind_to him rfl)
  ·obtain rfl:=g12 (by omega)
   exact bind_to (y:=false) rfl (bind_to him rfl)
 ·rw [f7f (r:=none) hv]
  have hp:=part_ok u 0 12 20 u1 (by omega) (by omega) (by omega) (by omega)
  rw [imm_bits (x:=imm) (m:=m) (p:=4096) u2 m2 (by decide) ⟨1048576,rfl⟩] at hp
  have hp' : f02 0 12 20 (u : Int) = some ((m * 2 ^ 20 : Nat) : Int):=by
   rw [show m * 2 ^ 20 = m / 2 ^ 0 % 2 ^ 12 * 2 ^ 20 by omega]
   exact hp
  have h0 : w64 (0 * 2 ^ (min 20 (IntKind.bits .i64))) = ((0 : Nat) : Int):=by decide
  simp only
  rw [show (k : Int) + 1 - 1 = k by omega,w64_id (x:=(k : Int)) (by omega) (by omega)]
  refine bind_to g1 (bind_to u3 (bind_to (fmt_I (by omega)) ?_))
  refine sel_to rfl (sel_tt rfl ?_)
  refine bind_to hp' ?_
  rw [g2,g4,h0,sh15 (by omega),sh12 g5,sh7 (by omega),or4 (a:=0) (by omega) (by omega) (by omega) (by omega),or_n (by omega) (or_lt (or_lt (or_lt (by omega) (by omega)) (by omega)) (by omega)),or_n (or_lt (by omega) (or_lt (or_lt (or_lt (by omega) (by omega)) (by omega)) (by omega))) (by omega),or_I g7 (by omega) g5 (by omega)]
end Go.Proofs.YtmpplggjpmmhlaaGreatDoor.N
namespace Go.Proofs.YtmpplggjpmmhlaaGreatDoor.N
open Go.Proofs.YtmpplggjpmmhlaaGreatDoor.X
theorem find_loop {ρ : Type} {f : Int → Option (Int ⊕ (ρ ⊕ Unit))} (c : Nat → Bool) (g : Nat → ρ) : ∀ (n s : Nat),(∀ i,s ≤ i → i < s + n → f ((i : Int) + 1) = some (cond (c i) (.inr (.inl (g i))) (.inl ((i : Int) + 1 + 1)))) → f (((s + n : Nat) : Int) + 1) = some (.inr (.inr ())) →
  iter f ((s : Int) + 1) = some (match (List.range' s n).find? c with
   | some i=>.inl (g i)
   | none=>.inr ())
 | 0,s,_,he=>by
  rw [iter_eq,show f ((s : Int) + 1) = _ from he]
  rfl
 | n + 1,s,h,he=>by
  rw [iter_eq,h s (Nat.le_refl _) (by omega),List.range'_succ,List.find?_cons]
  cases hc : c s with
  | true=>rfl
  | false =>
   have ih:=find_loop c g n (s + 1) (fun i h1 h2=>h i (by omega) (by omega)) (by rw [show s + 1 + n = s + (n + 1) by omega]; exact he)
   rw [show ((s + 1 : Nat) : Int) + 1 = (s : Int) + 1 + 1 by omega] at ih
   simp only [cond_false]
   exact ih
theorem three_ok {i : Nat} (hi : i < 21) : f4f ((i : Int) + 1) = some (t3 i : Int):=by
 rcases split21 hi with rfl | rfl | rfl | rfl | rfl | rfl | rfl | rfl | rfl | rfl | rfl | rfl | rfl | rfl | rfl | rfl | rfl | rfl | rfl | rfl | rfl <;> rfl
theorem seven_ok {i : Nat} (hi : i < 11) : f4e ((i : Int) + 1) = some (t7 i : Int):=by
 rcases split21 (show i < 21 by omega) with rfl | rfl | rfl | rfl | rfl | rfl | rfl | rfl | rfl | rfl | rfl | rfl | rfl | rfl | rfl | rfl | rfl | rfl | rfl | rfl | rfl <;> first | rfl | (exact absurd hi (by decide))
def Mt (i op f3 f7 : Nat) : Bool:=(tO i == op) && (bif Nat.blt i 11 then (t3 i == f3) && (t7 i == f7) else bif Nat.blt i 18 then t3 i == f3 else true)
def So (op f3 f7 : Nat) : Nat:=
 bif op == 51 then (match (List.range' 0 11).find? (fun i=>(f3 == t3 i) && (f7 == t7 i)) with
  | some i=>i + 1
  | none=>0) else
 bif op == 19 then (bif f3 == 0 then 12 else 13) else bif op == 3 then 14 else bif op == 103 then 15 else bif op == 35 then 16 else
 bif op == 99 then (bif f3 == 0 then 17 else 18) else bif op == 55 then 19 else bif op == 111 then 20 else bif op == 115 then 21 else 0
theorem so_of_mt {i op f3 f7 : Nat} (hi : i < 21) (h : Mt i op f3 f7 = true) : So op f3 f7 = i + 1:=by
  unfold Mt at h
  rw [Bool.and_eq_true] at h
  obtain ⟨h1,h2⟩:=h
  have e1:=eq_of_beq h1
  rcases split21 hi with rfl | rfl | rfl | rfl | rfl | rfl | rfl | rfl | rfl | rfl | rfl | rfl | rfl | rfl | rfl | rfl | rfl | rfl | rfl | rfl | rfl
  all_goals (subst e1; first
    | (have h3 : ((t3 _ == f3) && (t7 _ == f7)) = true:=h2
       rw [Bool.and_eq_true] at h3
       have e2:=eq_of_beq h3.1
       have e3:=eq_of_beq h3.2
       subst e2
       subst e3
       rfl)
    | (have h3 : (t3 _ == f3) = true:=h2
       have e2:=eq_of_beq h3
       subst e2
       rfl)
    | rfl)
theorem int_beq (a b : Nat) : ((a : Int) == (b : Int)) = (a == b):=by
 rw [Bool.eq_iff_iff]
 simp only [beq_iff_eq]
 constructor <;> intro h <;> omega
theorem so_le (op f3 f7 : Nat) : So op f3 f7 ≤ 21:=by
 unfold So
 have h : ∀ o : Option Nat,o = (List.range' 0 11).find? (fun i=>(f3 == t3 i) && (f7 == t7 i)) → (match o with
  | some i=>i + 1
  | none=>0) ≤ 21:=by
  intro o ho
  cases o with
  | none=>exact Nat.zero_le _
  | some i =>
   have:=List.mem_of_find?_eq_some ho.symm
   simp at this
   show i + 1 ≤ 21
   omega
 have:=h _ rfl
 cases (op == 51) <;> cases (op == 19) <;> cases (op == 3) <;> cases (op == 103) <;> cases (op == 35) <;> cases (op == 99) <;> cases (op == 55) <;> cases (op == 111) <;> cases (op == 115) <;> cases (f3 == 0) <;> first | exact this | exact Nat.le_of_ble_eq_true rfl
theorem kind_ok (u : Nat) (hu : u < 4294967296) : f7m (u : Int) = some ((So (u / 2 ^ 0 % 2 ^ 7) (u / 2 ^ 12 % 2 ^ 3) (u / 2 ^ 25 % 2 ^ 7) : Nat) : Int):=by
 have b0:=sbits_ok u 0 7 hu (by omega) (by omega) (by omega)
 have b1:=sbits_ok u 12 3 hu (by omega) (by omega) (by omega)
 have b2:=sbits_ok u 25 7 hu (by omega) (by omega) (by omega)
 generalize u / 2 ^ 0 % 2 ^ 7 = op at b0 ⊢
 generalize u / 2 ^ 12 % 2 ^ 3 = f3 at b1 ⊢
 generalize u / 2 ^ 25 % 2 ^ 7 = f7 at b2 ⊢
 have loop:=find_loop (f:=f8a (u : Int)) (fun i=>(f3 == t3 i) && (f7 == t7 i)) (fun i=>(i : Int) + 1) 11 0 (fun i _ h2=>by
  unfold f8a
  rw [sel_true (decide_eq_true (by omega))]
  refine bind_to b1 (bind_to (three_ok (by omega)) ?_)
  refine bind_to (y:=(f3 == t3 i) && (f7 == t7 i)) ?_ ?_
  ·rw [int_beq]
   cases (f3 == t3 i)
   ·rfl
   ·refine bind_to b2 (bind_to (seven_ok (by omega)) ?_)
    rw [int_beq]
    rfl
  ·cases ((f3 == t3 i) && (f7 == t7 i))
   ·simp only [sel,cond_false]
    rw [w64_id (by omega) (by omega)]
   ·rfl) (by
  unfold f8a
  exact sel_to rfl rfl)
 unfold f7m So
 refine bind_to b0 ?_
 rw [show (51 : Int) = ((51 : Nat) : Int) from rfl,show (19 : Int) = ((19 : Nat) : Int) from rfl,show (103 : Int) = ((103 : Nat) : Int) from rfl,show (35 : Int) = ((35 : Nat) : Int) from rfl,show (99 : Int) = ((99 : Nat) : Int) from rfl,show (55 : Int) = ((55 : Nat) : Int) from rfl,show (111 : Int) = ((111 : Nat) : Int) from rfl,show (115 : Int) = ((115 : Nat) : Int) from rfl]
 simp only [int_beq]
 cases (op == 51)
 ·refine sel_to rfl ?_
  cases (op == 19)
  ·refine sel_to rfl ?_
   have b3 : ((op : Int) == 3) = (op == 3):=int_beq op 3
   rw [b3]
   cases (op == 3)
   ·refine sel_to rfl ?_
    cases (op == 103)
    ·refine sel_to rfl ?_
     cases (op == 35)
     ·refine sel_to rfl ?_
      cases (op == 99)
      ·refine sel_to rfl ?_
       cases (op == 55)
       ·refine sel_to rfl ?_
        cases (op == 111)
        ·refine sel_to rfl ?_
         cases (op == 115) <;> rfl
        ·rfl
       ·rfl
      ·refine sel_tt rfl (bind_to b1 ?_)
       have b3 : ((f3 : Int) == 0) = (f3 == 0):=int_beq f3 0
       rw [b3]
       cases (f3 == 0) <;> rfl
     ·rfl
    ·rfl
   ·rfl
  ·refine sel_tt rfl (bind_to b1 ?_)
   have b3 : ((f3 : Int) == 0) = (f3 == 0):=int_beq f3 0
   rw [b3]
   cases (f3 == 0) <;> rfl
 ·refine sel_tt rfl ?_
  rw [show (1 : Int) = ((0 : Nat) : Int) + 1 from rfl,loop]
  cases (List.range' 0 11).find? (fun i=>(f3 == t3 i) && (f7 == t7 i)) <;> rfl
theorem mask7 (u : Nat) (hu : u < 4294967296) : bitsI .and .i64 (u : Int) 127 = ((u / 2 ^ 0 % 2 ^ 7 : Nat) : Int):=by
 have:=mask_nat (a:=u) (k:=7) (by omega) (by omega)
 rw [Nat.pow_zero,Nat.div_one]
 exact this
theorem bne_int (a b : Nat) : ((a : Int) != (b : Int)) = !(a == b):=by unfold bne; rw [int_beq]
theorem match_R {x : InstrRow} {i u o a b : Nat} (hu : u < 4294967296) (hi : i < 11) (h1 : x.opcode = o) (h2 : x.funct3 = a) (h3 : x.funct7 = b) :
  f0p x ((i : Int) + 1) (u : Int) = some ((o == u / 2 ^ 0 % 2 ^ 7) && ((a == u / 2 ^ 12 % 2 ^ 3) && (b == u / 2 ^ 25 % 2 ^ 7))):=by
 have b1 : f0f (u : Int) 12 3 = some ((u / 2 ^ 12 % 2 ^ 3 : Nat) : Int):=ibits_ok u 12 3 hu (by omega) (by omega) (by omega)
 have b2 : f0f (u : Int) 25 7 = some ((u / 2 ^ 25 % 2 ^ 7 : Nat) : Int):=ibits_ok u 25 7 hu (by omega) (by omega) (by omega)
 unfold f0p
 rw [h1,h2,h3,mask7 u hu,bne_int]
 generalize u / 2 ^ 0 % 2 ^ 7 = op
 generalize u / 2 ^ 12 % 2 ^ 3 = f3 at b1 ⊢
 generalize u / 2 ^ 25 % 2 ^ 7 = f7 at b2 ⊢
 cases (o == op)
 ·rfl
 ·refine sel_to rfl (bind_to (fmt_R (by omega)) (sel_tt rfl (bind_to b1 ?_)))
  rw [int_beq]
  cases (a == f3)
  ·rfl
  ·refine bind_to (y:=(b == f7)) (sel_tt rfl (bind_to b2 ?_)) rfl
   rw [int_beq]
theorem match_F {x : InstrRow} {i u o a : Nat} (hu : u < 4294967296) (hi : 11 ≤ i) (hi2 : i < 18) (h1 : x.opcode = o) (h2 : x.funct3 = a) :
  f0p x ((i : Int) + 1) (u : Int) = some ((o == u / 2 ^ 0 % 2 ^ 7) && (a == u / 2 ^ 12 % 2 ^ 3)):=by
 have b1 : f0f (u : Int) 12 3 = some ((u / 2 ^ 12 % 2 ^ 3 : Nat) : Int):=ibits_ok u 12 3 hu (by omega) (by omega) (by omega)
 unfold f0p
 rw [h1,h2,mask7 u hu,bne_int]
 generalize u / 2 ^ 0 % 2 ^ 7 = op
 generalize u / 2 ^ 12 % 2 ^ 3 = f3 at b1 ⊢
 cases (o == op)
 ·rfl
 ·rcases (by omega : i < 15 ∨ i = 15 ∨ 16 ≤ i) with h | h | h
  ·exact sel_to rfl (bind_to (fmt_I (by omega)) (sel_to rfl (bind_to (y:=true) rfl (sel_tt rfl (bind_to b1 (by rw [int_beq,Bool.true_and]))))))
  ·exact sel_to rfl (bind_to (fmt_S' (by omega)) (sel_to rfl (bind_to (y:=true) rfl (sel_tt rfl (bind_to b1 (by rw [int_beq,Bool.true_and]))))))
  ·exact sel_to rfl (bind_to (fmt_B (by omega)) (sel_to rfl (bind_to (y:=true) rfl (sel_tt rfl (bind_to b1 (by rw [int_beq,Bool.true_and]))))))
theorem match_N {x : InstrRow} {i u o : Nat} (hu : u < 4294967296) (hi : 18 ≤ i) (hi2 : i < 21) (h1 : x.opcode = o) :
  f0p x ((i : Int) + 1) (u : Int) = some ((o == u / 2 ^ 0 % 2 ^ 7) && true):=by
 unfold f0p
 rw [h1,mask7 u hu,bne_int]
 generalize u / 2 ^ 0 % 2 ^ 7 = op
 cases (o == op)
 ·rfl
 ·rcases (by omega : i = 18 ∨ i = 19 ∨ i = 20) with rfl | rfl | rfl <;> rfl
theorem match_ok {i u : Nat} (hu : u < 4294967296) (hi : i < 21) : ∃ x,nth instrTable (i : Int) = some x ∧ f0p x ((i : Int) + 1) (u : Int) = some (Mt i (u / 2 ^ 0 % 2 ^ 7) (u / 2 ^ 12 % 2 ^ 3) (u / 2 ^ 25 % 2 ^ 7)):=by
 rcases split21 hi with rfl | rfl | rfl | rfl | rfl | rfl | rfl | rfl | rfl | rfl | rfl | rfl | rfl | rfl | rfl | rfl | rfl | rfl | rfl | rfl | rfl
 all_goals first
  | exact ⟨_,rfl,match_R hu (by decide) rfl rfl rfl⟩
  | exact ⟨_,rfl,match_F hu (by decide) (by decide) rfl rfl⟩
  | exact ⟨_,rfl,match_N hu (by decide) (by decide) rfl⟩
end Go.Proofs.YtmpplggjpmmhlaaGreatDoor.N
