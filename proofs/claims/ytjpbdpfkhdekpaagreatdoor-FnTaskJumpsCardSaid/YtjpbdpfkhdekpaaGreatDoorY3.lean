/- The program logic: rows whose elements hold rows: an element is taken out and put back, read, written; elements are gathered. -/
import Derived.Test.YtjpbdpfkhdekpaaGreatDoorY2
set_option linter.unusedVariables false
set_option linter.unusedSimpArgs false
namespace Go.Proofs.YtjpbdpfkhdekpaaGreatDoor.X
variable {P : Program} {n : Nat} {ops : Array Oper} {o : Oper} {rest : List Oper} {E E' : Env} {W W' w w0 : World} {a : Act} {v u : Value} {K : Env → World → Prop} {M T S : Nat → Prop} {L L0 L1 : List Ent}
variable {t e : TypeId} {ag : Bool} {z : Option Value} {zv : Value} {size bytes : Nat} {A A2 : Option Addr} {m c c2 k : Nat} {α : Type} {enc : α → D} {l l2 r : List α} {i : Int} {x y : α} {d : D} {ds xs ys : List D} {cs c1 : List Value}

/-! ### An element out of a row -/
theorem owns_out : ∀ {xs : List D} {S : Nat → Prop} {cs : List Value} {k : Nat} {x : D}, D.owns W xs S cs → (∀ x ∈ xs, x.sz = size) → xs[k]? = some x →
    ∃ c1 cx c2 S1 S2, cs = c1 ++ (cx ++ c2) ∧ c1.length = k * size ∧ cx.length = size ∧ (∀ b, S1 b → S b) ∧ (∀ b, S2 b → S b ∧ ¬ S1 b) ∧ D.own W x S1 cx ∧ D.owns W (xs.take k ++ xs.drop (k + 1)) S2 (c1 ++ c2)
  | [], _, _, _, _, _, _, hk => by simp at hk
  | x0 :: xs, S, _, 0, x, ⟨S1, d1, d2, h1, h2, h3, h4, h5⟩, hs, hk => by
    have : x0 = x := by simpa using hk
    subst this
    exact ⟨[], d1, d2, S1, fun b => S b ∧ ¬ S1 b, by simpa using h1, by simp, by rw [h2]; exact hs _ (by simp), h3, fun _ h => h, h4, by simpa using h5⟩
  | x0 :: xs, S, _, k + 1, x, ⟨S0, d1, d2, h1, h2, h3, h4, h5⟩, hs, hk => by
    obtain ⟨c1, cx, c2, S1, S2, k1, k2, k3, k4, k5, k6, k7⟩ := owns_out h5 (fun y hy => hs y (by simp [hy])) (by simpa using hk)
    have hx := hs x0 (by simp)
    refine ⟨d1 ++ c1, cx, c2, S1, fun b => S0 b ∨ S2 b, by rw [h1, k1, List.append_assoc], by rw [List.length_append, h2, k2, hx, Nat.add_mul]; omega, k3, fun b hb => (k4 b hb).1, fun b hb => ?_, k6, ?_⟩
    · rcases hb with hb | hb
      · exact ⟨h3 b hb, fun h => (k4 b h).2 hb⟩
      · exact ⟨(k5 b hb).1.1, (k5 b hb).2⟩
    · rw [List.append_assoc]
      exact ⟨S0, d1, c1 ++ c2, rfl, h2, fun b hb => .inl hb, h4, D.owns_mono k7 fun b hb => ⟨.inr hb, (k5 b hb).1.2⟩⟩
theorem owns_in : ∀ {xs : List D} {S1 S2 : Nat → Prop} {c1 cx c2 : List Value} {k : Nat} {x : D}, D.owns W (xs.take k ++ xs.drop (k + 1)) S2 (c1 ++ c2) → (∀ x ∈ xs, x.sz = size) → c1.length = k * size → k < xs.length → D.own W x S1 cx → (∀ b, S1 b → ¬ S2 b) →
    D.owns W (xs.set k x) (fun b => S1 b ∨ S2 b) (c1 ++ (cx ++ c2))
  | [], _, _, _, _, _, _, _, _, _, _, hk, _, _ => by simp at hk
  | x0 :: xs, S1, S2, c1, cx, c2, 0, x, h, hs, h1, hk, hx, hd => by
    have : c1 = [] := List.eq_nil_of_length_eq_zero (by simpa using h1)
    subst this
    exact ⟨S1, cx, c2, rfl, D.own_length hx, fun b hb => .inl hb, hx, D.owns_mono (by simpa using h) fun b hb => ⟨.inr hb, fun h => hd b h hb⟩⟩
  | x0 :: xs, S1, S2, c1, cx, c2, k + 1, x, h, hs, h1, hk, hx, hd => by
    have h' : D.owns W (x0 :: (xs.take k ++ xs.drop (k + 1))) S2 (c1 ++ c2) := by simpa using h
    obtain ⟨S0, d1, d2, e1, e2, e3, e4, e5⟩ := h'
    have hx0 := hs x0 (by simp)
    have hle : d1.length ≤ c1.length := by rw [e2, hx0, h1, Nat.add_mul]; omega
    have e6 : c1 = d1 ++ c1.drop d1.length := by
      have := congrArg (List.take d1.length) e1
      rw [List.take_append_of_le_length hle, List.take_left'] at this
      · conv => lhs; rw [← List.take_append_drop d1.length c1, this]
      · rfl
    have e7 : d2 = c1.drop d1.length ++ c2 := by
      rw [e6, List.append_assoc] at e1
      have := List.append_cancel_left e1
      exact this.symm
    rw [e7] at e5
    have ih := owns_in (k := k) e5 (fun y hy => hs y (by simp [hy])) (by rw [List.length_drop, h1, e2, hx0, Nat.add_mul]; omega) (by simpa using hk) hx fun b hb h => hd b hb h.1
    rw [e6, List.append_assoc]
    exact ⟨S0, d1, _, rfl, e2, fun b hb => .inr (e3 b hb), e4, D.owns_mono ih fun b hb => by
      rcases hb with hb | hb
      · exact ⟨.inl hb, fun h => hd b hb (e3 b h)⟩
      · exact ⟨.inr hb.1, hb.2⟩⟩
abbrev holeE (A : Option Addr) (c : Nat) (e size : Nat) (enc : α → D) (l : List α) (k : Nat) (cs : List Value) : Ent := .hole (.slice A l.length c) e size (l.map enc) k cs
/-- An element is taken out. -/
theorem Sep.out (h : Sep M w0 W (rowE A c e size enc l :: L)) (hx : nth l i = some x) : ∃ cs, Sep M w0 W (.dat [enc x] cs :: holeE A c e size enc l i.toNat cs :: L) := by
  obtain ⟨h0, h1, h2⟩ := nth_some hx
  obtain ⟨S, hS, ⟨v1, cs, f1, r1, s1, S', p1, o1⟩, hrest⟩ := h.own
  simp only [List.cons.injEq, and_true] at f1
  subst f1
  obtain ⟨c1, cx, c2, S1, S2, k1, k2, k3, k4, k5, k6, k7⟩ := owns_out (k := i.toNat) (x := enc x) o1 s1 (by simp [h2])
  have hlen : cx.length = (enc x).sz := D.own_length k6
  refine ⟨cx, Sep.of_parts (L' := [.dat [enc x] cx, holeE A c e size enc l i.toNat cx]) h.frame hS hrest (Frame.refl _ _) ⟨S1, fun b hb => .inl (p1 b (k4 b hb)).1, ⟨S1, cx, [], by simp, hlen, fun _ h => h, k6, rfl⟩,
    fun b => S b ∧ ¬ S1 b, fun b hb => ⟨.inl hb.1, hb.2⟩, ⟨c1, c2, ?_, k2, k3, by simpa using h1, s1, S2, fun b hb => ⟨⟨(p1 b (k5 b hb).1).1, (k5 b hb).2⟩, (p1 b (k5 b hb).1).2⟩, k7⟩, trivial⟩⟩
  subst k1
  exact ⟨r1.1, fun g hg => ⟨r1.2 g hg, fun hs => (p1 g (k4 g hs)).2 hg⟩⟩
/-- An element is put back. -/
theorem Sep.back {k : Nat} (h : Sep M w0 W (.dat [enc y] cs :: holeE A c e size enc l k cs :: L)) : Sep M w0 W (rowE A c e size enc (l.set k y) :: L) := by
  obtain ⟨S1, h1, ⟨S3, d1, d2, g1, g2, g3, g4, g5⟩, S2, h2, ⟨c1, c2, r1, k2, k3, k4, s1, S', p1, o1⟩, hrest⟩ := h.own
  have g5' : d2 = [] := g5
  subst g5'
  rw [List.append_nil] at g1
  subst g1
  have hin := owns_in (S1 := S1) o1 s1 k2 k4 (D.own_mono g4 g3) (fun b hb hb' => (h2 b (p1 b hb').1).2 hb)
  refine Sep.of_parts (L' := [rowE A c e size enc (l.set k y)]) (S := fun b => S1 b ∨ S2 b) h.frame (fun b hb => hb.elim (h1 b) fun hb => (h2 b hb).1) (hrest.mono fun b hb => ⟨hb.1.1, fun hh => hh.elim hb.1.2 hb.2⟩) (Frame.refl _ _)
    ⟨fun b => S1 b ∨ S2 b, fun b hb => .inl hb, ⟨_, c1 ++ (cs ++ c2), rfl, ⟨?_, fun g hg => .inr (r1.2 g ?_)⟩, fun d hd => ?_, fun b => S1 b ∨ S' b, fun b hb => ⟨hb.imp id fun hb => (p1 b hb).1, fun hv => ?_⟩, ?_⟩, trivial⟩
  · simpa using r1.1
  · simpa using hg
  · rw [List.map_set] at hd
    rcases List.mem_or_eq_of_mem_set hd with hd | rfl
    · exact s1 d hd
    · rw [← D.own_length g4, k3]
  · have hv' : Value.ownBlock (.slice A l.length c) = some b := by simpa using hv
    rcases hb with hb | hb
    · exact (h2 b (r1.2 b hv')).2 hb
    · exact (p1 b hb).2 hv'
  · rw [List.map_set]
    exact hin
theorem set_same (h : nth l i = some x) : l.set i.toNat x = l := by
  obtain ⟨h0, h1, h2⟩ := nth_some h
  apply List.ext_getElem?
  intro j
  rw [List.getElem?_set]
  split
  · rename_i hj; subst hj; exact h2.symm
  · rfl
theorem Sep.back0 (hx : nth l i = some x) (h : Sep M w0 W (.dat [enc x] cs :: holeE A c e size enc l i.toNat cs :: L)) : Sep M w0 W (rowE A c e size enc l :: L) := by
  have := h.back
  rw [set_same hx] at this
  exact this

/-! ### Data are opened -/
theorem Sep.part {L' : List Ent} (h : Sep M w0 W (.dat ds cs :: L)) (k : ∀ S, D.owns W ds S cs → Owns W L' S) : Sep M w0 W (L' ++ L) := by
  obtain ⟨S, hS, h1, hrest⟩ := h.own
  exact Sep.of_parts h.frame hS hrest (Frame.refl _ _) ((k S h1).mono fun b hb => .inl hb)
theorem Sep.orow (h : Sep M w0 W (.dat (.row e size (l.map enc) :: ds) cs :: L)) : ∃ A c cs', cs = .slice A l.length c :: cs' ∧ Sep M w0 W (.dat ds cs' :: rowE A c e size enc l :: L) := by
  obtain ⟨S, hS, ⟨S1, d1, d2, g1, g2, g3, ⟨v, c', e1, e2, e3⟩, g5⟩, hrest⟩ := h.own
  subst e1
  obtain ⟨A, c, rfl⟩ : ∃ A c, v = .slice A l.length c := by
    rcases e2.1.2 with ⟨h1, h2⟩ | ⟨g, cap, cur, h1, _⟩
    · rw [List.length_map] at h2; exact ⟨none, 0, by rw [h1, h2]⟩
    · rw [List.length_map] at h1; exact ⟨_, _, h1⟩
  refine ⟨A, c, d2, by simpa using g1, Sep.of_parts (L' := [.dat ds d2, rowE A c e size enc l]) h.frame hS hrest (Frame.refl _ _) ⟨fun b => S b ∧ ¬ S1 b, fun b hb => .inl hb.1, g5, S1, fun b hb => ⟨.inl (g3 b hb), fun h => h.2 hb⟩, ⟨_, c', rfl, e2, e3⟩, trivial⟩⟩
theorem Sep.oflat (hf : flat d = some c1) (h : Sep M w0 W (.dat (d :: ds) cs :: L)) : ∃ cs', cs = c1 ++ cs' ∧ Sep M w0 W (.dat ds cs' :: L) := by
  obtain ⟨S, hS, ⟨S1, d1, d2, g1, g2, g3, g4, g5⟩, hrest⟩ := h.own
  have := flat_rd hf (D.own_rd g4)
  subst this
  exact ⟨d2, g1, Sep.of_parts (L' := [.dat ds d2]) h.frame hS hrest (Frame.refl _ _) ⟨fun b => S b ∧ ¬ S1 b, fun b hb => .inl hb.1, g5, trivial⟩⟩
theorem owns_app : ∀ {xs ys : List D} {S : Nat → Prop} {c1 c2 : List Value} {S1 : Nat → Prop}, D.owns W xs S1 c1 → (∀ b, S1 b → S b) → D.owns W ys (fun b => S b ∧ ¬ S1 b) c2 → D.owns W (xs ++ ys) S (c1 ++ c2) := by
  intro xs ys S c1 c2 S1 h1 h2 h3
  exact D.owns_mono (owns_append h1 h3 fun b hb h => h.2 hb) fun b hb => hb.elim (h2 b) fun h => h.1
theorem owns_cut : ∀ {xs ys : List D} {S : Nat → Prop} {cs : List Value}, D.owns W (xs ++ ys) S cs → ∃ S1 c1 c2, cs = c1 ++ c2 ∧ c1.length = D.szs xs ∧ (∀ b, S1 b → S b) ∧ D.owns W xs S1 c1 ∧ D.owns W ys (fun b => S b ∧ ¬ S1 b) c2
  | [], ys, S, cs, h => ⟨fun _ => False, [], cs, rfl, rfl, fun _ h => h.elim, rfl, D.owns_mono h fun b hb => ⟨hb, id⟩⟩
  | x :: xs, ys, S, _, ⟨S0, d1, d2, h1, h2, h3, h4, h5⟩ => by
    obtain ⟨S1, c1, c2, k1, k2, k3, k4, k5⟩ := owns_cut (xs := xs) h5
    refine ⟨fun b => S0 b ∨ S1 b, d1 ++ c1, c2, by rw [h1, k1, List.append_assoc], by rw [List.length_append, h2, k2]; rfl, fun b hb => hb.elim (h3 b) fun hb => (k3 b hb).1, ⟨S0, d1, c1, rfl, h2, fun b hb => .inl hb, h4, D.owns_mono k4 fun b hb => ⟨.inr hb, (k3 b hb).2⟩⟩, D.owns_mono k5 fun b hb => ⟨hb.1.1, fun h => h.elim hb.1.2 hb.2⟩⟩
theorem Sep.oagg (h : Sep M w0 W (.dat (.agg xs :: ds) cs :: L)) : Sep M w0 W (.dat (xs ++ ds) cs :: L) :=
  h.part (L' := [.dat (xs ++ ds) cs]) fun S ⟨S1, d1, d2, g1, g2, g3, g4, g5⟩ => ⟨S, fun _ h => h, by subst g1; exact owns_app (S1 := S1) g4 g3 g5, trivial⟩
theorem Sep.onil (h : Sep M w0 W (.dat [] cs :: L)) : cs = [] ∧ Sep M w0 W L := by
  obtain ⟨S, hS, h1, hrest⟩ := h.own
  exact ⟨h1, h.drop⟩
/-! ### Data are gathered -/
/-- Whoever owns these things owns these data. -/
def Gat (ds : List D) (cs : List Value) (L : List Ent) : Prop := ∀ W S, Owns W L S → D.owns W ds S cs
theorem Gat.nil : Gat [] [] [] := fun _ _ _ => rfl
theorem Gat.flat (hf : X.flat d = some c1) (h : Gat ds cs L) : Gat (d :: ds) (c1 ++ cs) L := fun W S hO =>
  have h3 : D.own W d (fun _ => False) c1 := flat_own hf
  ⟨fun _ => False, c1, cs, rfl, D.own_length h3, fun _ hf => hf.elim, h3, D.owns_mono (h W S hO) fun b hb => ⟨hb, id⟩⟩
theorem Gat.row (h : Gat ds cs L) : Gat (.row e size xs :: ds) (v :: cs) (.row v e size xs :: L) := fun W S ⟨S1, h1, h2, h3⟩ => ⟨S1, [v], cs, rfl, rfl, h1, h2, h W _ h3⟩
theorem Gat.agg (h : Gat (xs ++ ds) cs L) : Gat (.agg xs :: ds) cs L := fun W S hO => by
  obtain ⟨S1, c1, c2, k1, k2, k3, k4, k5⟩ := owns_cut (h W S hO)
  exact ⟨S1, c1, c2, k1, k2, k3, k4, k5⟩
theorem Sep.gat (g : Gat ds cs L1) (h : Sep M w0 W (L1 ++ L)) : Sep M w0 W (.dat ds cs :: L) := by
  have := h.turnL (W' := W) (L' := [.dat ds cs]) fun S hS hO => ⟨Frame.refl _ _, S, fun b hb => .inl hb, g W S hO, trivial⟩
  exact this

/-! ### What is out is read and written -/
theorem Hole.row {k : Nat} {S : Nat → Prop} (h : Hole W (.slice A m c) e size xs k cs S) : ∃ g cur, A = some ⟨g, 0, none⟩ ∧ W.heap[g]? = some (.cells cur e (0, 0)) ∧ S g ∧ ∀ j u, cs[j]? = some u → cur[k * size + j]? = some u := by
  obtain ⟨c1, c2, ⟨⟨r0, r1⟩, r2⟩, h2, h3, h4, h5, S', h7, h8⟩ := h
  rcases r1 with ⟨q1, q2⟩ | ⟨g, cap, cur, q1, hb, hg, hnc, hcm, hcs, htake⟩
  · omega
  · simp only [Value.slice.injEq] at q1
    obtain ⟨rfl, rfl, rfl⟩ := q1
    refine ⟨g, cur, rfl, hg, r2 g rfl, fun j u hj => ?_⟩
    have h9 : (c1 ++ (cs ++ c2))[k * size + j]? = some u := by
      rw [← h2, List.getElem?_append_right (by omega), Nat.add_sub_cancel_left, List.getElem?_append_left]
      · exact hj
      · rcases Nat.lt_or_ge j cs.length with h | h
        · exact h
        · rw [List.getElem?_eq_none h] at hj; cases hj
    rw [← htake, List.getElem?_take] at h9
    split at h9
    · simpa using h9
    · cases h9
theorem Sep.hcells {k : Nat} (h : Sep M w0 W (holeE A c e size enc l k cs :: L)) : ∀ j u, cs[j]? = some u → W.cell? (elemA A (k * size + j)) = some u := by
  obtain ⟨S, hS, h1, hrest⟩ := h.own
  obtain ⟨g, cur, rfl, hg, _, hc⟩ := Hole.row h1
  intro j u hj
  have hadd : elemA (some ⟨g, 0, none⟩) (k * size + j) = ⟨g, k * size + j, none⟩ := by unfold elemA Addr.add; split <;> simp_all
  rw [hadd, cell_of_row W g _ cur e (0, 0) hg]
  exact hc j u hj
theorem OpW.sth {p q : Operand} {k j tsize tb : Nat} (hS : Sep M w0 W (holeE A c e size enc l k cs :: L)) (ht : tinfo P t = some (ag, z, tsize, tb)) (ho : o.op = .store t p q)
    (hp : ev E p = some (.pointer (some (elemA A (k * size + j))))) (hq : ev E q = some v)
    (kk : ∀ W', Sep M w0 W' (holeE A c e size enc l k (splice cs j v.cells.toList) :: L) → K E W') (hl : v.cells.size = tsize) (h1 : v.cells.toList.all (·.oneCell') = true) (hj : Nat.ble (j + tsize) cs.length = true) (h0 : Nat.blt 0 tsize = true) (hg : o.guard = none) (hd : o.dst = none) : OpW P n ops o E W K := by
  have hj' : j + tsize ≤ cs.length := by simpa using hj
  have hpos : 0 < tsize := by simpa [Nat.blt_eq] using h0
  have hvl : v.cells.toList.length = tsize := by simpa using hl
  obtain ⟨S1, hS1, ⟨c1, c2, ⟨r1, b1⟩, h2, h3, h4, h5, S', h7, h8⟩, hrest⟩ := hS.own
  simp only [List.length_map] at r1 h4
  have hcl : (c1 ++ (cs ++ c2)).length = l.length * size := by rw [r1.1]
  have hbound : k * size + j + v.cells.toList.length ≤ l.length * size := by
    rw [← hcl, List.length_append, List.length_append, h2]
    omega
  obtain ⟨g, cur, rfl, hgc, hfit, hrow⟩ := row_store (k := k * size + j) (vc := v.cells.toList) r1 (by omega) hbound
  have hadd : elemA (some ⟨g, 0, none⟩) (k * size + j) = ⟨g, k * size + j, none⟩ := by unfold elemA Addr.add; split <;> simp_all
  rw [hadd] at hp
  have hgS : S1 g := b1 g rfl
  refine .skip hg hd (W' := W.setRow g (splice cur.toList (k * size + j) v.cells.toList).toArray) (fun a ha => ?_) (kk _ ?_)
  · have hrun := run_storeVar (P := P) (v := v) (j := k * size + j) ht hgc hl h1 (by omega)
    unfold execOp
    simp only [ho, ha.ev hp, ha.ev hq, Instr.storeAt, Instr.sureAddr, Sem.run_bind, Sem.run_pure, Result.andThen_ok, hrun]
  · have hfr : Frame S1 W (W.setRow g (splice cur.toList (k * size + j) v.cells.toList).toArray) := ⟨rfl, rfl, rfl, frame_setRow.size, fun b hb hn => frame_setRow.block b hb fun e => hn (e ▸ hgS)⟩
    refine Sep.of_parts (L' := [holeE (some ⟨g, 0, none⟩) c e size enc l k (splice cs j v.cells.toList)]) hS.frame (S := S1) hS1 hrest hfr ⟨S1, fun b hb => .inl hb, ?_, trivial⟩
    have hag : Agree S' W (W.setRow g (splice cur.toList (k * size + j) v.cells.toList).toArray) := fun b hb => by
      have hne : b ≠ g := fun he => (h7 b hb).2 (by rw [he]; rfl)
      simp only [World.setRow, Array.getElem?_modify]
      rw [if_neg (fun h => hne h.symm)]
    have hs : splice (c1 ++ (cs ++ c2)) (k * size + j) v.cells.toList = c1 ++ (splice cs j v.cells.toList ++ c2) := by
      rw [← h2, splice_app]
      congr 1
      simp only [splice, List.append_assoc]
      rw [List.take_append_of_le_length (by omega), List.drop_append_of_le_length (by omega)]
    rw [hs] at hrow
    refine ⟨c1, c2, ⟨by simpa using hrow, by simpa using b1⟩, h2, ?_, by simpa using h4, h5, S', h7, D.owns_agree h8 hag⟩
    simp only [splice, List.length_append, List.length_take, List.length_drop]
    omega

/-! ### make, literals -/
/-- A zero value's cells, whatever rows it has. -/
def zflat : D → Option (List Value)
  | .int k n => some [.int k n]
  | .bool b => some [.bool b]
  | .str s => some [.string s]
  | .row _ _ [] => some [.slice none 0 0]
  | .row .. => none
  | .agg xs => zflats xs
where zflats : List D → Option (List Value)
  | [] => some []
  | x :: xs => match zflat x, zflats xs with
    | some a, some b => some (a ++ b)
    | _, _ => none
mutual
theorem zflat_own : ∀ {d : D} {cs : List Value} {S : Nat → Prop}, zflat d = some cs → D.own W d S cs
  | .int _ _, _, _, h => by simp only [zflat] at h; injection h with h; exact h.symm
  | .bool _, _, _, h => by simp only [zflat] at h; injection h with h; exact h.symm
  | .str _, _, _, h => by simp only [zflat] at h; injection h with h; exact h.symm
  | .row e size [], _, S, h => by
    simp only [zflat] at h
    injection h with h
    subst h
    exact ⟨_, [], rfl, ⟨World.ownsRow_nil W 0 e size, fun g hg => by simp [Value.ownBlock] at hg⟩, by simp, fun _ => False, fun _ hf => hf.elim, rfl⟩
  | .row _ _ (_ :: _), _, _, h => by simp only [zflat] at h; cases h
  | .agg xs, _, _, h => by simp only [zflat] at h; exact zflats_own (xs := xs) h
theorem zflats_own : ∀ {xs : List D} {cs : List Value} {S : Nat → Prop}, zflat.zflats xs = some cs → D.owns W xs S cs
  | [], _, _, h => by simp only [zflat.zflats] at h; injection h with h; exact h.symm
  | x :: xs, _, S, h => by
    simp only [zflat.zflats] at h
    cases h1 : zflat x <;> simp only [h1] at h <;> try contradiction
    cases h2 : zflat.zflats xs <;> simp only [h2] at h <;> try contradiction
    injection h with h
    subst h
    rename_i c1 c2
    have h3 : D.own W x (fun _ => False) c1 := zflat_own h1
    exact ⟨fun _ => False, c1, c2, rfl, D.own_length h3, fun _ hf => hf.elim, h3, zflats_own h2⟩
end
theorem made_zowns {z0 : α} {zc : List Value} (hf : zflat (enc z0) = some zc) : ∀ {n : Nat}, D.owns W ((List.replicate n z0).map enc) (fun _ => False) (List.replicate n zc).flatten
  | 0 => by simp [D.owns]
  | n + 1 => by
    have h3 : D.own W (enc z0) (fun _ => False) zc := zflat_own hf
    rw [List.replicate_succ, List.replicate_succ]
    exact ⟨fun _ => False, zc, _, rfl, D.own_length h3, fun _ hf => hf, h3, D.owns_mono (made_zowns hf) fun _ hf => hf.elim⟩
/-- make([]T, n) -/
theorem OpW.mkz {p q : Operand} {j k : IntKind} {nn : Int} (z0 : α) (enc : α → D) (h : X.mk bytes nn z0 = some r) (hu : P.underlying t = some (.slice e)) (ht : tinfo P e = some (ag, some zv, size, bytes)) (hS : Sep M w0 W L) (ho : o.op = .makeSlice t p q)
    (hp : ev E p = some (.int j nn)) (hq : ev E q = some (.int k nn)) (hf : zflat (enc z0) = some zv.cells.toList) (hz : zv.cells.size = size) (hsz : ∀ x : α, (enc x).sz = size)
    (k2 : ∀ A c W', Sep M w0 W' (rowE A c e size enc r :: L) → K (put E o.dst (.slice A r.length c)) W') (hb0 : Nat.blt 0 bytes = true) (hg : o.guard = none) (hd : okD n o.dst = true) : OpW P n ops o E W K := by
  obtain ⟨rfl, h0, hroom⟩ := mk_some h
  obtain ⟨i0, hi, hz0, hz1, hz2⟩ := tinfo_parts ht
  have hb : 0 < bytes := by simpa [Nat.blt_eq] using hb0
  have hle : nn.toNat ≤ nn.toNat * bytes := Nat.le_mul_of_pos_right _ hb
  have hbytes : (i0.bytes : Int) * nn ≤ 281474976710656 := by
    have e1 : nn = ((nn.toNat : Nat) : Int) := by omega
    rw [hz2, e1, ← Int.natCast_mul, Nat.mul_comm]
    omega
  have hrun := run_make (P := P) W t e i0 zv hu hi hz0 j k nn nn h0 (Int.le_refl _) hbytes (by omega)
  refine .runs (W' := W.alloc (.cells (madeCells zv.cells (nn.toNat * i0.size)) e)) (v := .slice (some ⟨W.heap.size, 0, none⟩) nn.toNat nn.toNat) (fun a ha => ?_) hg hd ?_
  · unfold execOp
    simp only [ho, ha.ev hp, ha.ev hq, Sem.run_bind, hrun, Result.andThen_ok]
    rfl
  · have hk := k2 (some ⟨W.heap.size, 0, none⟩) nn.toNat (W.alloc (.cells (madeCells zv.cells (nn.toNat * i0.size)) e)) ?_
    · simpa using hk
    · refine hS.new (L' := [rowE (some ⟨W.heap.size, 0, none⟩) nn.toNat e size enc (List.replicate nn.toNat z0)]) frame_alloc ⟨fun b => b = W.heap.size, fun b hb => by subst hb; simp, ?_, trivial⟩
      have hsize : (madeCells zv.cells (nn.toNat * i0.size)).size = nn.toNat * size := by rw [size_madeCells, hz1]
      have h5 := World.ownsRow_lit (base := 0) (e := e) (size := size) W (madeCells zv.cells (nn.toNat * i0.size)) nn.toNat (Nat.zero_le _) (by simp only [maxLen]; omega) hsize
      have hl : (madeCells zv.cells (nn.toNat * i0.size)).toList = (List.replicate nn.toNat zv.cells.toList).flatten := by
        rw [hz1, ← hz]; exact made_list
      refine ⟨_, (madeCells zv.cells (nn.toNat * i0.size)).toList, rfl, ⟨by simpa using h5, fun g hg => by simp only [Value.ownBlock, Option.some.injEq] at hg; exact hg.symm⟩, fun d hd => ?_, fun _ => False, fun _ hf => hf.elim, ?_⟩
      · obtain ⟨x, hx, rfl⟩ := List.mem_map.1 hd
        exact hsz x
      · rw [hl]; exact made_zowns hf
/-- A row's literal, its elements out of what the call owns. -/
theorem OpW.lig {k : Nat} {parts : Array (Nat × Operand)} {vs : List Value} (l : List α) (enc : α → D) (hu : P.underlying t = some (.slice e)) (ht : tinfo P e = some (ag, some zv, size, bytes)) (hS : Sep M w0 W (L1 ++ L)) (ho : o.op = .buildSlice t k parts)
    (hp : zipRow 0 parts.toList E = some vs) (hk : vs.length = k) (hg0 : Gat (l.map enc) (cellsOf vs) L1)
    (h : ∀ A c W', Sep M w0 W' (rowE A c e size enc l :: L) → K (put E o.dst (.slice A l.length c)) W') (hl : k = l.length) (hsz : ∀ x : α, (enc x).sz = size) (hvs : ∀ v ∈ vs, v.cells.toList.length = size) (hle : Nat.ble (k * size) 16777216 = true) (h0 : Nat.blt 0 size = true) (hg : o.guard = none) (hd : okD n o.dst = true) : OpW P n ops o E W K := by
  subst hl
  refine .runs (W' := W.alloc (.cells (cellsOf vs).toArray e)) (v := .slice (some ⟨W.heap.size, 0, none⟩) l.length l.length) (fun a ha => ?_) hg hd (h _ _ _ ?_)
  · have h1 := zipRow_spec ha hp
    have h2 : parts.map (fun p => (p.1, a.eval p.2)) = (partsFrom 0 vs).toArray := by rw [← h1]; apply Array.ext'; simp
    unfold execOp
    simp only [ho, Sem.run_bind]
    rw [show (parts.map fun (x : Nat × Operand) => match x with | (i, x) => (i, a.eval x)) = (partsFrom 0 vs).toArray from h2, run_buildSlice hu ht hk hvs (Nat.le_of_ble_eq_true hle)]
    rfl
  · have hlen := cellsOf_length hvs
    have hmax : l.length ≤ maxLen := by
      have h1 : 0 < size := by simpa [Nat.blt_eq] using h0
      have := Nat.le_of_ble_eq_true hle
      have h3 : l.length ≤ l.length * size := Nat.le_mul_of_pos_right _ h1
      simp only [maxLen]; omega
    have h5 := World.ownsRow_lit (base := 0) (e := e) (size := size) W (cellsOf vs).toArray l.length (Nat.zero_le _) hmax (by simp [hlen, hk])
    obtain ⟨S, hS1, hO, hrest⟩ := hS.own.split
    have hfr : Frame S W (W.alloc (.cells (cellsOf vs).toArray e)) := ⟨frame_alloc.os, frame_alloc.tape, frame_alloc.output, frame_alloc.size, fun b hb _ => frame_alloc.block b hb id⟩
    refine Sep.of_parts (L' := [rowE (some ⟨W.heap.size, 0, none⟩) l.length e size enc l]) hS.frame hS1 hrest hfr ⟨fun b => S b ∨ b = W.heap.size, fun b hb => hb.imp id fun hb => by subst hb; simp, ?_, trivial⟩
    refine ⟨_, _, rfl, ⟨by simpa using h5, fun g hg => .inr (by simp only [Value.ownBlock, Option.some.injEq] at hg; exact hg.symm)⟩, fun d hd => ?_, S, fun b hb => ⟨.inl hb, fun hv => ?_⟩, ?_⟩
    · obtain ⟨x, hx, rfl⟩ := List.mem_map.1 hd
      exact hsz x
    · simp only [Value.ownBlock, Option.some.injEq] at hv
      have := (hS1 b hb).2
      omega
    · exact D.owns_agree (hg0 W S hO) fun b hb => frame_alloc.block b (hS1 b hb).2 id

/-! ### Elements of what is only read -/
theorem rd_cells {T1 T2 : Nat → Prop} (h1 : Rd w T1 A c e size enc l) (h2 : Rd w T2 A c e size enc l) (hx : nth l i = Option.some x) :
    ∀ cs1 cs2, D.rd w (enc x) T1 cs1 → D.rd w (enc x) T2 cs2 → (∀ j u, cs1[j]? = Option.some u → w.cell? (elemA A (i.toNat * size + j)) = Option.some u) → (∀ j u, cs2[j]? = Option.some u → w.cell? (elemA A (i.toNat * size + j)) = Option.some u) → cs1.length = cs2.length → cs1 = cs2 := by
  intro cs1 cs2 _ _ h3 h4 hl
  apply List.ext_getElem?
  intro j
  rcases Nat.lt_or_ge j cs1.length with hj | hj
  · have e1 := h3 j _ (List.getElem?_eq_getElem hj)
    have e2 := h4 j _ (List.getElem?_eq_getElem (hl ▸ hj))
    rw [e1] at e2
    rw [List.getElem?_eq_getElem hj, List.getElem?_eq_getElem (hl ▸ hj)]
    exact e2
  · rw [List.getElem?_eq_none hj, List.getElem?_eq_none (hl ▸ hj)]
/-- An element's cells, wherever the row can be read. -/
theorem Rd.el2 (h : Rd w T A c e size enc l) (hx : nth l i = Option.some x) : ∃ cs, (∀ T', Rd w T' A c e size enc l → D.rds w [enc x] T' cs) ∧ ∀ W, Agree T w W → ∀ j u, cs[j]? = Option.some u → W.cell? (elemA A (i.toNat * size + j)) = Option.some u := by
  obtain ⟨cs, h1, h2, h3⟩ := h.el hx
  refine ⟨cs, fun T' hT' => ?_, h3⟩
  obtain ⟨cs', k1, k2, k3⟩ := hT'.el hx
  have := rd_cells h hT' hx cs cs' h1 k1 (h3 w (Agree.refl _ _)) (k3 w (Agree.refl _ _)) (by rw [h2, k2])
  subst this
  obtain ⟨A', cap, cc, e1, e2, e3, e4, e5, e6⟩ := h
  obtain ⟨_, _, hxi⟩ := nth_some hx
  exact ⟨cs, [], by simp, by rw [h2, e4 (enc x) (List.mem_map.2 ⟨x, List.mem_of_getElem? hxi, rfl⟩)], k1, rfl⟩
variable {Q : (Nat → Prop) → Prop}
theorem rrow {T0 : Nat → Prop} (q : Q T0) (h : ∀ T', Q T' → D.rds w (.row e size (l.map enc) :: ds) T' cs) : ∃ A c cs', cs = .slice A l.length c :: cs' ∧ (∀ T', Q T' → Rd w T' A c e size enc l) ∧ ∀ T', Q T' → D.rds w ds T' cs' := by
  obtain ⟨c1, c2, h1, h2, ⟨A, cap, cc, e1, e2⟩, h5⟩ := h T0 q
  rw [List.length_map] at e1
  subst e1
  refine ⟨A, cap, c2, by simpa using h1, fun T' hT' => ?_, fun T' hT' => ?_⟩
  all_goals
    obtain ⟨d1, d2, g1, g2, g3, g4⟩ := h T' hT'
    have hd : d1 = [.slice A l.length cap] ∧ d2 = c2 := by
      have hl : d1.length = 1 := by rw [g2]; rfl
      match d1, hl with
      | [y], _ =>
        rw [h1] at g1
        simp only [List.cons_append, List.nil_append, List.cons.injEq] at g1
        rw [g1.1, g1.2]
        exact ⟨rfl, rfl⟩
    obtain ⟨rfl, rfl⟩ := hd
  · exact g3
  · exact g4
theorem rflat {T0 : Nat → Prop} (q : Q T0) (hf : flat d = some c1) (h : ∀ T', Q T' → D.rds w (d :: ds) T' cs) : ∃ cs', cs = c1 ++ cs' ∧ ∀ T', Q T' → D.rds w ds T' cs' := by
  obtain ⟨d1, c2, h1, h2, h3, h5⟩ := h T0 q
  have := flat_rd hf h3
  subst this
  refine ⟨c2, h1, fun T' hT' => ?_⟩
  obtain ⟨d1, d2, g1, g2, g3, g4⟩ := h T' hT'
  have := flat_rd hf g3
  subst this
  rw [h1] at g1
  have := List.append_cancel_left g1
  subst this
  exact g4
theorem rds_app : ∀ {xs ys : List D} {T : Nat → Prop} {c1 c2 : List Value}, D.rds w xs T c1 → D.rds w ys T c2 → D.rds w (xs ++ ys) T (c1 ++ c2)
  | [], ys, T, c1, c2, h, h' => by
    have : c1 = [] := h
    subst this
    exact h'
  | x :: xs, ys, T, _, c2, ⟨d1, d2, h1, h2, h3, h4⟩, h' => ⟨d1, d2 ++ c2, by rw [h1, List.append_assoc], h2, h3, rds_app h4 h'⟩
theorem ragg (h : ∀ T', Q T' → D.rds w (.agg xs :: ds) T' cs) : ∀ T', Q T' → D.rds w (xs ++ ds) T' cs := fun T' hT' => by
  obtain ⟨d1, d2, g1, g2, g3, g4⟩ := h T' hT'
  subst g1
  exact rds_app g3 g4
theorem rnil {T0 : Nat → Prop} (q : Q T0) (h : ∀ T', Q T' → D.rds w [] T' cs) : cs = [] := h T0 q
/-- What a call lets one read can be read at the begin as well. -/
theorem Sep.was {cs : List Value} (h : Sep M w W L) (hr : D.rd W d (Old M w) cs) : D.rd w d (Old M w) cs := D.rd_agree hr fun b hb => (h.agree b hb).symm
theorem Sep.keepO {cs : List Value} (h : Sep M w W L) (hr : D.rd w d (Old M w) cs) : D.rd W d (Old M w) cs := D.rd_agree hr h.agree
end Go.Proofs.YtjpbdpfkhdekpaaGreatDoor.X
