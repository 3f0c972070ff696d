/- Data of recursive types; functions that call themselves. -/
import Derived.Test.YtjpbdpfkhdekpaaGreatDoorZ4
set_option linter.unusedVariables false
set_option linter.unusedSimpArgs false
namespace Go.Proofs.YtjpbdpfkhdekpaaGreatDoor.X
variable {M : Nat → Prop} {w0 w W : World} {L : List Ent} {d : D} {ds xs : List D} {cs : List Value} {Q : (Nat → Prop) → Prop}
theorem raggE (e : d = .agg xs) (h : ∀ T', Q T' → D.rds w (d :: ds) T' cs) : ∀ T', Q T' → D.rds w (xs ++ ds) T' cs := by subst e; exact ragg h
theorem Sep.oaggE (h : Sep M w0 W (.dat (d :: ds) cs :: L)) (e : d = .agg xs) : Sep M w0 W (.dat (xs ++ ds) cs :: L) := by subst e; exact h.oagg
theorem Gat.aggE (e : d = .agg xs) (h : Gat (xs ++ ds) cs L) : Gat (d :: ds) cs L := by subst e; exact h.agg
variable {P : Program} {n : Nat} {ops : Array Oper} {E : Env} {K : Env → World → Prop}
/-- A piece of a region that tests, and turns what is owned. -/
theorem RG.chunkL {todo : List Oper} (m d : Nat) (c : Bool) (h1 : RG P n ops (todo.take m) E W (Ck d c E M w0 L)) (h2 : ∀ W', Sep M w0 W' L → RG P n ops (todo.drop m) ((d, .bool c) :: E) W' K) : RG P n ops todo E W K := by
  refine .cut m _ h1 fun E' W' ⟨k, e1, e2, e3, hS⟩ => ?_
  intro a Q ha hk
  refine h2 W' hS a Q (ha.sub fun i v hi => ?_) hk
  simp only [look] at hi
  cases hb : Nat.beq d i
  · rw [hb] at hi
    subst e1
    exact look_fresh e2 hi
  · rw [hb] at hi
    obtain rfl := Nat.eq_of_beq_eq_true hb
    injection hi with hi
    subst hi
    exact e3
/-- What never answers says nothing. -/
theorem no {α : Type} {r : α} {C : Prop} (h : (none : Option α) = some r) : C := by cases h
variable {e size bytes t : Nat} {α : Type} {enc : α → D} {l r : List α} {ag : Bool} {z : Option Value} {o : Oper} {v : Value}
theorem owns_take : ∀ {xs : List D} {S : Nat → Prop} {cs : List Value}, D.owns W xs S cs → (∀ x ∈ xs, x.sz = size) → ∀ k, D.owns W (xs.take k) S (cs.take (k * size))
  | [], _, _, h, _, k => by have : _ = [] := h; subst this; simp [D.owns]
  | x :: xs, _, _, h, _, 0 => by simp [D.owns]
  | x :: xs, S, _, ⟨S1, d1, d2, h1, h2, h3, h4, h5⟩, hs, k + 1 => by
    have hx := hs x (by simp)
    refine ⟨S1, d1, d2.take (k * size), ?_, h2, h3, h4, owns_take h5 (fun y hy => hs y (by simp [hy])) k⟩
    subst h1
    rw [List.take_append, List.take_of_length_le (by rw [h2, hx, Nat.add_mul]; omega), show (k + 1) * size - d1.length = k * size by rw [h2, hx, Nat.add_mul]; omega]
/-- A row of the call's own is cut at its end. -/
theorem Sep.cuto {h : Hd} {hi : Int} (hS : Sep M w0 W (rowV (sv h) e size enc l :: L)) (hc : cut l 0 hi = some r) : Sep M w0 W (rowV (sv (cutH h (0 : Int).toNat size r.length)) e size enc r :: L) := by
  obtain ⟨hrr, h0, h1, h2⟩ := cut_some hc
  obtain ⟨A, k, c⟩ := h
  obtain ⟨S, hS1, ⟨v1, cs, f1, ⟨⟨r1, r2⟩, b1⟩, s1, S2, p2, o2⟩, hrest⟩ := hS.own
  have hr : r = l.take hi.toNat := by rw [hrr]; simp
  have hrl : r.length = hi.toNat := by rw [hr, List.length_take]; omega
  simp only [List.cons.injEq, and_true] at f1
  subst f1
  simp only [List.length_map] at r1 r2
  have hmap : r.map enc = (l.map enc).take hi.toNat := by rw [hr, List.map_take]
  have hA : cutA A c 0 size = A := by
    unfold cutA
    split
    · rfl
    · rw [Nat.zero_mul]; cases A <;> simp [Addr.add]
  have hv : sv (cutH ⟨A, k, c⟩ (0 : Int).toNat size r.length) = .slice A r.length c := by simp [sv, cutH, hA]
  have hle : hi.toNat * size ≤ l.length * size := Nat.mul_le_mul_right _ (by omega)
  refine ⟨hS.frame, S, hS1, ⟨_, cs.take (hi.toNat * size), rfl, ⟨⟨?_, ?_⟩, fun g hg => ?_⟩, fun x hx => s1 x ?_, S2, fun b hb => ⟨(p2 b hb).1, ?_⟩, ?_⟩, hrest⟩
  · rw [List.length_take, List.length_map, r1, hrl]; omega
  · rw [hv, List.length_map]
    rcases r2 with ⟨h3, h4⟩ | ⟨g, cap, cur, h3, h4, h5, h6, h7, h8, h9⟩
    · simp only [sv, Value.slice.injEq] at h3
      obtain ⟨rfl, _, rfl⟩ := h3
      have : r.length = 0 := by omega
      exact .inl ⟨by rw [this], this⟩
    · simp only [sv, Value.slice.injEq] at h3
      obtain ⟨rfl, _, rfl⟩ := h3
      refine .inr ⟨g, c, cur, rfl, h4, h5, by omega, h7, h8, ?_⟩
      rw [← h9, List.take_take, hrl, Nat.min_eq_left hle]
  · rw [hv] at hg
    cases A with
    | none => simp [Value.ownBlock] at hg
    | some ad => exact b1 g hg
  · rw [hmap] at hx
    exact List.mem_of_mem_take hx
  · rw [hv]
    have := (p2 b hb).2
    cases A with
    | none => simp [Value.ownBlock]
    | some ad => exact this
  · rw [hmap]
    exact owns_take o2 s1 _
theorem OpW.cuto {h : Hd} {hi : Int} {p : Operand} {x y : Option Operand} (hc : cut l 0 hi = some r) (hS : Sep M w0 W (rowV (sv h) e size enc l :: L)) (hu : P.underlying t = some (.slice e)) (ht : tinfo P e = some (ag, z, size, bytes)) (ho : o.op = .slice t p x y none)
    (hp : ev E p = some (sv h)) (hx : evI E 0 x = some 0) (hy : evI E l.length y = some hi) (k : ∀ v : Hd, Sep M w0 W (rowV (sv v) e size enc r :: L) → K (put E o.dst (sv v)) W) (hg : o.guard = none) (hd : okD n o.dst = true) : OpW P n ops o E W K :=
  .runs (slv hc hS.lendv hu ht ho hp hx hy) hg hd (k _ (hS.cuto hc))
/-! ### nil: a row that isn't empty isn't nil -/
theorem Sep.nz {h : Hd} (hS : Sep M w0 W (rowV (sv h) e size enc l :: L)) (hne : l ≠ []) : nilV h = List.isEmpty l := by
  cases hb : nilV h
  · cases l <;> simp at hne ⊢
  · exact absurd (RV.isnil hS.lendv hb) hne
theorem app_ne {l2 : List α} (h : app bytes l l2 = some r) (h2 : l2 ≠ []) : r ≠ [] := by
  obtain ⟨rfl, _⟩ := app_some h
  simp [h2]
end Go.Proofs.YtjpbdpfkhdekpaaGreatDoor.X
