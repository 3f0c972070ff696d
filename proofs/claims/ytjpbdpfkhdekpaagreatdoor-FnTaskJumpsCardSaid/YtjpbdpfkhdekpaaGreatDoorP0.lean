/- Plain laws of the natural functions' words: repetitions, numbers that do not wrap, what is marked and held. -/
import Derived.Test.YtjpbdpfkhdekpaaGreatDoorZ2
set_option linter.unusedVariables false
namespace Go.Proofs.YtjpbdpfkhdekpaaGreatDoor.X
variable {σ τ ρ ρ' α : Type}
theorem w64_eq (x : Int) : w64 x = if 9223372036854775808 ≤ x % 18446744073709551616 then x % 18446744073709551616 - 18446744073709551616 else x % 18446744073709551616 := by
  show IntKind.wrap .i64 x = _
  simp [IntKind.wrap, IntKind.signed, IntKind.bits]
theorem w64_id {x : Int} (h1 : -9223372036854775808 ≤ x) (h2 : x ≤ 9223372036854775807) : w64 x = x := by
  rw [w64_eq]
  split <;> omega
/-- A repetition whose states are known. -/
theorem iter_st {f : σ → Option (σ ⊕ ρ)} (st : Nat → σ) (n : Nat) {r : ρ} (h : ∀ i, i < n → f (st i) = some (.inl (st (i + 1)))) (he : f (st n) = some (.inr r)) : iter f (st 0) = some r := by
  have key : ∀ m, m ≤ n → iter f (st (n - m)) = some r := by
    intro m
    induction m with
    | zero => intro _; rw [iter_eq]; simp [he]
    | succ m ih =>
      intro hm
      rw [iter_eq, h (n - (m + 1)) (by omega)]
      have := ih (by omega)
      rw [show n - m = n - (m + 1) + 1 by omega] at this
      exact this
  have := key n (Nat.le_refl n)
  rwa [Nat.sub_self] at this
/-- A repetition that keeps something and comes nearer to its end. -/
theorem iter_inv {f : σ → Option (σ ⊕ ρ)} (I : σ → Prop) (μ : σ → Nat) (Q : ρ → Prop) (h : ∀ s, I s → (∃ s', f s = some (.inl s') ∧ I s' ∧ μ s' < μ s) ∨ (∃ r, f s = some (.inr r) ∧ Q r)) : ∀ {s : σ}, I s → ∃ r, iter f s = some r ∧ Q r := by
  have key : ∀ n s, μ s ≤ n → I s → ∃ r, iter f s = some r ∧ Q r := by
    intro n
    induction n with
    | zero =>
      intro s hs hI
      rcases h s hI with ⟨s', _, _, h3⟩ | ⟨r, h1, h2⟩
      · omega
      · exact ⟨r, by rw [iter_eq, h1], h2⟩
    | succ n ih =>
      intro s hs hI
      rcases h s hI with ⟨s', h1, h2, h3⟩ | ⟨r, h1, h2⟩
      · obtain ⟨r, k1, k2⟩ := ih s' (by omega) h2
        exact ⟨r, by rw [iter_eq, h1]; exact k1, k2⟩
      · exact ⟨r, by rw [iter_eq, h1], h2⟩
  exact fun {s} hI => key _ s (Nat.le_refl _) hI
/-- Two repetitions side by side. -/
theorem iter_sim {f : σ → Option (σ ⊕ ρ)} {g : τ → Option (τ ⊕ ρ')} (R : σ → τ → Prop) (μ : σ → Nat) (Q : ρ → ρ' → Prop)
    (h : ∀ s t, R s t → (∃ s' t', f s = some (.inl s') ∧ g t = some (.inl t') ∧ R s' t' ∧ μ s' < μ s) ∨ (∃ r r', f s = some (.inr r) ∧ g t = some (.inr r') ∧ Q r r')) : ∀ {s : σ} {t : τ}, R s t → ∃ r r', iter f s = some r ∧ iter g t = some r' ∧ Q r r' := by
  have key : ∀ n s t, μ s ≤ n → R s t → ∃ r r', iter f s = some r ∧ iter g t = some r' ∧ Q r r' := by
    intro n
    induction n with
    | zero =>
      intro s t hs hI
      rcases h s t hI with ⟨s', t', _, _, _, h3⟩ | ⟨r, r', h1, h2, h3⟩
      · omega
      · exact ⟨r, r', by rw [iter_eq, h1], by rw [iter_eq, h2], h3⟩
    | succ n ih =>
      intro s t hs hI
      rcases h s t hI with ⟨s', t', h1, h2, h3, h4⟩ | ⟨r, r', h1, h2, h3⟩
      · obtain ⟨r, r', k1, k2, k3⟩ := ih s' t' (by omega) h3
        exact ⟨r, r', by rw [iter_eq, h1]; exact k1, by rw [iter_eq, h2]; exact k2, k3⟩
      · exact ⟨r, r', by rw [iter_eq, h1], by rw [iter_eq, h2], h3⟩
  exact fun {s t} hI => key _ s t (Nat.le_refl _) hI
theorem nth_at {l : List α} {i : Nat} (h : i < l.length) : nth l (i : Int) = some l[i] := by
  unfold nth
  rw [if_neg (by omega)]
  simp [List.getElem?_eq_getElem h]
theorem upd_at {l : List α} {i : Nat} (h : i < l.length) (x : α) : upd l (i : Int) x = some (l.set i x) := by
  unfold upd
  rw [if_pos ⟨by omega, by omega⟩]
  simp
theorem app_ok {bytes : Nat} {l m : List α} (h : (l.length + m.length) * bytes ≤ 140737488355328) : app bytes l m = some (l ++ m) := by
  unfold app roomy
  rw [Nat.ble_eq_true_of_le h]
theorem mk_ok {bytes n : Nat} {z : α} (h : n * bytes ≤ 281474976710656) : mk bytes (n : Int) z = some (List.replicate n z) := by
  unfold mk
  rw [if_neg (by omega), show ((n : Int)).toNat = n by omega, Nat.ble_eq_true_of_le h]
theorem sel_true {α : Type} {b : Bool} (h : b = true) (x y : α) : sel b x y = x := by subst h; rfl
theorem sel_false {α : Type} {b : Bool} (h : b = false) (x y : α) : sel b x y = y := by subst h; rfl
theorem sel_to {α : Type} {b : Bool} {x y r : α} (h : b = false) (k : y = r) : sel b x y = r := by subst h; exact k
theorem w64_nat {i : Nat} (h : i ≤ 9223372036854775806) : w64 ((i : Int) + 1) = ((i + 1 : Nat) : Int) := by rw [w64_id (by omega) (by omega)]; omega
/-- Are two rows alike? -/
theorem eq_loop {f : Int → Option (Int ⊕ (Bool ⊕ Unit))} {l : List α} (hl : l.length ≤ 9223372036854775806) (h : ∀ (i : Nat) (hi : i < l.length), f (i : Int) = some (.inl (w64 ((i : Int) + 1)))) (he : f (l.length : Int) = some (.inr (.inr ()))) : iter f 0 = some (.inr ()) := by
  have := iter_st (f := f) (fun i => (i : Int)) l.length (fun i hi => by rw [h i hi, w64_nat (by omega)]) he
  exact this
/-- The marks of a row, one element behind the other. -/
def markL (mk : α → Int → Option (Int × α)) : List α → Int → Option (Int × List α)
  | [], k => some (k, [])
  | x :: xs, k => match mk x k with
    | some (k1, x') => match markL mk xs k1 with
      | some (k2, xs') => some (k2, x' :: xs')
      | none => none
    | none => none
theorem mark_loop {f : Int × Int × List α → Option ((Int × Int × List α) ⊕ (Int × List α))} (mk : α → Int → Option (Int × α))
    (h : ∀ k (l : List α) (i : Nat) (hi : i < l.length) k' x', mk l[i] k = some (k', x') → l.length ≤ 9223372036854775806 → f (k, (i : Int), l) = some (.inl (k', ((i + 1 : Nat) : Int), l.set i x')))
    (he : ∀ k (l : List α), f (k, (l.length : Int), l) = some (.inr (k, l))) : ∀ {l : List α} {k : Int} {r : Int × List α}, l.length ≤ 9223372036854775806 → markL mk l k = some r → iter f (k, 0, l) = some r := by
  have key : ∀ (l pre : List α) (k : Int) (r : Int × List α), (pre ++ l).length ≤ 9223372036854775806 → markL mk l k = some r → iter f (k, (pre.length : Int), pre ++ l) = some (r.1, pre ++ r.2) := by
    intro l
    induction l with
    | nil =>
      intro pre k r hl hm
      simp only [markL, Option.some.injEq] at hm
      subst hm
      rw [iter_eq, List.append_nil, he]
    | cons x xs ih =>
      intro pre k r hl hm
      simp only [markL] at hm
      split at hm
      · rename_i k1 x' h1
        split at hm
        · rename_i k2 xs' h2
          simp only [Option.some.injEq] at hm
          subst hm
          have hlt : pre.length < (pre ++ x :: xs).length := by simp
          have hg : (pre ++ x :: xs)[pre.length]'hlt = x := by simp
          rw [iter_eq, h k (pre ++ x :: xs) pre.length hlt k1 x' (by rw [hg]; exact h1) hl]
          have := ih (pre ++ [x']) k1 (k2, xs') (by simpa using hl) h2
          simp only [List.length_append, List.length_singleton, List.append_assoc, List.singleton_append] at this
          simp only
          rw [show (pre ++ x :: xs).set pre.length x' = pre ++ x' :: xs by simp]
          exact this
        · cases hm
      · cases hm
  intro l k r hl hm
  have := key l [] k r (by simpa using hl) hm
  simpa using this
/-- What is held, one element behind the other. -/
def HeldL (hd : α → Int → Int → Prop) : List α → Int → Int → Prop
  | [], k, k' => k' = k
  | x :: xs, k, k' => ∃ k1, hd x k k1 ∧ HeldL hd xs k1 k'
theorem held_loop {f : Int × Int → Option ((Int × Int) ⊕ (Int ⊕ Int))} {l : List α} (hd : α → Int → Int → Prop) (hl : l.length ≤ 9223372036854775806)
    (h : ∀ k (i : Nat) (hi : i < l.length) k', hd l[i] k k' → f (k, (i : Int)) = some (.inl (k', ((i + 1 : Nat) : Int)))) (he : ∀ k, f (k, (l.length : Int)) = some (.inr (.inr k))) : ∀ {k k' : Int}, HeldL hd l k k' → iter f (k, 0) = some (.inr k') := by
  have key : ∀ (xs pre : List α) (k k' : Int), pre ++ xs = l → HeldL hd xs k k' → iter f (k, (pre.length : Int)) = some (.inr k') := by
    intro xs
    induction xs with
    | nil =>
      intro pre k k' hp hh
      have : k' = k := hh
      subst this
      rw [List.append_nil] at hp
      subst hp
      rw [iter_eq, he]
    | cons x xs ih =>
      intro pre k k' hp ⟨k1, h1, h2⟩
      have hlt : pre.length < l.length := by rw [← hp]; simp
      have hg : l[pre.length]'hlt = x := by subst hp; simp
      rw [iter_eq, h k pre.length hlt k1 (by rw [hg]; exact h1)]
      have := ih (pre ++ [x]) k1 k' (by rw [← hp]; simp) h2
      simpa using this
  intro k k' hh
  exact key l [] k k' rfl hh
/-- Marking and holding agree: k numbers are used up. -/
def MH (mk : α → Int → Option (Int × α)) (hd : α → Int → Int → Prop) (sz : α → Nat) : Prop :=
  ∀ x (k : Int), 1 ≤ k → k + sz x ≤ 1000000000000 → ∃ x', mk x k = some (k + sz x, x') ∧ hd x' k (k + sz x)
def szs (sz : α → Nat) : List α → Nat
  | [] => 0
  | x :: xs => sz x + szs sz xs
theorem MH.list {mk : α → Int → Option (Int × α)} {hd : α → Int → Int → Prop} {sz : α → Nat} (h : MH mk hd sz) : ∀ (l : List α) (k : Int), 1 ≤ k → k + szs sz l ≤ 1000000000000 → ∃ l', markL mk l k = some (k + szs sz l, l') ∧ HeldL hd l' k (k + szs sz l) ∧ l'.length = l.length
  | [], k, _, _ => ⟨[], by simp [markL, szs], by simp [HeldL, szs], rfl⟩
  | x :: xs, k, h1, h2 => by
    simp only [szs] at h2
    obtain ⟨x', k1, k2⟩ := h x k h1 (by omega)
    obtain ⟨l', k3, k4, k5⟩ := MH.list h xs (k + sz x) (by omega) (by omega)
    refine ⟨x' :: l', ?_, ⟨_, k2, ?_⟩, by simp [k5]⟩
    · simp only [markL, k1, k3, szs]
      congr 2
      omega
    · rw [show k + (szs sz (x :: xs) : Nat) = k + sz x + szs sz xs by simp only [szs]; omega]
      exact k4
theorem szs_one : ∀ (l : List α), szs (fun _ => 1) l = l.length
  | [] => rfl
  | x :: xs => by simp only [szs, szs_one xs, List.length_cons]; omega
end Go.Proofs.YtjpbdpfkhdekpaaGreatDoor.X
