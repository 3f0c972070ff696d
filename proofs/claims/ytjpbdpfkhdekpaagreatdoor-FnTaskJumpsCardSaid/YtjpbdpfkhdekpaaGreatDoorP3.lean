/- Plain laws: what natural functions answer, rule by rule. -/
import Derived.Test.YtjpbdpfkhdekpaaGreatDoorP0
import Derived.Test.YtjpbdpfkhdekpaaGreatDoorZ3
set_option linter.unusedVariables false
namespace Go.Proofs.YtjpbdpfkhdekpaaGreatDoor.X
variable {α β σ ρ : Type} {Q : α → Prop} {x y : Option α} {b : Bool} {l m : List α} {i : Int}
/-- It answers, and what it answers is such. -/
def Tot (x : Option α) (Q : α → Prop) : Prop := ∃ r, x = some r ∧ Q r
theorem Tot.pure {r : α} (h : Q r) : Tot (some r) Q := ⟨r, rfl, h⟩
theorem Tot.bind {x : Option β} {f : β → Option α} {P : β → Prop} (h : Tot x P) (k : ∀ r, P r → Tot (f r) Q) : Tot (x.bind f) Q := by
  obtain ⟨r, rfl, hr⟩ := h
  exact k r hr
theorem Tot.mono {P : α → Prop} (h : Tot x P) (k : ∀ r, P r → Q r) : Tot x Q := by
  obtain ⟨r, e, hr⟩ := h
  exact ⟨r, e, k r hr⟩
theorem Tot.sel (ht : b = true → Tot x Q) (hf : b = false → Tot y Q) : Tot (X.sel b x y) Q := by
  cases b
  · exact hf rfl
  · exact ht rfl
theorem Tot.st (h : b = true) (k : Tot x Q) : Tot (X.sel b x y) Q := by subst h; exact k
theorem Tot.sf (h : b = false) (k : Tot y Q) : Tot (X.sel b x y) Q := by subst h; exact k
theorem Tot.both {A B : Type} {s : A ⊕ B} {f : A → Option α} {g : B → Option α} (hl : ∀ a, s = .inl a → Tot (f a) Q) (hr : ∀ a, s = .inr a → Tot (g a) Q) : Tot (X.both s f g) Q := by
  cases s
  · exact hl _ rfl
  · exact hr _ rfl
theorem Tot.eq {r : α} (h : Tot x (fun z => z = r)) : x = some r := by
  obtain ⟨z, e, rfl⟩ := h
  exact e
theorem Tot.of {r : α} (h : x = some r) (k : Q r) : Tot x Q := ⟨r, h, k⟩
theorem Tot.nth (h0 : 0 ≤ i) (h1 : i < l.length) : Tot (X.nth l i) (fun z => l[i.toNat]? = some z ∧ z ∈ l) := by
  have h2 : i.toNat < l.length := by omega
  refine ⟨l[i.toNat], ?_, List.getElem?_eq_getElem h2, List.getElem_mem h2⟩
  unfold X.nth
  rw [if_neg (by omega), List.getElem?_eq_getElem h2]
theorem Tot.upd {z : α} (h0 : 0 ≤ i) (h1 : i < l.length) : Tot (X.upd l i z) (fun r => r = l.set i.toNat z) := by
  refine ⟨_, ?_, rfl⟩
  unfold X.upd
  rw [if_pos ⟨h0, h1⟩]
theorem Tot.app {bytes : Nat} (h : (l.length + m.length) * bytes ≤ 140737488355328) : Tot (X.app bytes l m) (fun r => r = l ++ m) := ⟨_, app_ok h, rfl⟩
theorem Tot.mk {bytes : Nat} {n : Int} {z : α} (h0 : 0 ≤ n) (h : n.toNat * bytes ≤ 281474976710656) : Tot (X.mk bytes n z) (fun r => r = List.replicate n.toNat z) := by
  refine ⟨_, ?_, rfl⟩
  unfold X.mk
  rw [if_neg (by omega), Nat.ble_eq_true_of_le h]
theorem Tot.cut {lo hi : Int} (h : 0 ≤ lo ∧ lo ≤ hi ∧ hi ≤ l.length) : Tot (X.cut l lo hi) (fun r => r = (l.take hi.toNat).drop lo.toNat) := by
  refine ⟨_, ?_, rfl⟩
  unfold X.cut
  rw [if_pos h]
theorem Tot.rem {a c : Int} (h : c ≠ 0) : Tot (remO a c) (fun r => r = a.tmod c) := ⟨_, by unfold remO; rw [if_neg h], rfl⟩
theorem Tot.quo {k : IntKind} {a c : Int} (h : c ≠ 0) : Tot (quoO k a c) (fun r => r = kwrap k (a.tdiv c)) := ⟨_, by unfold quoO; rw [if_neg h], rfl⟩
/-- A repetition that keeps something and comes nearer to its end. -/
theorem Tot.iter {f : σ → Option (σ ⊕ α)} (I : σ → Prop) (μ : σ → Nat) {s : σ} (h0 : I s)
    (h : ∀ s, I s → Tot (f s) (fun z => match z with | .inl s' => I s' ∧ μ s' < μ s | .inr r => Q r)) : Tot (X.iter f s) Q := by
  obtain ⟨r, h1, h2⟩ := iter_inv I μ Q (fun s hs => by
    obtain ⟨z, e, hz⟩ := h s hs
    cases z with
    | inl s' => exact .inl ⟨s', e, hz.1, hz.2⟩
    | inr r => exact .inr ⟨r, e, hz⟩) h0
  exact ⟨r, h1, h2⟩
theorem Tot.inl {ρ : Type} {r : σ} {P : σ ⊕ ρ → Prop} (h : P (.inl r)) : Tot (some (.inl r)) P := ⟨_, rfl, h⟩
theorem Tot.inr {ρ : Type} {r : ρ} {P : σ ⊕ ρ → Prop} (h : P (.inr r)) : Tot (some (.inr r)) P := ⟨_, rfl, h⟩
theorem Tot.and {P : α → Prop} (h : Tot x P) (k : Tot x Q) : Tot x (fun r => P r ∧ Q r) := by
  obtain ⟨r, rfl, hr⟩ := h
  obtain ⟨r', e, hr'⟩ := k
  injection e with e
  subst e
  exact ⟨r, rfl, hr, hr'⟩
/-- A counter that goes up. -/
theorem w64_up {i : Int} (h0 : 0 ≤ i) (h : i ≤ 9223372036854775806) : w64 (i + 1) = i + 1 := w64_id (by omega) (by omega)
theorem w64_s {i : Int} (h0 : -4611686018427387904 ≤ i) (h : i ≤ 4611686018427387904) : w64 i = i := w64_id (by omega) (by omega)
theorem mem_set {a z : α} {k : Nat} (h : a ∈ l.set k z) : a ∈ l ∨ a = z := List.mem_or_eq_of_mem_set h
end Go.Proofs.YtjpbdpfkhdekpaaGreatDoor.X
