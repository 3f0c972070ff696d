/- Plain laws: what is drawn from bytes; words; quads; codes. -/
import Derived.Test.YtjpbdpfkhdekpaaGreatDoorT11
import Derived.Test.YtjpbdpfkhdekpaaGreatDoorP3
set_option linter.unusedVariables false
namespace Go.Proofs.YtjpbdpfkhdekpaaGreatDoor.N
open Go.Proofs.YtjpbdpfkhdekpaaGreatDoor.X
/-! ### Numbers -/
theorem in_eq (n a b : Int) : spec_l6In n a b = some (decide (a ≤ n) && decide (n ≤ b)) := rfl
def Wd (n : Int) : Prop := -2147483648 ≤ n ∧ n ≤ 2147483647
instance (n : Int) : Decidable (Wd n) := instDecidableAnd
theorem word_eq (n : Int) : spec_WordValid n = some (decide (Wd n)) := by
  unfold spec_WordValid
  rw [in_eq]
  simp only [Option.bind_some]
  congr 1
  unfold Wd
  by_cases h1 : -2147483648 ≤ n <;> by_cases h2 : n ≤ 2147483647 <;> simp [h1, h2]
theorem wrap_tot (n : Int) : Tot (spec_Wrap n) Wd := by
  unfold spec_Wrap
  have h1 : -4294967296 < n.tmod 4294967296 := by
    rcases Int.le_total 0 n with h | h
    · have := Int.tmod_nonneg 4294967296 h; omega
    · have := Int.tmod_nonneg 4294967296 (show 0 ≤ -n by omega); rw [Int.neg_tmod] at this
      have := Int.tmod_lt_of_pos (-n) (show (0 : Int) < 4294967296 by omega); rw [Int.neg_tmod] at this; omega
  have h2 := Int.tmod_lt_of_pos n (show (0 : Int) < 4294967296 by omega)
  refine .sel (fun h => .pure ?_) fun h => .sel (fun h' => .pure ?_) fun h' => .pure ?_
  all_goals simp only [decide_eq_true_eq, decide_eq_false_iff_not] at *
  · rw [w64_s (by omega) (by omega)]; unfold Wd; omega
  · rw [w64_s (by omega) (by omega)]; unfold Wd; omega
  · unfold Wd; omega
/-! ### Bytes -/
/-- Bytes, not too many. -/
def By (b : List Int) : Prop := b.length ≤ 2000 ∧ ∀ x ∈ b, 0 ≤ x ∧ x ≤ 255
/-- Something is drawn: it answers, it goes on at most to m. -/
def Dr {α : Type} (x : Option (α × Int)) (m : Int) (Q : α → Prop) : Prop := Tot x fun r => 0 ≤ r.2 ∧ r.2 ≤ m ∧ Q r.1
theorem xor_nonneg {a c : Nat} (ha : a < 9223372036854775808) (hc : c < 9223372036854775808) : bitsI .xor .i64 (a : Int) (c : Int) = ((a ^^^ c : Nat) : Int) := by
  have h1 : ∀ n : Nat, n < 9223372036854775808 → (BitVec.ofInt 64 (n : Int)).toNat = n := fun n hn => by
    simp only [BitVec.ofInt_natCast, BitVec.toNat_ofNat]
    exact Nat.mod_eq_of_lt (by omega)
  show IntKind.wrap .i64 ((BitVec.ofInt 64 (a : Int) ^^^ BitVec.ofInt 64 (c : Int)).toNat : Int) = _
  rw [BitVec.toNat_xor, h1 a ha, h1 c hc]
  have := Nat.xor_lt_two_pow (n := 63) ha hc
  exact w64_id (x := ((a ^^^ c : Nat) : Int)) (by omega) (by omega)
theorem pick_tot {b : List Int} {p n : Int} (hb : By b) (h0 : 0 ≤ p) (hp : p ≤ 1000000000) (hn : 1 ≤ n) (hn' : n ≤ 1000000) : Tot (spec_l6Rd_pick ⟨b, p⟩ n) fun r => r.2 = p + 1 ∧ 0 ≤ r.1 ∧ r.1 < n := by
  obtain ⟨hl, hx⟩ := hb
  have e1 : w64 (p + 1) = p + 1 := w64_s (by omega) (by omega)
  have e2 : w64 (p + 1 - 1) = p := by rw [w64_s (by omega) (by omega)]; omega
  unfold spec_l6Rd_pick
  simp only [e1, e2]
  refine .sel (fun _ => .pure ⟨rfl, by omega, by omega⟩) fun hh => ?_
  simp only [Bool.or_eq_false_iff, decide_eq_false_iff_not, beq_eq_false_iff_ne] at hh
  have hl0 : 0 < (b.length : Int) := by omega
  refine .sel (fun h => ?_) fun h => ?_
  · simp only [decide_eq_true_eq] at h
    refine .bind (.nth h0 h) fun x ⟨_, hm⟩ => ?_
    have := hx x hm
    refine .bind (.rem (by omega)) fun d hd => .pure ⟨rfl, ?_, ?_⟩
    all_goals (rw [w64_s (by omega) (by omega)] at hd; subst hd)
    · exact Int.tmod_nonneg _ (by omega)
    · exact Int.tmod_lt_of_pos _ (by omega)
  · refine .bind (.rem (by omega)) fun d hd => ?_
    have hd1 : 0 ≤ d ∧ d < b.length := by subst hd; exact ⟨Int.tmod_nonneg _ h0, Int.tmod_lt_of_pos _ hl0⟩
    refine .bind (.nth hd1.1 hd1.2) fun x ⟨_, hm⟩ => ?_
    have hx1 := hx x hm
    refine .bind (.rem (by omega)) fun d' hd' => ?_
    have e3 : w64 (w64 (p * 7) + 3) = p * 7 + 3 := by rw [w64_s (i := p * 7) (by omega) (by omega), w64_s (by omega) (by omega)]
    have hd2 : 0 ≤ d' ∧ d' < b.length := by rw [e3] at hd'; subst hd'; exact ⟨Int.tmod_nonneg _ (by omega), Int.tmod_lt_of_pos _ hl0⟩
    refine .bind (.nth hd2.1 hd2.2) fun x' ⟨_, hm'⟩ => ?_
    have hx2 := hx x' hm'
    refine .bind (.quo (by omega)) fun q hq => ?_
    have hq1 : 0 ≤ q ∧ q ≤ p := by
      have h1 : 0 ≤ p.tdiv b.length := Int.tdiv_nonneg h0 (by omega)
      have h2 : p.tdiv b.length ≤ p := by
        obtain ⟨k, rfl⟩ := Int.eq_ofNat_of_zero_le h0
        exact Int.ofNat_le.2 (Nat.div_le_self k b.length)
      have : q = w64 (p.tdiv b.length) := hq
      rw [w64_s (by omega) (by omega)] at this
      omega
    have hv : ∃ m : Nat, w64 (w64 (w64 (w64 (w64 x * 131) + w64 (w64 x' * 1117)) + w64 (p * 29)) + w64 (q * 53)) = (m : Int) ∧ m < 1000000000000 := by
      rw [w64_s (i := x) (by omega) (by omega), w64_s (i := x') (by omega) (by omega), w64_s (i := x * 131) (by omega) (by omega), w64_s (i := x' * 1117) (by omega) (by omega), w64_s (i := p * 29) (by omega) (by omega), w64_s (i := q * 53) (by omega) (by omega),
        w64_s (i := x * 131 + x' * 1117) (by omega) (by omega), w64_s (i := x * 131 + x' * 1117 + p * 29) (by omega) (by omega), w64_s (i := x * 131 + x' * 1117 + p * 29 + q * 53) (by omega) (by omega)]
      exact ⟨(x * 131 + x' * 1117 + p * 29 + q * 53).toNat, by omega, by omega⟩
    obtain ⟨m, hm1, hm2⟩ := hv
    rw [hm1]
    have hdiv : w64 (Int.tdiv (m : Int) 64) = ((m / 64 : Nat) : Int) := by
      rw [show Int.tdiv (m : Int) 64 = ((m / 64 : Nat) : Int) from rfl]
      exact w64_s (by omega) (by omega)
    rw [hdiv, xor_nonneg (by omega) (by omega)]
    refine .bind (.rem (by omega)) fun d2 hd2 => .pure ⟨rfl, ?_, ?_⟩
    all_goals subst hd2
    · exact Int.tmod_nonneg _ (by omega)
    · exact Int.tmod_lt_of_pos _ (by omega)
theorem pick_dr {b : List Int} {p m n : Int} (hb : By b) (h0 : 0 ≤ p) (hm : p ≤ m) (hp : m ≤ 1000000000) (hn : 1 ≤ n) (hn' : n ≤ 1000000) : Dr (spec_l6Rd_pick ⟨b, p⟩ n) (m + 1) fun x => 0 ≤ x ∧ x < n :=
  (pick_tot hb h0 (by omega) hn hn').mono fun r h => ⟨by omega, by omega, h.2⟩
theorem Dr.bind {α β : Type} {x : Option (α × Int)} {f : α × Int → Option (β × Int)} {m m' : Int} {P : α → Prop} {Q : β → Prop} (h : Dr x m P) (k : ∀ a p, P a → 0 ≤ p → p ≤ m → Dr (f (a, p)) m' Q) : Dr (x.bind f) m' Q :=
  Tot.bind h fun r hr => k r.1 r.2 hr.2.2 hr.1 hr.2.1
theorem Dr.mono {α : Type} {x : Option (α × Int)} {m m' : Int} {P Q : α → Prop} (h : Dr x m P) (hm : m ≤ m') (k : ∀ a, P a → Q a) : Dr x m' Q := Tot.mono h fun r hr => ⟨hr.1, by omega, k _ hr.2.2⟩
theorem Dr.pure {α : Type} {m : Int} {Q : α → Prop} {a : α} {p : Int} (h : Q a) (h0 : 0 ≤ p) (hm : p ≤ m) : Dr (some (a, p)) m Q := Tot.pure ⟨h0, hm, h⟩
theorem Dr.sel {α : Type} {m : Int} {c : Bool} {x y : Option (α × Int)} {Q : α → Prop} (ht : c = true → Dr x m Q) (hf : c = false → Dr y m Q) : Dr (X.sel c x y) m Q := Tot.sel ht hf
theorem Dr.both {α A B : Type} {m : Int} {s : A ⊕ B} {f : A → Option (α × Int)} {g : B → Option (α × Int)} {Q : α → Prop} (hl : ∀ a, s = .inl a → Dr (f a) m Q) (hr : ∀ a, s = .inr a → Dr (g a) m Q) : Dr (X.both s f g) m Q := Tot.both hl hr
theorem Dr.tot {α β : Type} {m : Int} {x : Option β} {f : β → Option (α × Int)} {P : β → Prop} {Q : α → Prop} (h : Tot x P) (k : ∀ r, P r → Dr (f r) m Q) : Dr (x.bind f) m Q := Tot.bind h k
theorem open_tot {code : List Int} (h : ∀ x ∈ code, 0 ≤ x ∧ x ≤ 255) : Tot (spec_l6Open code) fun r => By r.b ∧ r.p = 0 := by
  unfold spec_l6Open
  refine .bind (P := fun l => l.length ≤ 2000 ∧ ∀ x ∈ l, 0 ≤ x ∧ x ≤ 255) (.sel (fun hh => ?_) fun hh => .pure ⟨?_, h⟩) fun l hl => .pure ⟨hl, rfl⟩
  · simp only [decide_eq_true_eq] at hh
    refine .bind (.cut (by omega)) fun r hr => .pure ?_
    subst hr
    refine ⟨by simp; omega, fun x hx => h x ?_⟩
    exact List.mem_of_mem_take (List.mem_of_mem_drop hx)
  · simp only [decide_eq_false_iff_not] at hh; omega
/-! ### Quads -/
def Rg (r : Int) : Prop := 0 ≤ r ∧ r ≤ 11
instance (r : Int) : Decidable (Rg r) := instDecidableAnd
/-- A quad is valid in a code of m. -/
def QOk (m : Int) (q : Quad) : Prop :=
  (q.Op = 1 ∧ Rg q.Dst ∧ q.A = 0 ∧ q.B = 0 ∧ Wd q.N) ∨ (q.Op = 2 ∧ Rg q.Dst ∧ Rg q.A ∧ q.B = 0 ∧ q.N = 0) ∨ (q.Op = 3 ∧ Rg q.Dst ∧ Rg q.A ∧ Rg q.B ∧ 1 ≤ q.N ∧ q.N ≤ 12) ∨
  (q.Op = 4 ∧ q.Dst = 0 ∧ q.A = 0 ∧ q.B = 0 ∧ 0 ≤ q.N ∧ q.N < m) ∨ (q.Op = 5 ∧ q.Dst = 0 ∧ Rg q.A ∧ q.B = 0 ∧ 0 ≤ q.N ∧ q.N < m) ∨
  (q.Op = 6 ∧ q.Dst = 0 ∧ Rg q.A ∧ q.B = 0 ∧ 0 ≤ q.N ∧ q.N ≤ 2) ∨ (q.Op = 7 ∧ Rg q.Dst ∧ q.A = 0 ∧ q.B = 0 ∧ 0 ≤ q.N ∧ q.N ≤ 2) ∨
  (q.Op = 9 ∧ q.Dst = 0 ∧ Rg q.A ∧ q.B = 0 ∧ q.N = 0) ∨ ((q.Op = 8 ∨ q.Op = 10) ∧ q.Dst = 0 ∧ q.A = 0 ∧ q.B = 0 ∧ q.N = 0)
instance (m : Int) (q : Quad) : Decidable (QOk m q) := by unfold QOk; infer_instance
theorem reg_eq (x : Int) (u : Bool) : spec_l21Reg x u = some (if u then decide (Rg x) else x == 0) := by
  unfold spec_l21Reg
  cases u
  · rfl
  · simp only [in_eq, sel, Option.bind_some, if_true]
    congr 1
    unfold Rg
    by_cases h1 : 0 ≤ x <;> by_cases h2 : x ≤ 11 <;> simp [h1, h2]
theorem regs_eq (q : Quad) (u v w : Bool) : spec_l21Regs q u v w = some ((if u then decide (Rg q.Dst) else q.Dst == 0) && ((if v then decide (Rg q.A) else q.A == 0) && (if w then decide (Rg q.B) else q.B == 0))) := by
  unfold spec_l21Regs
  simp only [reg_eq, Option.bind_some]
  cases h1 : (if u then decide (Rg q.Dst) else q.Dst == 0) <;> cases h2 : (if v then decide (Rg q.A) else q.A == 0) <;> simp [sel]
theorem opvalid_eq (n : Int) : spec_OpValid n = some (decide (1 ≤ n ∧ n ≤ 12)) := by
  unfold spec_OpValid
  rw [in_eq]
  simp only [Option.bind_some]
  congr 1
  by_cases h1 : 1 ≤ n <;> by_cases h2 : n ≤ 12 <;> simp [h1, h2]
theorem sel_and (b v : Bool) : sel b (some v) (some false) = some (b && v) := by cases b <;> rfl
theorem sel_or (b v : Bool) : sel b (some b) (some v) = some (b || v) := by cases b <;> rfl
theorem quad_eq (q : Quad) (m : Int) : spec_QuadValid q m = some (decide (QOk m q)) := by
  refine Tot.eq ?_
  unfold spec_QuadValid
  simp only [regs_eq, word_eq, opvalid_eq, in_eq, Option.bind_some, sel_and, sel_or]
  have key : ∀ b : Bool, (b = true ↔ QOk m q) → Tot (some b) (fun z => z = decide (QOk m q)) := fun b h => .pure (by
    cases b
    · exact (decide_eq_false fun hq => by simpa using h.2 hq).symm
    · exact (decide_eq_true (h.1 rfl)).symm)
  refine .sel (fun h => key _ ?_) fun h1 => .sel (fun h => key _ ?_) fun h2 => .sel (fun h => key _ ?_) fun h3 => .sel (fun h => key _ ?_) fun h4 => .sel (fun h => key _ ?_) fun h5 => .sel (fun h => key _ ?_) fun h6 => .sel (fun h => key _ ?_) fun h7 => .sel (fun h => key _ ?_) fun h8 => key _ ?_
  all_goals
    simp only [beq_iff_eq, beq_eq_false_iff_ne, Bool.or_eq_true, Bool.or_eq_false_iff, ne_eq] at *
    simp [QOk, *, and_assoc]
/-! ### Codes -/
def lastOk (code : List Quad) : Prop := ∃ q, code.getLast? = some q ∧ (q.Op = 10 ∨ q.Op = 4)
/-- A code is valid. -/
structure COk (code : List Quad) : Prop where
  one : 1 ≤ code.length
  max : code.length ≤ 600
  q : ∀ q ∈ code, QOk code.length q
  last : lastOk code
theorem codevalid_tot (code : List Quad) (hl : code.length ≤ 4611686018427387904) : Tot (spec_CodeValid code) fun b => b = true ↔ COk code := by
  unfold spec_CodeValid
  simp only [in_eq, Option.bind_some]
  refine .sel (fun h => .pure ?_) fun h => ?_
  · simp only [Bool.not_eq_true', Bool.and_eq_false_iff, decide_eq_false_iff_not] at h
    exact ⟨fun h => by simp at h, fun hc => by have := hc.one; have := hc.max; omega⟩
  simp only [Bool.not_eq_false', Bool.and_eq_true, decide_eq_true_eq] at h
  refine .bind (P := fun z => match z with | .inl b => b = false ∧ ¬ COk code | .inr _ => ∀ q ∈ code, QOk code.length q) (.iter (fun i : Int => 0 ≤ i ∧ i ≤ code.length ∧ ∀ (j : Nat) (q : Quad), (j : Int) < i → code[j]? = some q → QOk code.length q) (fun i => (code.length - i).toNat) ⟨by omega, by omega, fun j q h => by omega⟩ fun i ⟨h0, h1, h2⟩ => ?_) fun z hz => ?_
  · unfold spec_CodeValid_b1
    refine .sel (fun h => ?_) fun h => .inr ?_
    · simp only [decide_eq_true_eq] at h
      refine .bind (.nth h0 h) fun q ⟨hq, hm⟩ => ?_
      rw [quad_eq, Option.bind_some]
      refine .sel (fun hv => .inr ⟨rfl, fun hc => ?_⟩) fun hv => .inl ?_
      · simp only [Bool.not_eq_true', decide_eq_false_iff_not] at hv
        exact hv (hc.q q hm)
      · simp only [Bool.not_eq_false', decide_eq_true_eq] at hv
        rw [w64_up h0 (by omega)]
        refine ⟨⟨by omega, by omega, fun j q' hj hq' => ?_⟩, by omega⟩
        by_cases e : (j : Int) = i
        · have : j = i.toNat := by omega
          subst this
          rw [hq] at hq'
          injection hq' with hq'
          exact hq' ▸ hv
        · exact h2 j q' (by omega) hq'
    · simp only [decide_eq_false_iff_not] at h
      intro q hq
      obtain ⟨j, hj, rfl⟩ := List.getElem_of_mem hq
      exact h2 j _ (by omega) (List.getElem?_eq_getElem hj)
  · refine .both (fun b e => ?_) fun _ e => ?_
    · subst e
      exact .pure ⟨fun h => by rw [hz.1] at h; simp at h, fun h => absurd h hz.2⟩
    · subst e
      have hq : ∀ q ∈ code, QOk code.length q := hz
      rw [w64_s (by omega) (by omega)]
      refine .bind (.nth (by omega) (by omega)) fun x ⟨hx, _⟩ => ?_
      have hgl : code.getLast? = some x := by rw [List.getLast?_eq_getElem?]; rw [← hx]; congr 1; omega
      have hlast : lastOk code ↔ (x.Op = 10 ∨ x.Op = 4) := ⟨fun ⟨y, h1, h2⟩ => by rw [hgl] at h1; injection h1 with h1; exact h1 ▸ h2, fun h => ⟨x, hgl, h⟩⟩
      refine .bind (P := fun b => b = true ↔ (x.Op = 10 ∨ x.Op = 4)) (.sel (fun h => .pure ?_) fun h => .bind (.nth (by omega) (by omega)) fun y ⟨hy, _⟩ => .pure ?_) fun b hb => .pure ⟨fun h => ⟨by omega, by omega, hq, hlast.2 (hb.1 h)⟩, fun hc => hb.2 (hlast.1 hc.last)⟩
      · simp only [beq_iff_eq] at h; simp [h]
      · rw [hx] at hy
        injection hy with hy
        subst hy
        simp only [beq_eq_false_iff_ne, ne_eq] at h
        simp [h]
theorem codevalid_true {code : List Quad} (h : COk code) : spec_CodeValid code = some true := by
  obtain ⟨b, e, hb⟩ := codevalid_tot code (by have := h.max; omega)
  rw [e, hb.2 h]
theorem codevalid_false {code : List Quad} (hl : code.length ≤ 4611686018427387904) (h : ¬ COk code) : spec_CodeValid code = some false := by
  obtain ⟨b, e, hb⟩ := codevalid_tot code hl
  cases b
  · exact e
  · exact absurd (hb.1 rfl) h
/-- What follows a quad in a valid code. -/
theorem COk.nxt {code : List Quad} (h : COk code) {i : Nat} {q : Quad} (hi : code[i]? = some q) (h1 : q.Op ≠ 10) (h2 : q.Op ≠ 4) : i + 1 < code.length := by
  obtain ⟨x, hx, hx'⟩ := h.last
  have hlt : i < code.length := by
    rcases Nat.lt_or_ge i code.length with h | h
    · exact h
    · rw [List.getElem?_eq_none h] at hi; cases hi
  rcases Nat.lt_or_ge (i + 1) code.length with h3 | h3
  · exact h3
  · rw [List.getLast?_eq_getElem?, show code.length - 1 = i by omega, hi] at hx
    injection hx with hx
    subst hx
    rcases hx' with h | h
    · exact absurd h h1
    · exact absurd h h2
theorem next_tot {code : List Quad} (h : COk code) {i : Int} (h0 : 0 ≤ i) (h1 : i < code.length) : Tot (spec_l31Next code i) fun l => l.length ≤ 2 ∧ ∀ x ∈ l, 0 ≤ x ∧ x < code.length := by
  unfold spec_l31Next
  refine .bind (.nth h0 h1) fun q ⟨hq, hm⟩ => ?_
  have hv := h.q q hm
  have hlen := h.max
  have h2 : q.Op ≠ 10 → q.Op ≠ 4 → i + 1 < code.length := fun ha hb => by have := h.nxt hq ha hb; omega
  rw [w64_up h0 (by omega)]
  refine .sel (fun h => .pure (by simp)) fun e1 => .sel (fun h => .pure ?_) fun e2 => ?_
  · simp only [beq_iff_eq] at h
    simp only [List.length_singleton, List.mem_singleton, forall_eq]
    unfold QOk at hv
    omega
  simp only [beq_eq_false_iff_ne, ne_eq] at e1 e2
  have h3 := h2 e1 e2
  refine .sel (fun h => .pure ?_) fun _ => .sel (fun h => .pure ?_) fun _ => .pure (by simp; omega)
  all_goals
    simp only [Bool.and_eq_true, beq_iff_eq, decide_eq_true_eq] at h
    simp only [List.length_cons, List.length_nil, List.mem_cons, List.not_mem_nil, or_false, forall_eq_or_imp, forall_eq]
    unfold QOk at hv
    omega
end Go.Proofs.YtjpbdpfkhdekpaaGreatDoor.N
