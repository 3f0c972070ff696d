/- Plain laws: the program's codes are valid as the reference's are; numbers' bits; the instructions of a quad. -/
import Derived.Test.YtjpbdpfkhdekpaaGreatDoorU7
import Derived.Test.YtjpbdpfkhdekpaaGreatDoorPq
set_option linter.unusedVariables false
namespace Go.Proofs.YtjpbdpfkhdekpaaGreatDoor.N
open Go.Proofs.YtjpbdpfkhdekpaaGreatDoor.X
/-! ### The program's words -/
theorem iword_eq (n : Int) : impl_WordValid n = some (decide (Wd n)) := by
  unfold impl_WordValid
  congr 1
  unfold Wd
  by_cases h1 : -2147483648 ≤ n <;> by_cases h2 : n ≤ 2147483647 <;> simp [h1, h2]
theorem ireg_eq (n : Int) : impl_isReg n = some (decide (Rg n)) := by
  unfold impl_isReg
  congr 1
  unfold Rg
  by_cases h1 : 0 ≤ n <;> by_cases h2 : n ≤ 11 <;> simp [h1, h2] <;> omega
theorem iop_eq (n : Int) : impl_OpValid n = some (decide (1 ≤ n ∧ n ≤ 12)) := by
  unfold impl_OpValid
  congr 1
  by_cases h1 : 1 ≤ n <;> by_cases h2 : n ≤ 12 <;> simp [h1, h2]
theorem iquad_eq (q : Quad) (m : Int) : impl_QuadValid q m = some (decide (QOk m q)) := by
  refine Tot.eq ?_
  unfold impl_QuadValid
  simp only [ireg_eq, iword_eq, iop_eq, Option.bind_some, sel_and, sel_or]
  have key : ∀ b : Bool, (b = true ↔ QOk m q) → Tot (some b) (fun z => z = decide (QOk m q)) := fun b h => .pure (by
    cases b
    · exact (decide_eq_false fun hq => by simpa using h.2 hq).symm
    · exact (decide_eq_true (h.1 rfl)).symm)
  have e3 : (q.N < 3) = (q.N ≤ 2) := propext ⟨fun h => by omega, fun h => by omega⟩
  refine .sel (fun h => key _ ?_) fun h1 => .sel (fun h => key _ ?_) fun h2 => .sel (fun h => key _ ?_) fun h3 => .sel (fun h => key _ ?_) fun h4 => .sel (fun h => key _ ?_) fun h5 => .sel (fun h => key _ ?_) fun h6 => .sel (fun h => key _ ?_) fun h7 => .sel (fun h => key _ ?_) fun h8 => key _ ?_
  all_goals try simp only [beq_iff_eq, beq_eq_false_iff_ne, Bool.or_eq_true, Bool.or_eq_false_iff, ne_eq] at *
  all_goals try (simp [QOk, *, and_assoc, and_comm, and_left_comm]; done)
theorem icodevalid_tot (code : List Quad) (hl : code.length ≤ 4611686018427387904) : Tot (impl_CodeValid code) fun b => b = true ↔ COk code := by
  unfold impl_CodeValid
  refine .sel (fun h => .pure ?_) fun h => ?_
  · simp only [Bool.or_eq_true, decide_eq_true_eq] at h
    exact ⟨fun h => by simp at h, fun hc => by have := hc.one; have := hc.max; omega⟩
  simp only [Bool.or_eq_false_iff, decide_eq_false_iff_not] at h
  refine .bind (P := fun z => match z with | .inl b => b = false ∧ ¬ COk code | .inr _ => ∀ q ∈ code, QOk code.length q) (.iter (fun i : Int => 0 ≤ i ∧ i ≤ code.length ∧ ∀ (j : Nat) (q : Quad), (j : Int) < i → code[j]? = some q → QOk code.length q) (fun i => (code.length - i).toNat) ⟨by omega, by omega, fun j q h => by omega⟩ fun i ⟨h0, h1, h2⟩ => ?_) fun z hz => ?_
  · unfold impl_CodeValid_b1
    refine .sel (fun h => ?_) fun h => .inr ?_
    · simp only [decide_eq_true_eq] at h
      refine .bind (.nth h0 h) fun q ⟨hq, hm⟩ => ?_
      rw [iquad_eq, Option.bind_some]
      refine .sel (fun hv => .inr ⟨rfl, fun hc => ?_⟩) fun hv => .inl ?_
      · simp only [Bool.not_eq_true', decide_eq_false_iff_not] at hv
        exact hv (hc.q q hm)
      · simp only [Bool.not_eq_false', decide_eq_true_eq] at hv
        rw [w64_up h0 (by omega)]
        refine ⟨⟨by omega, by omega, fun j q' hj hq' => ?_⟩, by omega⟩
        by_cases e : (j : Int) = i
        · have : j = i.toNat := by omega
          subst this
          rw [hq] at hq'
          injection hq' with hq'
          exact hq' ▸ hv
        · exact h2 j q' (by omega) hq'
    · simp only [decide_eq_false_iff_not] at h
      intro q hq
      obtain ⟨j, hj, rfl⟩ := List.getElem_of_mem hq
      exact h2 j _ (by omega) (List.getElem?_eq_getElem hj)
  · refine .both (fun b e => ?_) fun _ e => ?_
    · subst e
      exact .pure ⟨fun h => by rw [hz.1] at h; simp at h, fun h => absurd h hz.2⟩
    · subst e
      have hq : ∀ q ∈ code, QOk code.length q := hz
      rw [w64_s (by omega) (by omega)]
      refine .bind (.nth (by omega) (by omega)) fun x ⟨hx, _⟩ => .pure ?_
      have hgl : code.getLast? = some x := by rw [List.getLast?_eq_getElem?]; rw [← hx]; congr 1; omega
      have hlast : lastOk code ↔ (x.Op = 10 ∨ x.Op = 4) := ⟨fun ⟨y, h1, h2⟩ => by rw [hgl] at h1; injection h1 with h1; exact h1 ▸ h2, fun h => ⟨x, hgl, h⟩⟩
      simp only [Bool.or_eq_true, beq_iff_eq]
      exact ⟨fun h => ⟨by omega, by omega, hq, hlast.2 h⟩, fun hc => hlast.1 hc.last⟩
theorem icodevalid_eq (code : List Quad) (hl : code.length ≤ 4611686018427387904) : (COk code ∧ impl_CodeValid code = some true ∧ spec_CodeValid code = some true) ∨ (¬ COk code ∧ impl_CodeValid code = some false ∧ spec_CodeValid code = some false) := by
  obtain ⟨x, ex, hx⟩ := icodevalid_tot code hl
  by_cases h : COk code
  · exact .inl ⟨h, by rw [ex, hx.2 h], codevalid_true h⟩
  · refine .inr ⟨h, ?_, codevalid_false hl h⟩
    cases x
    · exact ex
    · exact absurd (hx.1 rfl) h
/-! ### Bits -/
theorem pow_eq {n : Nat} (h : n ≤ 32) : spec_l1Power (n : Int) = some ((2 ^ n : Nat) : Int) := by
  refine Tot.eq ?_
  unfold spec_l1Power
  refine .bind (P := fun r => r = ((2 ^ n : Nat) : Int)) (.iter (fun s => 0 ≤ s.2 ∧ s.2 ≤ (n : Int) ∧ s.1 = ((2 ^ s.2.toNat : Nat) : Int)) (fun s => ((n : Int) - s.2).toNat) ⟨by simp, by simp, rfl⟩ fun s hs => ?_) fun r hr => .pure hr
  obtain ⟨c, i⟩ := s
  obtain ⟨g0, g1, g2⟩ := hs
  simp only at g0 g1 g2
  unfold spec_l1Power_b1
  refine .sel (fun h => .inl ?_) fun h => .inr (show c = _ from ?_)
  · simp only [decide_eq_true_eq] at h
    have hp : 2 ^ i.toNat ≤ 2 ^ 32 := Nat.pow_le_pow_right (by omega) (by omega)
    have h32 : (2 : Nat) ^ 32 = 4294967296 := by decide
    have e : 2 ^ (i + 1).toNat = 2 ^ i.toNat * 2 := by rw [show (i + 1).toNat = i.toNat + 1 by omega, Nat.pow_succ]
    dsimp only
    rw [w64_up g0 (by omega), w64_s (by omega) (by omega)]
    exact ⟨⟨by omega, by omega, by rw [e, g2]; omega⟩, by omega⟩
  · simp only [decide_eq_false_iff_not] at h
    rw [g2, show i = (n : Int) by omega]; rfl
theorem sbits_eq {u : Int} (h0 : 0 ≤ u) (h1 : u ≤ 4294967295) {lo n : Nat} (hn : 1 ≤ n) (h : lo + n ≤ 32) : spec_Bits u lo n = some (u / ((2 ^ lo : Nat) : Int) % ((2 ^ n : Nat) : Int)) := by
  unfold spec_Bits
  have e1 : (decide ((0 : Int) ≤ (lo : Int)) && decide ((lo : Int) ≤ 31)) = true := by simp; omega
  have e2 : (decide ((0 : Int) ≤ u) && decide (u ≤ 4294967295)) = true := by simp; omega
  rw [in_eq, e2, Option.bind_some, Bool.not_true, sel_false rfl, in_eq, e1]
  simp only [Option.bind_some, Bool.not_true]
  rw [sel_false rfl, w64_s (by omega) (by omega), in_eq]
  have e3 : (decide ((1 : Int) ≤ (n : Int)) && decide ((n : Int) ≤ 32 - (lo : Int))) = true := by simp; omega
  rw [e3]
  simp only [Option.bind_some, Bool.not_true]
  rw [sel_false rfl, pow_eq (by omega), Option.bind_some]
  have p1 : 0 < 2 ^ lo := Nat.two_pow_pos lo
  have p2 : 0 < 2 ^ n := Nat.two_pow_pos n
  obtain ⟨k, rfl⟩ := Int.eq_ofNat_of_zero_le h0
  have hk : k / 2 ^ lo ≤ k := Nat.div_le_self _ _
  have hq : quoO .i64 (k : Int) ((2 ^ lo : Nat) : Int) = some ((k / 2 ^ lo : Nat) : Int) := by
    unfold quoO
    rw [if_neg (by omega)]
    congr 1
    have hx : ∀ x : Nat, x ≤ k → w64 (x : Int) = x := fun x hx => w64_s (by omega) (by omega)
    exact hx _ hk
  rw [hq, Option.bind_some, pow_eq (by omega), Option.bind_some]
  unfold remO
  rw [if_neg (by omega)]
  simp only [Option.bind_some]
  rfl
theorem ibits_eq {u : Int} (h0 : 0 ≤ u) (h1 : u ≤ 4294967295) {lo n : Nat} (hn : 1 ≤ n) (h : lo + n ≤ 32) : impl_Bits u lo n = some (u / ((2 ^ lo : Nat) : Int) % ((2 ^ n : Nat) : Int)) := by
  unfold impl_Bits impl_isUnsigned
  rw [Option.bind_some, w64_s (by omega) (by omega), sel_false (by simp; omega)]
  obtain ⟨k, rfl⟩ := Int.eq_ofNat_of_zero_le h0
  have p1 : (2 : Nat) ^ n ≤ 2 ^ 32 := Nat.pow_le_pow_right (by omega) (by omega)
  have h32 : (2 : Nat) ^ 32 = 4294967296 := by decide
  have p2 : 0 < 2 ^ n := Nat.two_pow_pos n
  have hk : k / 2 ^ lo ≤ k := Nat.div_le_self _ _
  rw [shr_nat (by omega), Option.bind_some]
  have hs := shl_nat (x := 1) (k := n) (by omega) (by omega)
  rw [Nat.one_mul] at hs
  rw [show ((1 : Nat) : Int) = 1 from rfl] at hs
  rw [hs, Option.bind_some, w64_s (by omega) (by omega), mask_nat (by omega) (by omega)]
  rfl
theorem unsigned_eq {n : Int} (h : Wd n) : spec_Unsigned n = some (n % 4294967296) ∧ impl_Unsigned n = some (n % 4294967296) := by
  unfold spec_Unsigned impl_Unsigned
  rw [word_eq, iword_eq, decide_eq_true h]
  simp only [Option.bind_some, Bool.not_true]
  rw [sel_false rfl, sel_false rfl]
  have hu : kwrap .u32 n = n % 4294967296 := by
    rw [kwrap_eq]
    simp [IntKind.wrap, IntKind.signed, IntKind.bits]
  unfold Wd at h
  rw [hu, w64_s (i := n % 4294967296) (by omega) (by omega)]
  refine ⟨?_, rfl⟩
  refine Tot.eq (.sel (fun h' => .pure ?_) fun h' => .pure ?_)
  · simp only [decide_eq_true_eq] at h'
    rw [w64_s (by omega) (by omega)]; omega
  · simp only [decide_eq_false_iff_not] at h'
    omega
theorem iwrap_eq {n : Int} : impl_Wrap n = some (if 2147483648 ≤ n % 4294967296 then n % 4294967296 - 4294967296 else n % 4294967296) := by
  unfold impl_Wrap
  have : kwrap .i32 n = if 2147483648 ≤ n % 4294967296 then n % 4294967296 - 4294967296 else n % 4294967296 := by
    rw [kwrap_eq]
    simp [IntKind.wrap, IntKind.signed, IntKind.bits]
  rw [this]
  congr 1
  split <;> exact w64_s (by omega) (by omega)
theorem swrap_eq {n : Int} : spec_Wrap n = some (if 2147483648 ≤ n % 4294967296 then n % 4294967296 - 4294967296 else n % 4294967296) := by
  refine Tot.eq ?_
  unfold spec_Wrap
  have hm : n.tmod 4294967296 = if 0 ≤ n ∨ n % 4294967296 = 0 then n % 4294967296 else n % 4294967296 - 4294967296 := by
    rw [Int.tmod_eq_emod]
    simp only [Int.dvd_iff_emod_eq_zero]
    split <;> simp
  rw [hm]
  refine .sel (fun h => .pure ?_) fun h => .sel (fun h' => .pure ?_) fun h' => .pure ?_
  all_goals simp only [decide_eq_true_eq, decide_eq_false_iff_not] at *
  · rw [w64_s (by split <;> omega) (by split <;> omega)]; split <;> split <;> split at h <;> omega
  · rw [w64_s (by split <;> omega) (by split <;> omega)]; split <;> split <;> split at h' <;> omega
  · split <;> split <;> omega
theorem sext_eq {x : Int} (h0 : 0 ≤ x) (h1 : x < 4096) : spec_SignExtend x 12 = some (if 2048 ≤ x then x - 4096 else x) ∧ impl_SignExtend x 12 = some (if 2048 ≤ x then x - 4096 else x) := by
  have e12 : spec_l1Power 12 = some 4096 := pow_eq (n := 12) (by omega)
  have e11 : spec_l1Power 11 = some 2048 := pow_eq (n := 11) (by omega)
  have s12 : shO .shl .i64 1 12 = some 4096 := by decide
  have s11 : shO .shl .i64 1 11 = some 2048 := by decide
  have w12 : w64 (12 - 1) = 11 := by decide
  have w13 : w64 (4096 - 1) = 4095 := by decide
  constructor
  · unfold spec_SignExtend
    simp only [in_eq, e12, w12, e11, Option.bind_some, w13]
    rw [sel_false (b := !_) (by decide)]
    simp only [Option.bind_some]
    rw [sel_false (by simp; omega)]
    refine Tot.eq (.sel (fun h => .pure ?_) fun h => .pure ?_)
    · simp at h; rw [if_pos h, w64_s (by omega) (by omega)]
    · simp at h; rw [if_neg (by omega)]
  · unfold impl_SignExtend
    simp only [s12, w12, s11, Option.bind_some]
    rw [sel_false (b := _ || _) (by simp; omega)]
    simp only [Option.bind_some]
    rw [sel_false (by simp; omega)]
    refine Tot.eq (.sel (fun h => .pure ?_) fun h => .pure ?_)
    · simp at h; rw [if_pos h, w64_s (by omega) (by omega)]
    · simp at h; rw [if_neg (by omega)]
/-! ### The instructions of a quad -/
def lo12 (n : Int) : Int := if 2048 ≤ n % 4096 then n % 4096 - 4096 else n % 4096
def hi20 (n : Int) : Int := (n - lo12 n) % 4294967296 / 4096
def constL (rd n : Int) : List Instr := if -2048 ≤ n ∧ n ≤ 2047 then [⟨12, rd, 0, 0, n⟩] else [⟨19, rd, 0, 0, hi20 n⟩, ⟨12, rd, rd, 0, lo12 n⟩]
theorem const_eq {rd n : Int} (h : Wd n) : spec_l43Const rd n = some (constL rd n) ∧ impl_constInstrs rd n = some (constL rd n) := by
  have hu := unsigned_eq h
  have hb1 : ∀ {u : Int}, 0 ≤ u → u ≤ 4294967295 → spec_Bits u 0 12 = some (u % 4096) ∧ impl_Bits u 0 12 = some (u % 4096) := fun h0 h1 => by
    have a := sbits_eq h0 h1 (lo := 0) (n := 12) (by omega) (by omega)
    have b := ibits_eq h0 h1 (lo := 0) (n := 12) (by omega) (by omega)
    simp at a b
    exact ⟨a, b⟩
  have hb2 : ∀ {u : Int}, 0 ≤ u → u ≤ 4294967295 → spec_Bits u 12 20 = some (u / 4096 % 1048576) ∧ impl_Bits u 12 20 = some (u / 4096 % 1048576) := fun h0 h1 => by
    have a := sbits_eq h0 h1 (lo := 12) (n := 20) (by omega) (by omega)
    have b := ibits_eq h0 h1 (lo := 12) (n := 20) (by omega) (by omega)
    simp at a b
    exact ⟨a, b⟩
  have hw := h
  unfold Wd at hw
  have e0 : n % 4294967296 % 4096 = n % 4096 := by omega
  have hl : -2048 ≤ lo12 n ∧ lo12 n ≤ 2047 := by unfold lo12; split <;> omega
  have hwd : ∀ m : Int, Wd (if 2147483648 ≤ m % 4294967296 then m % 4294967296 - 4294967296 else m % 4294967296) := fun m => by unfold Wd; split <;> omega
  have e1 : ∀ m : Int, (if 2147483648 ≤ m % 4294967296 then m % 4294967296 - 4294967296 else m % 4294967296) % 4294967296 = m % 4294967296 := fun m => by split <;> omega
  have e2 : (n - lo12 n) % 4294967296 / 4096 % 1048576 = hi20 n := by unfold hi20; omega
  constructor
  · unfold spec_l43Const constL
    rw [in_eq, Option.bind_some]
    refine Tot.eq (.sel (fun h => .pure ?_) fun h => ?_)
    · simp at h; rw [if_pos h]
    · rw [if_neg (by simp at h; omega), hu.1, Option.bind_some, (hb1 (by omega) (by omega)).1, Option.bind_some, (sext_eq (by omega) (by omega)).1, Option.bind_some, e0]
      rw [show (if 2048 ≤ n % 4096 then n % 4096 - 4096 else n % 4096) = lo12 n from rfl, w64_s (by omega) (by omega), swrap_eq, Option.bind_some, (unsigned_eq (hwd _)).1, Option.bind_some, e1, (hb2 (by omega) (by omega)).1, Option.bind_some, e2]
      refine .bind (.app (by simp)) fun r hr => .pure ?_
      subst hr; rfl
  · unfold impl_constInstrs constL
    refine Tot.eq (.sel (fun h => .pure ?_) fun h => ?_)
    · simp at h; rw [if_pos h]
    · rw [if_neg (by simp at h; omega), hu.2, Option.bind_some, (hb1 (by omega) (by omega)).2, Option.bind_some, (sext_eq (by omega) (by omega)).2, Option.bind_some, e0]
      rw [show (if 2048 ≤ n % 4096 then n % 4096 - 4096 else n % 4096) = lo12 n from rfl, w64_s (by omega) (by omega), iwrap_eq, Option.bind_some, (unsigned_eq (hwd _)).2, Option.bind_some, e1, (hb2 (by omega) (by omega)).2, Option.bind_some, e2]
      exact .pure rfl
end Go.Proofs.YtjpbdpfkhdekpaaGreatDoor.N
