/- The encoding of instructions: reference and program encode alike. -/
import Derived.Test.YtdohklfimhkicaaDoorS2
set_option linter.unusedVariables false
set_option linter.unusedSimpArgs false
set_option maxRecDepth 100000
set_option maxHeartbeats 4000000
namespace Go.Proofs.YtdohklfimhkicaaDoor.N
open Go.Proofs.YtdohklfimhkicaaDoor.X
theorem w64_add {a b : Nat} (h : a + b < 9223372036854775808) : w64 ((a : Int) + (b : Int)) = ((a + b : Nat) : Int) := by rw [w64_id (by omega) (by omega)]; omega
/-- The middle of an encoding. -/
theorem mid_ok {op rd rs rt imm : Int} {k srs f3 opc : Nat} (hk : op = (k : Int) + 1) (hk2 : k < 21) (hrs : rs = srs) (hs : srs < 32) (hf : nth [0, 0, 0, 4, 6, 7, 6, 4, 1, 5, 2, 0, 3, 2, 0, 2, 0, 1, 0, 0, 0] (k : Int) = some (f3 : Int)) (h3 : f3 < 8) (ho : opc < 128) :
    spec_l42Mid (Instr.mk op rd rs rt imm) (opc : Int) = some ((srs * 2 ^ 15 + f3 * 2 ^ 12 + opc : Nat) : Int) := by
  unfold spec_l42Mid spec_l42Three
  simp only
  rw [hk, hrs, show (k : Int) + 1 - 1 = k by omega, w64_id (x := (k : Int)) (by omega) (by omega), hf, show (15 : Int) = ((15 : Nat) : Int) from rfl, put_ok srs 15 (by omega) (by omega)]
  simp only [Option.bind_some]
  rw [show (12 : Int) = ((12 : Nat) : Int) from rfl, put_ok f3 12 (by omega) (by omega)]
  simp only [Option.bind_some]
  rw [w64_add (by omega), w64_add (by omega)]
theorem lt63 {a : Nat} (h : a < 4294967296) : a < 9223372036854775808 := by omega
/-- The encoders agree. -/
def Enc (i : Instr) : Prop := ∃ r : Nat, r < 4294967296 ∧ (∀ k : Nat, i.Op = (k : Int) + 1 → 11 ≤ k → k ≤ 17 → nth [0, 0, 0, 4, 6, 7, 6, 4, 1, 5, 2, 0, 3, 2, 0, 2, 0, 1, 0, 0, 0] (k : Int) = some ((r / 4096 % 8 : Nat) : Int)) ∧ spec_l42Encode i = some (r : Int) ∧ (impl_InstrValid i = some true → impl_InstrEncode i = some ((r : Int), true))
theorem impl_head {i : Instr} {r : Option (Int × Bool)} (hv : impl_InstrValid i = some true) : impl_InstrEncode i = (nth instrTable (w64 (i.Op - 1))).bind fun x1 => (impl_Unsigned i.Imm).bind fun y2 => (impl_formatOf i.Op).bind fun y3 =>
    sel (y3 == 82) (some (bitsI .or .i64 (bitsI .or .i64 (w64 (x1.funct7 * 2 ^ (min 25 (IntKind.bits .i64)))) (bitsI .or .i64 (bitsI .or .i64 (bitsI .or .i64 (w64 (i.Rt * 2 ^ (min 20 (IntKind.bits .i64)))) (w64 (i.Rs * 2 ^ (min 15 (IntKind.bits .i64))))) (w64 (x1.funct3 * 2 ^ (min 12 (IntKind.bits .i64))))) x1.opcode)) (w64 (i.Rd * 2 ^ (min 7 (IntKind.bits .i64)))), true)) <|
    sel (y3 == 73) ((impl_InstrEncode_1 0 12 20 y2).bind fun y4 =>
    some (bitsI .or .i64 (bitsI .or .i64 y4 (bitsI .or .i64 (bitsI .or .i64 (bitsI .or .i64 (w64 (i.Rt * 2 ^ (min 20 (IntKind.bits .i64)))) (w64 (i.Rs * 2 ^ (min 15 (IntKind.bits .i64))))) (w64 (x1.funct3 * 2 ^ (min 12 (IntKind.bits .i64))))) x1.opcode)) (w64 (i.Rd * 2 ^ (min 7 (IntKind.bits .i64)))), true)) <|
    sel (y3 == 83) ((impl_InstrEncode_1 5 7 25 y2).bind fun y5 => (impl_InstrEncode_1 0 5 7 y2).bind fun y6 =>
    some (bitsI .or .i64 (bitsI .or .i64 y5 (bitsI .or .i64 (bitsI .or .i64 (bitsI .or .i64 (w64 (i.Rt * 2 ^ (min 20 (IntKind.bits .i64)))) (w64 (i.Rs * 2 ^ (min 15 (IntKind.bits .i64))))) (w64 (x1.funct3 * 2 ^ (min 12 (IntKind.bits .i64))))) x1.opcode)) y6, true)) <|
    sel (y3 == 66) ((impl_InstrEncode_1 12 1 31 y2).bind fun y7 => (impl_InstrEncode_1 5 6 25 y2).bind fun y8 => (impl_InstrEncode_1 1 4 8 y2).bind fun y9 => (impl_InstrEncode_1 11 1 7 y2).bind fun y10 =>
    some (bitsI .or .i64 (bitsI .or .i64 (bitsI .or .i64 (bitsI .or .i64 y7 y8) (bitsI .or .i64 (bitsI .or .i64 (bitsI .or .i64 (w64 (i.Rt * 2 ^ (min 20 (IntKind.bits .i64)))) (w64 (i.Rs * 2 ^ (min 15 (IntKind.bits .i64))))) (w64 (x1.funct3 * 2 ^ (min 12 (IntKind.bits .i64))))) x1.opcode)) y9) y10, true)) <|
    sel (y3 == 85) ((impl_InstrEncode_1 0 20 12 y2).bind fun y11 => some (bitsI .or .i64 (bitsI .or .i64 y11 (w64 (i.Rd * 2 ^ (min 7 (IntKind.bits .i64))))) x1.opcode, true)) <|
    sel (y3 == 74) ((impl_InstrEncode_1 20 1 31 y2).bind fun y12 => (impl_InstrEncode_1 1 10 21 y2).bind fun y13 => (impl_InstrEncode_1 11 1 20 y2).bind fun y14 => (impl_InstrEncode_1 12 8 12 y2).bind fun y15 =>
    some (bitsI .or .i64 (bitsI .or .i64 (bitsI .or .i64 (bitsI .or .i64 (bitsI .or .i64 y12 y13) y14) y15) (w64 (i.Rd * 2 ^ (min 7 (IntKind.bits .i64))))) x1.opcode, true)) <|
    some (x1.opcode, true) := by
  unfold impl_InstrEncode
  rw [hv]
  rfl
theorem sh25 {n : Nat} (h : n < 128) : w64 ((n : Int) * 2 ^ (min 25 (IntKind.bits .i64))) = ((n * 2 ^ 25 : Nat) : Int) := shl_lit (k := 25) (by omega)
theorem sh20 {n : Nat} (h : n < 32) : w64 ((n : Int) * 2 ^ (min 20 (IntKind.bits .i64))) = ((n * 2 ^ 20 : Nat) : Int) := shl_lit (k := 20) (by omega)
theorem sh15 {n : Nat} (h : n < 32) : w64 ((n : Int) * 2 ^ (min 15 (IntKind.bits .i64))) = ((n * 2 ^ 15 : Nat) : Int) := shl_lit (k := 15) (by omega)
theorem sh12 {n : Nat} (h : n < 8) : w64 ((n : Int) * 2 ^ (min 12 (IntKind.bits .i64))) = ((n * 2 ^ 12 : Nat) : Int) := shl_lit (k := 12) (by omega)
theorem sh7 {n : Nat} (h : n < 32) : w64 ((n : Int) * 2 ^ (min 7 (IntKind.bits .i64))) = ((n * 2 ^ 7 : Nat) : Int) := shl_lit (k := 7) (by omega)
theorem or_lt {a b : Nat} (ha : a < 4294967296) (hb : b < 4294967296) : a ||| b < 4294967296 := Nat.or_lt_two_pow (n := 32) ha hb
theorem or_n {a b : Nat} (ha : a < 4294967296) (hb : b < 4294967296) : bitsI .or .i64 (a : Int) (b : Int) = ((a ||| b : Nat) : Int) := or_nat (by omega) (by omega)
theorem nat_of {x : Int} {n : Int} (h0 : 0 ≤ x) (h1 : x ≤ n) : ∃ k : Nat, x = k ∧ (k : Int) ≤ n := ⟨x.toNat, by omega, by omega⟩
theorem enc_R {op rd rs rt : Int} (h : 1 ≤ op ∧ op ≤ 11) (hd : 0 ≤ rd ∧ rd ≤ 31) (hs : 0 ≤ rs ∧ rs ≤ 31) (ht : 0 ≤ rt ∧ rt ≤ 31) : Enc (Instr.mk op rd rs rt 0) := by
  obtain ⟨d, rfl, hd2⟩ := nat_of hd.1 hd.2
  obtain ⟨s, rfl, hs2⟩ := nat_of hs.1 hs.2
  obtain ⟨t, rfl, ht2⟩ := nat_of ht.1 ht.2
  obtain ⟨k, rfl⟩ : ∃ k : Nat, op = (k : Int) + 1 := ⟨(op - 1).toNat, by omega⟩
  obtain ⟨x, f3, f7, opc, g1, g2, g3, g4, g5, g6, g7, g8, g9, _⟩ := tab k (by omega)
  obtain ⟨g10, rfl⟩ := g9 (by omega)
  obtain ⟨u, u1, u2, u3, _⟩ := uns_ok (x := 0) (by omega) (by omega)
  refine ⟨f7 * 2 ^ 25 + t * 2 ^ 20 + (s * 2 ^ 15 + f3 * 2 ^ 12 + 51) + d * 2 ^ 7, by omega, (fun k' hk h1 h2 => by simp only at hk; omega), ?_, fun hv => ?_⟩
  · unfold spec_l42Encode
    simp only
    have c : ∀ n : Int, 12 ≤ n → (((k : Int) + 1) == n) = false := fun n hn => by simp; omega
    rw [c 12 (by omega), c 13 (by omega), c 14 (by omega), c 15 (by omega), c 16 (by omega), c 17 (by omega), c 18 (by omega), c 19 (by omega), c 20 (by omega), c 21 (by omega)]
    simp only [sel, Option.bind_some]
    have hm := mid_ok (op := (k : Int) + 1) (rd := d) (rs := s) (rt := t) (imm := 0) (k := k) (srs := s) (f3 := f3) (opc := 51) rfl (by omega) rfl (by omega) g8 g5 (by omega)
    rw [show ((51 : Nat) : Int) = 51 from rfl] at hm
    rw [hm]
    unfold spec_l42Seven
    rw [show (k : Int) + 1 - 1 = k by omega, w64_id (x := (k : Int)) (by omega) (by omega), g10]
    simp only [Option.bind_some]
    rw [show (25 : Int) = ((25 : Nat) : Int) from rfl, show (20 : Int) = ((20 : Nat) : Int) from rfl, show (7 : Int) = ((7 : Nat) : Int) from rfl, put_ok f7 25 (by omega) (by omega), put_ok t 20 (by omega) (by omega), put_ok d 7 (by omega) (by omega)]
    simp only [Option.bind_some]
    rw [w64_add (by omega), w64_add (by omega), w64_add (by omega)]
  · rw [impl_head (r := none) hv]
    simp only
    rw [show (k : Int) + 1 - 1 = k by omega, w64_id (x := (k : Int)) (by omega) (by omega), g1, u3, fmt_R (by omega)]
    simp only [Option.bind_some, sel, Int.reduceBEq]
    rw [g2, g3, g4, sh25 g6, sh20 (by omega), sh15 (by omega), sh12 g5, sh7 (by omega)]
    rw [or_n (by omega) (by omega), or_n (or_lt (by omega) (by omega)) (by omega), or_n (or_lt (or_lt (by omega) (by omega)) (by omega)) (by omega), or_n (by omega) (or_lt (or_lt (or_lt (by omega) (by omega)) (by omega)) (by omega)),
      or_n (or_lt (by omega) (or_lt (or_lt (or_lt (by omega) (by omega)) (by omega)) (by omega))) (by omega), or_R (by omega) (by omega) (by omega) (by omega) (by omega)]

/-! ### The other formats -/
theorem sel_tt {α : Type} {b : Bool} {x y r : α} (h : b = true) (k : x = r) : sel b x y = r := by subst h; exact k
theorem sel_f0 {α : Type} (x y : α) : sel false x y = y := rfl
theorem sel_t0 {α : Type} (x y : α) : sel true x y = x := rfl
theorem imm_bits0 {x : Int} {u m p q low many : Nat} (hu : (u : Int) = x % (q : Int)) (hm : (m : Int) = x % p) (hp : 2 ^ (low + many) ∣ p) (hp2 : p ∣ q) : u / 2 ^ low % 2 ^ many = m / 2 ^ low % 2 ^ many := by
  have e1 : u % p = m := by
    have h1 : ((u % p : Nat) : Int) = (m : Int) := by
      rw [Int.natCast_emod, hu, hm]
      exact Int.emod_emod_of_dvd _ (Int.natCast_dvd_natCast.2 hp2)
    exact Int.ofNat.inj h1
  have e2 : ∀ n : Nat, n / 2 ^ low % 2 ^ many = n % 2 ^ (low + many) / 2 ^ low := fun n => by rw [Nat.pow_add, Nat.mod_mul_right_div_self]
  rw [e2 u, e2 m, ← e1, Nat.mod_mod_of_dvd _ hp]
theorem imm_bits {x : Int} {u m p low many : Nat} (hu : (u : Int) = x % 4294967296) (hm : (m : Int) = x % p) (hp : 2 ^ (low + many) ∣ p) (hp2 : ∃ c, 4294967296 = p * c) : u / 2 ^ low % 2 ^ many = m / 2 ^ low % 2 ^ many := imm_bits0 (q := 4294967296) hu hm hp hp2
theorem or_I {m rs f3 opc rd : Nat} (h1 : opc < 128) (h2 : rd < 32) (h3 : f3 < 8) (h4 : rs < 32) :
    ((m * 2 ^ 20 ||| (0 ||| rs * 2 ^ 15 ||| f3 * 2 ^ 12 ||| opc)) ||| rd * 2 ^ 7) = m * 2 ^ 20 + (rs * 2 ^ 15 + f3 * 2 ^ 12 + opc) + rd * 2 ^ 7 := by
  have e : m * 2 ^ 20 + (rs * 2 ^ 15 + f3 * 2 ^ 12 + opc) + rd * 2 ^ 7 = 2 ^ 20 * m + (2 ^ 15 * rs + (2 ^ 12 * f3 + (2 ^ 7 * rd + opc))) := by omega
  rw [e, add_or (i := 20) (by omega), add_or (i := 15) (by omega), add_or (i := 12) (by omega), add_or (i := 7) (by omega)]
  simp only [Nat.mul_comm _ (2 ^ 20), Nat.mul_comm _ (2 ^ 15), Nat.mul_comm _ (2 ^ 12), Nat.mul_comm _ (2 ^ 7), Nat.zero_or]
  ac_rfl
theorem or_S {hi7 rt rs f3 lo5 : Nat} (h1 : rt < 32) (h2 : lo5 < 32) (h3 : f3 < 8) (h4 : rs < 32) :
    ((hi7 * 2 ^ 25 ||| (rt * 2 ^ 20 ||| rs * 2 ^ 15 ||| f3 * 2 ^ 12 ||| 35)) ||| lo5 * 2 ^ 7) = hi7 * 2 ^ 25 + rt * 2 ^ 20 + (rs * 2 ^ 15 + f3 * 2 ^ 12 + 35) + lo5 * 2 ^ 7 := or_R (by omega) h2 h3 h4 h1
theorem or_B {v1 v2 rt rs f3 v3 v4 : Nat} (h1 : rt < 32) (h2 : v2 < 64) (h3 : f3 < 8) (h4 : rs < 32) (h5 : v3 < 16) (h6 : v4 < 2) :
    ((((v1 * 2 ^ 31 ||| v2 * 2 ^ 25) ||| (rt * 2 ^ 20 ||| rs * 2 ^ 15 ||| f3 * 2 ^ 12 ||| 99)) ||| v3 * 2 ^ 8) ||| v4 * 2 ^ 7) = v1 * 2 ^ 31 + v2 * 2 ^ 25 + rt * 2 ^ 20 + (rs * 2 ^ 15 + f3 * 2 ^ 12 + 99) + v3 * 2 ^ 8 + v4 * 2 ^ 7 := by
  have e : v1 * 2 ^ 31 + v2 * 2 ^ 25 + rt * 2 ^ 20 + (rs * 2 ^ 15 + f3 * 2 ^ 12 + 99) + v3 * 2 ^ 8 + v4 * 2 ^ 7 = 2 ^ 31 * v1 + (2 ^ 25 * v2 + (2 ^ 20 * rt + (2 ^ 15 * rs + (2 ^ 12 * f3 + (2 ^ 8 * v3 + (2 ^ 7 * v4 + 99)))))) := by omega
  rw [e, add_or (i := 31) (by omega), add_or (i := 25) (by omega), add_or (i := 20) (by omega), add_or (i := 15) (by omega), add_or (i := 12) (by omega), add_or (i := 8) (by omega), add_or (i := 7) (by omega)]
  generalize 99 = q
  simp only [Nat.mul_comm _ (2 ^ 31), Nat.mul_comm _ (2 ^ 25), Nat.mul_comm _ (2 ^ 20), Nat.mul_comm _ (2 ^ 15), Nat.mul_comm _ (2 ^ 12), Nat.mul_comm _ (2 ^ 8), Nat.mul_comm _ (2 ^ 7)]
  ac_rfl
theorem or_U {u d : Nat} (h : d < 32) : (u * 2 ^ 12 ||| d * 2 ^ 7 ||| 55) = u * 2 ^ 12 + d * 2 ^ 7 + 55 := by
  have e : u * 2 ^ 12 + d * 2 ^ 7 + 55 = 2 ^ 12 * u + (2 ^ 7 * d + 55) := by omega
  rw [e, add_or (i := 12) (by omega), add_or (i := 7) (by omega)]
  generalize 55 = q
  simp only [Nat.mul_comm _ (2 ^ 12), Nat.mul_comm _ (2 ^ 7)]
  ac_rfl
theorem or_J {v1 v2 v3 v4 d : Nat} (h2 : v2 < 1024) (h3 : v3 < 2) (h4 : v4 < 256) (h5 : d < 32) :
    (((((v1 * 2 ^ 31 ||| v2 * 2 ^ 21) ||| v3 * 2 ^ 20) ||| v4 * 2 ^ 12) ||| d * 2 ^ 7) ||| 111) = v1 * 2 ^ 31 + v2 * 2 ^ 21 + v3 * 2 ^ 20 + v4 * 2 ^ 12 + d * 2 ^ 7 + 111 := by
  have e : v1 * 2 ^ 31 + v2 * 2 ^ 21 + v3 * 2 ^ 20 + v4 * 2 ^ 12 + d * 2 ^ 7 + 111 = 2 ^ 31 * v1 + (2 ^ 21 * v2 + (2 ^ 20 * v3 + (2 ^ 12 * v4 + (2 ^ 7 * d + 111)))) := by omega
  rw [e, add_or (i := 31) (by omega), add_or (i := 21) (by omega), add_or (i := 20) (by omega), add_or (i := 12) (by omega), add_or (i := 7) (by omega)]
  generalize 111 = q
  simp only [Nat.mul_comm _ (2 ^ 31), Nat.mul_comm _ (2 ^ 21), Nat.mul_comm _ (2 ^ 20), Nat.mul_comm _ (2 ^ 12), Nat.mul_comm _ (2 ^ 7)]
  ac_rfl
theorem or4 {a b c d : Nat} (h1 : a < 4294967296) (h2 : b < 4294967296) (h3 : c < 4294967296) (h4 : d < 4294967296) : bitsI .or .i64 (bitsI .or .i64 (bitsI .or .i64 (a : Int) (b : Int)) (c : Int)) (d : Int) = ((a ||| b ||| c ||| d : Nat) : Int) := by
  rw [or_n h1 h2, or_n (or_lt h1 h2) h3, or_n (or_lt (or_lt h1 h2) h3) h4]
end Go.Proofs.YtdohklfimhkicaaDoor.N
