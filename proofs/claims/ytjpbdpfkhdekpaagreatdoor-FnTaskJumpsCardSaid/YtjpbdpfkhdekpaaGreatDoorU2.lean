/- Plain laws: operators give words; the facts of a code are found; FoldCode keeps a code valid. -/
import Derived.Test.YtjpbdpfkhdekpaaGreatDoorU1
set_option linter.unusedVariables false
namespace Go.Proofs.YtjpbdpfkhdekpaaGreatDoor.N
open Go.Proofs.YtjpbdpfkhdekpaaGreatDoor.X
/-! ### Operators -/
theorem wrap_toInt (v : BitVec 64) : IntKind.wrap .i64 (v.toNat : Int) = v.toInt := by
  have h1 : IntKind.wrap .i64 (v.toNat : Int) = w64 (v.toNat : Int) := rfl
  rw [h1, w64_eq, BitVec.toInt_eq_toNat_cond]
  have := v.isLt
  split <;> split <;> omega
theorem sx_word {n : Int} (h : Wd n) : BitVec.ofInt 64 n = (BitVec.ofInt 32 n).signExtend 64 := by
  apply BitVec.eq_of_toInt_eq
  rw [BitVec.toInt_signExtend_of_le (by omega), BitVec.toInt_ofInt, BitVec.toInt_ofInt]
  unfold Wd at h
  rw [Int.bmod_def, Int.bmod_def]
  omega
theorem sx_range (v : BitVec 32) : Wd (v.signExtend 64).toInt := by
  rw [BitVec.toInt_signExtend_of_le (by omega)]
  have h1 := BitVec.toInt_lt (x := v)
  have h2 := BitVec.le_toInt (x := v)
  unfold Wd
  omega
theorem or_word {a b : Int} (ha : Wd a) (hb : Wd b) : Wd (bitsI .or .i64 a b) := by
  show Wd (IntKind.wrap .i64 ((BitVec.ofInt 64 a ||| BitVec.ofInt 64 b).toNat : Int))
  rw [wrap_toInt, sx_word ha, sx_word hb, ← BitVec.signExtend_or]
  exact sx_range _
theorem and_word {a b : Int} (ha : Wd a) (hb : Wd b) : Wd (bitsI .and .i64 a b) := by
  show Wd (IntKind.wrap .i64 ((BitVec.ofInt 64 a &&& BitVec.ofInt 64 b).toNat : Int))
  rw [wrap_toInt, sx_word ha, sx_word hb, ← BitVec.signExtend_and]
  exact sx_range _
theorem xor_word {a b : Int} (ha : Wd a) (hb : Wd b) : Wd (bitsI .xor .i64 a b) := by
  show Wd (IntKind.wrap .i64 ((BitVec.ofInt 64 a ^^^ BitVec.ofInt 64 b).toNat : Int))
  rw [wrap_toInt, sx_word ha, sx_word hb, ← BitVec.signExtend_xor]
  exact sx_range _
theorem and31 (b : Int) : 0 ≤ bitsI .and .i64 b 31 ∧ bitsI .and .i64 b 31 ≤ 31 := by
  have e : bitsI .and .i64 b 31 = IntKind.wrap .i64 ((BitVec.ofInt 64 b &&& BitVec.ofInt 64 31).toNat : Int) := rfl
  have h1 : (BitVec.ofInt 64 b &&& BitVec.ofInt 64 31).toNat ≤ 31 := by
    rw [BitVec.toNat_and]
    exact Nat.le_trans Nat.and_le_right (by decide)
  have h2 : IntKind.wrap .i64 ((BitVec.ofInt 64 b &&& BitVec.ofInt 64 31).toNat : Int) = w64 ((BitVec.ofInt 64 b &&& BitVec.ofInt 64 31).toNat : Int) := rfl
  rw [e, h2, w64_s (by omega) (by omega)]
  omega
theorem apply_tot {op a b : Int} (hop : 1 ≤ op ∧ op ≤ 12) (ha : Wd a) (hb : Wd b) : Tot (spec_Apply op a b) fun r => Wd r.1 := by
  unfold spec_Apply
  rw [opvalid_eq, decide_eq_true hop]
  simp only [Option.bind_some, word_eq, decide_eq_true ha, decide_eq_true hb, Bool.not_true]
  simp only [sel, Option.bind_some]
  have w0 : Wd 0 := by unfold Wd; omega
  have w1 : Wd 1 := by unfold Wd; omega
  refine .sel (fun _ => .pure (or_word ha hb)) fun _ => .sel (fun _ => .pure (xor_word ha hb)) fun _ => .sel (fun _ => .pure (and_word ha hb)) fun _ => .sel (fun _ => .bind (P := Wd) ?_ fun r h => .pure h) fun _ => .sel (fun _ => .bind (P := Wd) ?_ fun r h => .pure h) fun _ =>
    .sel (fun _ => .bind (P := Wd) ?_ fun r h => .pure h) fun _ => .sel (fun _ => .bind (P := Wd) ?_ fun r h => .pure h) fun _ => .sel (fun _ => .bind (wrap_tot _) fun r h => .pure h) fun _ => .sel (fun _ => .bind (wrap_tot _) fun r h => .pure h) fun _ => .sel (fun _ => .bind (wrap_tot _) fun r h => .pure h) fun _ =>
    .sel (fun _ => .bind (P := Wd) ?_ fun r h => .pure h) fun _ => .bind (P := Wd) ?_ fun r h => .pure h
  · exact .sel (fun _ => .pure w1) fun _ => .pure w0
  · exact .sel (fun _ => .pure w1) fun _ => .pure w0
  · unfold spec_l2Shift
    refine .sf rfl (.bind (P := fun _ => True) ?_ fun d _ => .bind (wrap_tot _) fun r h => .pure h)
    unfold shO
    rw [if_neg (by have := and31 b; omega)]
    exact .pure trivial
  · unfold spec_l2Shift
    refine .st rfl (.bind (P := Wd) ?_ fun d h => .pure h)
    have h31 := and31 b
    unfold shO
    rw [if_neg (by omega)]
    refine .pure ?_
    have hp : 0 < (2 : Int) ^ (min (bitsI .and .i64 b 31).toNat (IntKind.bits .i64)) := Int.pow_pos (by omega)
    generalize (2 : Int) ^ (min (bitsI .and .i64 b 31).toNat (IntKind.bits .i64)) = c at hp
    rw [Int.fdiv_eq_ediv_of_nonneg _ (by omega)]
    unfold Wd at *
    constructor
    · rw [Int.le_ediv_iff_mul_le hp]
      have : -2147483648 * c ≤ -2147483648 * 1 := Int.mul_le_mul_of_nonpos_left (by omega) (by omega)
      omega
    · have : a / c ≤ 2147483647 := by
        rw [← Int.lt_add_one_iff, Int.ediv_lt_iff_lt_mul hp]
        have : (2147483647 + 1) * 1 ≤ (2147483647 + 1) * c := Int.mul_le_mul_of_nonneg_left (by omega) (by omega)
        omega
      exact this
  · unfold spec_l2Divide
    refine .sel (fun _ => .pure (by unfold Wd; omega)) fun h => ?_
    simp only [beq_eq_false_iff_ne, ne_eq] at h
    exact .bind (.quo h) fun d _ => .bind (wrap_tot _) fun r h => .pure h
  · unfold spec_l2Remain
    refine .sel (fun _ => .pure ha) fun h => ?_
    simp only [beq_eq_false_iff_ne, ne_eq] at h
    refine .bind (.rem h) fun d hd => .pure ?_
    subst hd
    have h1 : (a.tmod b).natAbs ≤ a.natAbs := by rw [Int.natAbs_tmod]; exact Nat.mod_le _ _
    unfold Wd at *
    rcases Int.le_total 0 a with h2 | h2
    · have := Int.tmod_nonneg b h2; omega
    · have : a.tmod b ≤ 0 := by have := Int.tmod_nonneg b (show 0 ≤ -a by omega); rw [Int.neg_tmod] at this; omega
      omega
/-! ### Sums -/
theorem sum_set {α : Type} (g : α → Nat) : ∀ {l : List α} {i : Nat} {a : α} (x : α), l[i]? = some a → ((l.set i x).map g).sum + g a = (l.map g).sum + g x
  | [], _, _, _, h => by simp at h
  | y :: r, 0, a, x, h => by
    have : y = a := by simpa using h
    subst this
    simp only [List.set_cons_zero, List.map_cons, List.sum_cons]
    omega
  | y :: r, i + 1, a, x, h => by
    have := sum_set g x (show r[i]? = some a by simpa using h)
    simp only [List.set_cons_succ, List.map_cons, List.sum_cons]
    omega
/-! ### Facts -/
def FOk (f : Fact) : Prop := (f.Kind = 0 ∧ f.N = 0) ∨ (f.Kind = 1 ∧ Wd f.N) ∨ (f.Kind = 2 ∧ f.N = 0)
def FsOk (l : List Fact) : Prop := l.length = 12 ∧ ∀ f ∈ l, FOk f
def AOk (n : Nat) (all : List (List Fact)) : Prop := all.length = n ∧ ∀ l ∈ all, FsOk l
def fm (f : Fact) : Nat := (2 - f.Kind).toNat
def fsm (l : List Fact) : Nat := (l.map fm).sum
def am (all : List (List Fact)) : Nat := (all.map fsm).sum
theorem FsOk.set {l : List Fact} {i : Nat} {f : Fact} (h : FsOk l) (hf : FOk f) : FsOk (l.set i f) := ⟨by rw [List.length_set]; exact h.1, fun g hg => (mem_set hg).elim (h.2 g) fun e => e ▸ hf⟩
theorem AOk.set {n : Nat} {all : List (List Fact)} {i : Nat} {l : List Fact} (h : AOk n all) (hl : FsOk l) : AOk n (all.set i l) := ⟨by rw [List.length_set]; exact h.1, fun g hg => (mem_set hg).elim (h.2 g) fun e => e ▸ hl⟩
theorem join_tot {a b : Fact} (ha : FOk a) (hb : FOk b) : Tot (spec_l33Join a b) fun f => FOk f ∧ fm f ≤ fm a ∧ (f.Kind ≠ a.Kind ∨ f.N ≠ a.N → fm f < fm a) := by
  unfold spec_l33Join
  refine .sel (fun h => .pure ⟨hb, ?_⟩) fun h => .sel (fun h' => .pure ⟨ha, by omega, fun h => by omega⟩) fun h' => .pure ⟨.inr (.inr ⟨rfl, rfl⟩), ?_⟩
  · simp only [beq_iff_eq] at h
    unfold fm; unfold FOk at ha hb
    constructor
    · omega
    · intro _; omega
  · simp only [beq_eq_false_iff_ne, ne_eq, Bool.or_eq_false_iff, Bool.and_eq_false_iff, Bool.and_true] at h h'
    unfold fm; unfold FOk at ha hb
    simp only
    constructor
    · omega
    · intro _; omega
theorem carry_tot {n : Nat} {all : List (List Fact)} {i : Int} {fs : List Fact} (h : AOk n all) (h0 : 0 ≤ i) (h1 : i < n) (hf : FsOk fs) : Tot (spec_l33Carry all i fs) fun r => AOk n r.2 ∧ am r.2 ≤ am all ∧ (r.1 = true → am r.2 < am all) := by
  unfold spec_l33Carry
  refine .bind (.iter (fun s => 0 ≤ s.2.1 ∧ s.2.1 ≤ 12 ∧ AOk n s.2.2 ∧ am s.2.2 ≤ am all ∧ (s.1 = true → am s.2.2 < am all)) (fun s => (12 - s.2.1).toNat) ⟨by simp, by simp, h, by simp, by simp⟩ fun s hs => ?_) fun r (hr : AOk n r.2 ∧ am r.2 ≤ am all ∧ (r.1 = true → am r.2 < am all)) => .pure hr
  obtain ⟨fresh, r, a⟩ := s
  obtain ⟨g0, g1, g2, g3, g4⟩ := hs
  simp only at g0 g1 g2 g3 g4
  unfold spec_l33Carry_b1
  refine .sel (fun hlt => ?_) fun hlt => .inr ⟨g2, g3, g4⟩
  simp only [decide_eq_true_eq] at hlt
  refine .bind (P := fun z => AOk n z.2 ∧ am z.2 ≤ am all ∧ (z.1 = true → am z.2 < am all)) ?_ fun z hz => .inl ⟨⟨?_, ?_, hz⟩, ?_⟩
  · refine .bind (.nth h0 (by rw [g2.1]; exact h1)) fun l ⟨hl, hm⟩ => ?_
    have hlo := g2.2 l hm
    refine .bind (.nth g0 (by rw [hlo.1]; omega)) fun x ⟨hx, hxm⟩ => .bind (.nth g0 (by rw [hf.1]; omega)) fun y ⟨hy, hym⟩ => ?_
    refine .bind (join_tot (hlo.2 x hxm) (hf.2 y hym)) fun f hfj => .bind (.nth h0 (by rw [g2.1]; exact h1)) fun l' ⟨hl', _⟩ => ?_
    obtain rfl : l = l' := Option.some.inj (hl.symm.trans hl')
    refine .bind (.nth g0 (by rw [hlo.1]; omega)) fun x' ⟨hx', _⟩ => ?_
    obtain rfl : x = x' := Option.some.inj (hx.symm.trans hx')
    refine .sel (fun hne => ?_) fun _ => .pure ⟨g2, g3, g4⟩
    refine .bind (.nth g0 (by rw [hlo.1]; omega)) fun _ _ => .bind (.upd g0 (by rw [hlo.1]; omega)) fun l2 hl2 => .pure ?_
    subst hl2
    have hlt2 : fm f < fm x := by
      refine hfj.2.2 ?_
      by_cases e1 : f.Kind = x.Kind
      · right; intro e2; simp [e1, e2] at hne
      · exact .inl e1
    have e1 : fsm (l.set r.toNat f) + fm x = fsm l + fm f := sum_set fm f hx
    have e2 : am (a.set i.toNat (l.set r.toNat f)) + fsm l = am a + fsm (l.set r.toNat f) := sum_set fsm _ hl
    exact ⟨g2.set (hlo.set hfj.1), by simp only; omega, fun _ => by simp only; omega⟩
  · rw [w64_up g0 (by omega)]; simp only; omega
  · rw [w64_up g0 (by omega)]; simp only; omega
  · rw [w64_up g0 (by omega)]; simp only; omega
theorem after_tot {code : List Quad} {q : Quad} {m : Int} {fs : List Fact} (hq : QOk m q) (hf : FsOk fs) : Tot (spec_l33After q fs) FsOk := by
  unfold spec_l33After
  refine .bind (.app (by simp [hf.1])) fun l hl => ?_
  rw [List.nil_append] at hl
  subst hl
  have h12 := hf.1
  have rg : ∀ {x : Int}, Rg x → 0 ≤ x ∧ x < l.length := fun h => by unfold Rg at h; omega
  refine .sel (fun h => ?_) fun _ => .sel (fun h => ?_) fun _ => .sel (fun h => ?_) fun _ => .sel (fun h => ?_) fun _ => .pure hf
  all_goals (simp only [beq_iff_eq] at h; unfold QOk at hq; simp [h] at hq)
  · exact .bind (.nth (rg hq.1).1 (rg hq.1).2) fun _ _ => .bind (.upd (rg hq.1).1 (rg hq.1).2) fun r hr => .pure (hr ▸ hf.set (.inr (.inl ⟨rfl, hq.2.2.2⟩)))
  · exact .bind (.nth (rg hq.2.1).1 (rg hq.2.1).2) fun x hx => .bind (.nth (rg hq.1).1 (rg hq.1).2) fun _ _ => .bind (.upd (rg hq.1).1 (rg hq.1).2) fun r hr => .pure (hr ▸ hf.set (hf.2 x hx.2))
  · exact .bind (.nth (rg hq.1).1 (rg hq.1).2) fun _ _ => .bind (.upd (rg hq.1).1 (rg hq.1).2) fun r hr => .pure (hr ▸ hf.set (.inr (.inr ⟨rfl, rfl⟩)))
  · refine .bind (.nth (rg hq.2.1).1 (rg hq.2.1).2) fun x hx => .bind (.nth (rg hq.2.2.1).1 (rg hq.2.2.1).2) fun y hy => .bind (P := FOk) ?_ fun f hf' => .bind (.nth (rg hq.1).1 (rg hq.1).2) fun _ _ => .bind (.upd (rg hq.1).1 (rg hq.1).2) fun r hr => .pure (hr ▸ hf.set hf')
    have hx' := hf.2 x hx.2
    have hy' := hf.2 y hy.2
    unfold spec_l33Result
    refine .sel (fun _ => .pure (.inr (.inr ⟨rfl, rfl⟩))) fun hk => ?_
    simp only [Bool.or_eq_false_iff, bne_eq_false_iff_eq] at hk
    have hxw : Wd x.N := by rcases hx' with h | h | h <;> first | exact h.2 | omega
    have hyw : Wd y.N := by rcases hy' with h | h | h <;> first | exact h.2 | omega
    exact .bind (apply_tot hq.2.2.2 hxw hyw) fun r hr => .pure (.inr (.inl ⟨rfl, hr⟩))
theorem edges_tot {code : List Quad} {fs : List Fact} {i : Int} (hc : COk code) (hf : FsOk fs) (h0 : 0 ≤ i) (h1 : i < code.length) : Tot (spec_l33Edges code fs i) fun l => l.length ≤ 2 ∧ ∀ x ∈ l, 0 ≤ x ∧ x < code.length := by
  unfold spec_l33Edges
  refine .bind (.nth h0 h1) fun q ⟨hq, hm⟩ => ?_
  have hv := hc.q q hm
  have hl := hc.max
  have h12 := hf.1
  refine .bind (P := fun b => b = false → q.Op = 5) (.sel (fun h => .pure (by simp)) fun h => ?_) fun b hb => .sel (fun _ => .bind (next_tot hc h0 h1) fun r hr => .pure hr) fun hbf => ?_
  · simp only [bne_eq_false_iff_eq] at h
    refine .bind (.nth (l := fs) ?_ ?_) fun x _ => .pure fun _ => h
    all_goals (unfold QOk at hv; simp [h] at hv; unfold Rg at hv; omega)
  · have h5 := hb hbf
    have hn := hc.nxt hq (by omega) (by omega)
    unfold QOk at hv
    simp [h5] at hv
    refine .bind (.nth (l := fs) (by unfold Rg at hv; omega) (by unfold Rg at hv; omega)) fun x _ => .sel (fun _ => .pure (by simp; omega)) fun _ => .pure ?_
    rw [w64_up h0 (by omega)]
    simp
    omega
theorem round_tot {code : List Quad} {all : List (List Fact)} (hc : COk code) (h : AOk code.length all) : Tot (spec_l33Round code all) fun r => AOk code.length r.2 ∧ am r.2 ≤ am all ∧ (r.1 = true → am r.2 < am all) := by
  unfold spec_l33Round
  have hl := hc.max
  refine .bind (.iter (fun s => 0 ≤ s.2.1 ∧ s.2.1 ≤ (code.length : Int) ∧ AOk code.length s.2.2 ∧ am s.2.2 ≤ am all ∧ (s.1 = true → am s.2.2 < am all)) (fun s => ((code.length : Int) - s.2.1).toNat) ⟨by simp, by simp, h, by simp, by simp⟩ fun s hs => ?_) fun r (hr : AOk code.length r.2 ∧ am r.2 ≤ am all ∧ (r.1 = true → am r.2 < am all)) => .pure hr
  obtain ⟨fresh, i, a⟩ := s
  obtain ⟨g0, g1, g2, g3, g4⟩ := hs
  simp only at g0 g1 g2 g3 g4
  unfold spec_l33Round_b5
  refine .sel (fun hlt => ?_) fun hlt => .inr ⟨g2, g3, g4⟩
  simp only [decide_eq_true_eq] at hlt
  refine .bind (P := fun z => AOk code.length z.2 ∧ am z.2 ≤ am all ∧ (z.1 = true → am z.2 < am all)) ?_ fun z hz => .inl ⟨⟨?_, ?_, hz⟩, ?_⟩
  · refine .bind (.nth g0 (by rw [g2.1]; exact hlt)) fun l ⟨hl', hm⟩ => ?_
    have hlo := g2.2 l hm
    refine .bind (.nth (by omega) (by rw [hlo.1]; omega)) fun x _ => .sel (fun _ => .pure ⟨g2, g3, g4⟩) fun _ => ?_
    refine .bind (edges_tot hc hlo g0 hlt) fun es he => .bind (.nth g0 hlt) fun q ⟨hq, hqm⟩ => .bind (after_tot (code := code) (hc.q q hqm) hlo) fun af haf => ?_
    refine .bind (.iter (fun s => 0 ≤ s.2.1 ∧ s.2.1 ≤ (es.length : Int) ∧ AOk code.length s.2.2 ∧ am s.2.2 ≤ am all ∧ (s.1 = true → am s.2.2 < am all)) (fun s => ((es.length : Int) - s.2.1).toNat) ⟨by simp, by simp, g2, g3, g4⟩ fun s hs => ?_) fun r (hr : AOk code.length r.2 ∧ am r.2 ≤ am all ∧ (r.1 = true → am r.2 < am all)) => .pure hr
    obtain ⟨fresh', j, a'⟩ := s
    obtain ⟨k0, k1, k2, k3, k4⟩ := hs
    simp only at k0 k1 k2 k3 k4
    unfold spec_l33Round_b7
    refine .sel (fun hlt' => ?_) fun _ => .inr ⟨k2, k3, k4⟩
    simp only [decide_eq_true_eq] at hlt'
    refine .bind (P := fun z => AOk code.length z.2 ∧ am z.2 ≤ am all ∧ (z.1 = true → am z.2 < am all)) ?_ fun z hz => .inl ⟨⟨?_, ?_, hz⟩, ?_⟩
    · refine .bind (.nth k0 hlt') fun e ⟨_, hem⟩ => .bind (carry_tot (all := a') k2 (he.2 e hem).1 (he.2 e hem).2 haf) fun r hr => .sel (fun hr1 => .pure ⟨hr.1, by simp only; omega, fun _ => by have := hr.2.2 hr1; simp only; omega⟩) fun _ => .pure ⟨hr.1, by simp only; omega, fun h => by have := k4 h; simp only; omega⟩
    all_goals (rw [w64_up k0 (by omega)]; simp only; omega)
  all_goals (rw [w64_up g0 (by omega)]; simp only; omega)
theorem facts_tot {code : List Quad} (hc : COk code) : Tot (spec_FactsOf code) (AOk code.length) := by
  unfold spec_FactsOf
  rw [codevalid_true hc, Option.bind_some]
  have hl := hc.max
  have h1 := hc.one
  refine .sf rfl ?_
  refine .bind (P := AOk code.length) (.iter (fun s => 0 ≤ s.2 ∧ s.2 ≤ (code.length : Int) ∧ AOk s.2.toNat s.1) (fun s => ((code.length : Int) - s.2).toNat) ⟨by simp, by simp, by simp [AOk]⟩ fun s hs => ?_) fun a0 ha0 => .bind (P := AOk code.length) (.iter (fun s => 0 ≤ s.1 ∧ s.1 ≤ 12 ∧ AOk code.length s.2) (fun s => (12 - s.1).toNat) ⟨by simp, by simp, ha0⟩ fun s hs => ?_) fun a1 ha1 =>
    .bind (P := AOk code.length) (.iter (fun s => AOk code.length s) am ha1 fun s hs => ?_) fun r hr => .pure hr
  · obtain ⟨a, i⟩ := s
    obtain ⟨g0, g1, g2⟩ := hs
    simp only at g0 g1 g2
    unfold spec_FactsOf_b1
    refine .sel (fun hlt => ?_) fun hlt => .inr ?_
    · simp only [decide_eq_true_eq] at hlt
      refine .bind (.mk (by omega) (by omega)) fun l hl' => .bind (.app (by simp [g2.1]; omega)) fun r hr => .inl ?_
      subst hr hl'
      rw [w64_up g0 (by omega)]
      refine ⟨⟨by simp only; omega, by simp only; omega, by simp [g2.1]; omega, fun l hl' => ?_⟩, by simp only; omega⟩
      simp only [List.mem_append, List.mem_singleton] at hl'
      rcases hl' with h | rfl
      · exact g2.2 l h
      · exact ⟨by simp, fun f hf => by rw [(List.mem_replicate.1 hf).2]; exact .inl ⟨rfl, rfl⟩⟩
    · simp only [decide_eq_false_iff_not] at hlt
      rw [show i.toNat = code.length by omega] at g2
      exact g2
  · obtain ⟨r, a⟩ := s
    obtain ⟨g0, g1, g2⟩ := hs
    simp only at g0 g1 g2
    unfold spec_FactsOf_b2
    refine .sel (fun hlt => ?_) fun hlt => .inr g2
    simp only [decide_eq_true_eq] at hlt
    refine .bind (.nth (by omega) (by rw [g2.1]; omega)) fun l ⟨_, hm⟩ => ?_
    have hlo := g2.2 l hm
    refine .bind (.nth g0 (by rw [hlo.1]; omega)) fun _ _ => .bind (.upd g0 (by rw [hlo.1]; omega)) fun l' hl' => .inl ?_
    subst hl'
    rw [w64_up g0 (by omega)]
    exact ⟨⟨by simp only; omega, by simp only; omega, g2.set (hlo.set (.inr (.inl ⟨rfl, by unfold Wd; simp⟩)))⟩, by simp only; omega⟩
  · unfold spec_FactsOf_b3
    exact .bind (round_tot hc hs) fun r hr => .sel (fun h => .inl ⟨hr.1, hr.2.2 h⟩) fun _ => .inr hr.1
end Go.Proofs.YtjpbdpfkhdekpaaGreatDoor.N
