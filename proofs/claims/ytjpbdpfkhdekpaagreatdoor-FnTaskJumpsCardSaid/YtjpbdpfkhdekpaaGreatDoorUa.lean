/- Plain laws: the instructions of a code: the program's are the reference's; places, jumps, colors. -/
import Derived.Test.YtjpbdpfkhdekpaaGreatDoorU9
set_option linter.unusedVariables false
namespace Go.Proofs.YtjpbdpfkhdekpaaGreatDoor.N
open Go.Proofs.YtjpbdpfkhdekpaaGreatDoor.X
def qAt (code : List Quad) (i : Nat) : Quad := (code[i]?).getD ⟨0, 0, 0, 0, 0⟩
theorem qAt_of {code : List Quad} {i : Nat} {q : Quad} (h : code[i]? = some q) : qAt code i = q := by unfold qAt; rw [h]; rfl
def pl (code : List Quad) (c : Int) : Nat → Nat
  | 0 => 0
  | i + 1 => pl code c i + (quadL (qAt code i) c 0).length
def offL (code : List Quad) (c : Int) (i : Nat) : Int := if (qAt code i).Op = 4 ∨ (qAt code i).Op = 5 then 4 * ((pl code c (qAt code i).N.toNat : Int) - pl code c i) else 0
def blk (code : List Quad) (c : Int) (i : Nat) : List Instr := quadL (qAt code i) c (offL code c i)
def tk (code : List Quad) (c : Int) : Nat → List Instr
  | 0 => []
  | i + 1 => tk code c i ++ blk code c i
def plL (code : List Quad) (c : Int) (n : Nat) : List Int := (List.range n).map fun i => (pl code c i : Int)
theorem pl_le (code : List Quad) (c : Int) : ∀ i, pl code c i ≤ 6 * i
  | 0 => Nat.le_refl _
  | i + 1 => by have := pl_le code c i; have := (quadL_len (qAt code i) c 0).2.1; simp only [pl]; omega
theorem tk_len (code : List Quad) (c : Int) : ∀ i, (tk code c i).length = pl code c i
  | 0 => rfl
  | i + 1 => by simp only [tk, pl, List.length_append, tk_len code c i, blk, (quadL_len (qAt code i) c (offL code c i)).2.2]
theorem plL_get {code : List Quad} {c : Int} {n i : Nat} (h : i < n) : (plL code c n)[i]? = some (pl code c i : Int) := by simp [plL, h]
theorem plL_len (code : List Quad) (c : Int) (n : Nat) : (plL code c n).length = n := by simp [plL]
theorem plL_nth {code : List Quad} {c : Int} {n : Nat} {i : Int} (h0 : 0 ≤ i) (h : i < n) : nth (plL code c n) i = some (pl code c i.toNat : Int) := by
  refine (Tot.nth (l := plL code c n) h0 (by rw [plL_len]; exact h)).mono (Q := fun x => x = (pl code c i.toNat : Int)) (fun x ⟨hx, _⟩ => ?_) |>.eq
  rw [plL_get (by omega)] at hx
  injection hx with hx
  exact hx.symm
theorem plL_succ (code : List Quad) (c : Int) (n : Nat) : plL code c (n + 1) = plL code c n ++ [(pl code c n : Int)] := by simp [plL, List.range_succ]
theorem COk.at {code : List Quad} (hc : COk code) {i : Int} (h0 : 0 ≤ i) (h1 : i < code.length) : ∃ q, nth code i = some q ∧ qAt code i.toNat = q ∧ QOk code.length q := by
  obtain ⟨q, e, h2, h3⟩ := Tot.nth (l := code) h0 h1
  exact ⟨q, e, qAt_of h2, hc.q q h3⟩
theorem splaces_eq {code : List Quad} (hc : COk code) {c : Int} (h : 1 ≤ c ∧ c ≤ 8) : spec_l43Places code c = some (plL code c code.length) := by
  have hmx := hc.max
  refine Tot.eq ?_
  unfold spec_l43Places
  refine .bind (P := fun r => r = plL code c code.length) (.iter (fun s => 0 ≤ s.2.2 ∧ s.2.2 ≤ (code.length : Int) ∧ s.1 = plL code c s.2.2.toNat ∧ s.2.1 = (pl code c s.2.2.toNat : Int)) (fun s => ((code.length : Int) - s.2.2).toNat) ⟨by simp, by simp, rfl, rfl⟩ fun s hs => ?_) fun r hr => .pure hr
  obtain ⟨out, a, i⟩ := s
  obtain ⟨g0, g1, g2, g3⟩ := hs
  simp only at g0 g1 g2 g3
  unfold spec_l43Places_b1
  refine .sel (fun hlt => ?_) fun hge => .inr (show out = _ from ?_)
  · simp only [decide_eq_true_eq] at hlt
    obtain ⟨q, e1, e2, hq⟩ := hc.at g0 hlt
    have hl := plL_len code c i.toNat
    have h6 := pl_le code c i.toNat
    have hql := (quadL_len q c 0).2.1
    refine .bind (.app (by subst g2; simp; omega)) fun r hr => ?_
    dsimp only
    rw [e1, Option.bind_some, squad_eq hq h (by omega), Option.bind_some, w64_up g0 (by omega), w64_s (by omega) (by omega)]
    have e3 : (i + 1).toNat = i.toNat + 1 := by omega
    refine .inl ⟨⟨by simp only; omega, by simp only; omega, ?_, ?_⟩, by simp only; omega⟩
    · simp only; rw [e3, plL_succ, hr, g2, g3]
    · simp only; rw [e3, pl, e2, g3]; simp
  · simp only [decide_eq_false_iff_not] at hge
    rw [g2, show i.toNat = code.length by omega]
theorem iplaces_eq {code : List Quad} (hc : COk code) {c : Int} (h : 1 ≤ c ∧ c ≤ 8) : impl_TaskPlaces code c = some (plL code c code.length) := by
  have hmx := hc.max
  refine Tot.eq ?_
  unfold impl_TaskPlaces
  obtain ⟨_, e, _⟩ := (icodevalid_eq code (by omega)).resolve_right fun h => h.1 hc
  rw [e, Option.bind_some]
  refine .sf (by simp; omega) (.bind (P := fun r => r = plL code c code.length) (.iter (fun s => 0 ≤ s.2.2 ∧ s.2.2 ≤ (code.length : Int) ∧ s.1 = plL code c s.2.2.toNat ∧ s.2.1 = (pl code c s.2.2.toNat : Int)) (fun s => ((code.length : Int) - s.2.2).toNat) ⟨by simp, by simp, rfl, rfl⟩ fun s hs => ?_) fun r hr => .pure hr)
  obtain ⟨out, a, i⟩ := s
  obtain ⟨g0, g1, g2, g3⟩ := hs
  simp only at g0 g1 g2 g3
  unfold impl_TaskPlaces_b1
  refine .sel (fun hlt => ?_) fun hge => .inr (show out = _ from ?_)
  · simp only [decide_eq_true_eq] at hlt
    obtain ⟨q, e1, e2, hq⟩ := hc.at g0 hlt
    have hl := plL_len code c i.toNat
    have h6 := pl_le code c i.toNat
    have hql := (quadL_len q c 0).2.1
    dsimp only
    rw [e1, Option.bind_some]
    refine .bind (.app (by subst g2; simp; omega)) fun r hr => ?_
    rw [iquadL_eq hq h (by omega), Option.bind_some, w64_up g0 (by omega), w64_s (by omega) (by omega)]
    have e3 : (i + 1).toNat = i.toNat + 1 := by omega
    refine .inl ⟨⟨by simp only; omega, by simp only; omega, ?_, ?_⟩, by simp only; omega⟩
    · simp only; rw [e3, plL_succ, hr, g2, g3]
    · simp only; rw [e3, pl, e2, g3]; simp
  · simp only [decide_eq_false_iff_not] at hge
    rw [g2, show i.toNat = code.length by omega]
theorem off_small {code : List Quad} (hc : COk code) {c : Int} {i : Nat} (hi : i < code.length) : -1000000 ≤ offL code c i ∧ offL code c i ≤ 1000000 := by
  have hmx := hc.max
  have hq := hc.q _ (List.mem_of_getElem? (List.getElem?_eq_getElem hi))
  have e : qAt code i = code[i] := qAt_of (List.getElem?_eq_getElem hi)
  unfold offL
  rw [e]
  split
  · rename_i h
    have hN : 0 ≤ (code[i]).N ∧ (code[i]).N < code.length := by unfold QOk at hq; rcases h with h | h <;> simp [h] at hq <;> omega
    have h1 := pl_le code c (code[i]).N.toNat
    have h2 := pl_le code c i
    omega
  · omega
theorem stask_eq {code : List Quad} (hc : COk code) {c : Int} (h : 1 ≤ c ∧ c ≤ 8) : spec_l43Task code c = some (tk code c code.length) := by
  have hmx := hc.max
  refine Tot.eq ?_
  unfold spec_l43Task
  rw [splaces_eq hc h, Option.bind_some]
  refine .bind (P := fun r => r = tk code c code.length) (.iter (fun s => 0 ≤ s.2 ∧ s.2 ≤ (code.length : Int) ∧ s.1 = tk code c s.2.toNat) (fun s => ((code.length : Int) - s.2).toNat) ⟨by simp, by simp, rfl⟩ fun s hs => ?_) fun r hr => .pure hr
  obtain ⟨out, i⟩ := s
  obtain ⟨g0, g1, g2⟩ := hs
  simp only at g0 g1 g2
  unfold spec_l43Task_b1
  refine .sel (fun hlt => ?_) fun hge => .inr (show out = _ from ?_)
  · simp only [decide_eq_true_eq] at hlt
    obtain ⟨q, e1, e2, hq⟩ := hc.at g0 hlt
    have h6 := pl_le code c i.toNat
    have hql := (quadL_len q c (offL code c i.toNat)).2.1
    have hof := off_small hc (c := c) (i := i.toNat) (by omega)
    dsimp only
    rw [e1]
    simp only [Option.bind_some]
    refine .bind (P := fun y => y = offL code c i.toNat) (.bind (P := fun b => b = true ↔ (q.Op = 4 ∨ q.Op = 5)) (.sel (fun h => .pure ?_) fun h => .pure ?_) fun b hb => .sel (fun h => ?_) fun h => .pure ?_) fun y hy => ?_
    · simp at h; simp [h]
    · simp at h; simp [h]
    · have ho := hb.1 h
      have hN : 0 ≤ q.N ∧ q.N < code.length := by unfold QOk at hq; rcases ho with h | h <;> simp [h] at hq <;> omega
      have h7 := pl_le code c q.N.toNat
      rw [plL_nth hN.1 hN.2, plL_nth g0 hlt, Option.bind_some, Option.bind_some, w64_s (i := _ - _) (by omega) (by omega), w64_s (by omega) (by omega)]
      unfold offL
      rw [e2, if_pos ho]; exact .pure rfl
    · unfold offL; rw [e2, if_neg (fun hh => by rw [hb.2 hh] at h; cases h)]
    · subst hy
      rw [squad_eq hq h hof, Option.bind_some]
      refine .bind (.app (by subst g2; rw [tk_len]; omega)) fun r hr => .inl ?_
      rw [w64_up g0 (by omega)]
      refine ⟨⟨by simp only; omega, by simp only; omega, ?_⟩, by simp only; omega⟩
      simp only
      rw [show (i + 1).toNat = i.toNat + 1 by omega, tk, hr, g2, blk, e2]
  · simp only [decide_eq_false_iff_not] at hge
    rw [g2, show i.toNat = code.length by omega]
theorem itask_eq {code : List Quad} (hc : COk code) {c : Int} (h : 1 ≤ c ∧ c ≤ 8) : impl_TaskInstrs code c = some (tk code c code.length, true) := by
  have hmx := hc.max
  have hone := hc.one
  refine Tot.eq ?_
  unfold impl_TaskInstrs
  rw [iplaces_eq hc h, Option.bind_some]
  have hne : List.isEmpty (plL code c code.length) = false := by
    rw [List.isEmpty_eq_false_iff]; intro e; have := plL_len code c code.length; rw [e] at this; simp at this; omega
  refine .sf hne (.bind (P := fun r => r = tk code c code.length) (.iter (fun s => 0 ≤ s.2 ∧ s.2 ≤ (code.length : Int) ∧ s.1 = tk code c s.2.toNat) (fun s => ((code.length : Int) - s.2).toNat) ⟨by simp, by simp, rfl⟩ fun s hs => ?_) fun r hr => .pure (by rw [hr]))
  obtain ⟨out, i⟩ := s
  obtain ⟨g0, g1, g2⟩ := hs
  simp only at g0 g1 g2
  unfold impl_TaskInstrs_b1
  refine .sel (fun hlt => ?_) fun hge => .inr (show out = _ from ?_)
  · simp only [decide_eq_true_eq] at hlt
    obtain ⟨q, e1, e2, hq⟩ := hc.at g0 hlt
    have h6 := pl_le code c i.toNat
    have hql := (quadL_len q c (offL code c i.toNat)).2.1
    have hof := off_small hc (c := c) (i := i.toNat) (by omega)
    dsimp only
    rw [e1]
    simp only [Option.bind_some, impl_hasTarget]
    refine .bind (P := fun y => y = offL code c i.toNat) (.sel (fun h => ?_) fun h => .pure ?_) fun y hy => ?_
    · have ho : q.Op = 4 ∨ q.Op = 5 := by simpa using h
      have hN : 0 ≤ q.N ∧ q.N < code.length := by unfold QOk at hq; rcases ho with h | h <;> simp [h] at hq <;> omega
      have h7 := pl_le code c q.N.toNat
      rw [plL_nth hN.1 hN.2, plL_nth g0 hlt, Option.bind_some, Option.bind_some, w64_s (i := _ - _) (by omega) (by omega), w64_s (by omega) (by omega)]
      unfold offL
      rw [e2, if_pos ho]; exact .pure rfl
    · unfold offL; rw [e2, if_neg (by simpa using h)]
    · subst hy
      rw [iquadL_eq hq h hof, Option.bind_some]
      refine .bind (.app (by subst g2; rw [tk_len]; omega)) fun r hr => .inl ?_
      rw [w64_up g0 (by omega)]
      refine ⟨⟨by simp only; omega, by simp only; omega, ?_⟩, by simp only; omega⟩
      simp only
      rw [show (i + 1).toNat = i.toNat + 1 by omega, tk, hr, g2, blk, e2]
  · simp only [decide_eq_false_iff_not] at hge
    rw [g2, show i.toNat = code.length by omega]
theorem both_eq (code : List Quad) (hl : code.length ≤ 1000) (c : Int) : (COk code ∧ (1 ≤ c ∧ c ≤ 8) ∧ impl_TaskInstrs code c = some (tk code c code.length, true) ∧ spec_TaskInstrs code c = some (tk code c code.length, true)) ∨ (impl_TaskInstrs code c = some ([], false) ∧ spec_TaskInstrs code c = some ([], false)) := by
  rcases icodevalid_eq code (by omega) with ⟨hc, e1, e2⟩ | ⟨hc, e1, e2⟩
  · by_cases h : 1 ≤ c ∧ c ≤ 8
    · refine .inl ⟨hc, h, itask_eq hc h, ?_⟩
      unfold spec_TaskInstrs
      rw [e2, Option.bind_some, in_eq]
      have : (decide (1 ≤ c) && decide (c ≤ 8)) = true := by simp [h]
      rw [this]
      simp only [Option.bind_some, Bool.not_true]
      rw [sel_false rfl, Option.bind_some, sel_false rfl, stask_eq hc h]; rfl
    · refine .inr ⟨?_, ?_⟩
      · unfold impl_TaskInstrs impl_TaskPlaces
        rw [e1, Option.bind_some, sel_true (by simp; omega), Option.bind_some]; rfl
      · unfold spec_TaskInstrs
        rw [e2, Option.bind_some, in_eq]
        have : (decide (1 ≤ c) && decide (c ≤ 8)) = false := by simp; omega
        rw [this]
        simp only [Option.bind_some, Bool.not_true, Bool.not_false]
        rw [sel_false rfl, Option.bind_some, sel_true rfl]
  · refine .inr ⟨?_, ?_⟩
    · unfold impl_TaskInstrs impl_TaskPlaces
      rw [e1, Option.bind_some, sel_true (by simp), Option.bind_some]; rfl
    · unfold spec_TaskInstrs
      rw [e2, Option.bind_some]
      simp only [Bool.not_false]
      rw [sel_true rfl, Option.bind_some, sel_true rfl]
/-! ### The laws -/
theorem same_refl {l : List Instr} (hl : l.length ≤ 1000000) : laws_sameInstrs l l = some true := by
  refine Tot.eq ?_
  unfold laws_sameInstrs
  refine .sf (by simp) (.bind (P := fun z => z = .inr ()) (.iter (fun i : Int => 0 ≤ i ∧ i ≤ l.length) (fun i => (l.length - i).toNat) ⟨by omega, by omega⟩ fun i ⟨g0, g1⟩ => ?_) fun z hz => by subst hz; exact .pure rfl)
  unfold laws_sameInstrs_b1
  refine .sel (fun h => ?_) fun _ => .inr rfl
  simp only [decide_eq_true_eq] at h
  refine .bind (.nth g0 h) fun x ⟨hx, _⟩ => .bind (.nth g0 h) fun y ⟨hy, _⟩ => ?_
  obtain rfl : x = y := Option.some.inj (hx.symm.trans hy)
  refine .sf (by simp) (.inl ?_)
  rw [w64_up g0 (by omega)]
  exact ⟨⟨by omega, by omega⟩, by omega⟩
/-- A law's begin: both answer alike; what is left is to be shown for valid codes. -/
theorem law_head {code : List Quad} {c : Int} (hl : code.length ≤ 1000) (hc : 0 ≤ c ∧ c ≤ 9) {K : List Instr × Bool → Option Bool} (hK : COk code → 1 ≤ c ∧ c ≤ 8 → K (tk code c code.length, true) = some true) :
    ((impl_TaskInstrs code c).bind fun y2 => (spec_TaskInstrs code c).bind fun y3 => (sel (y2.2 != y3.2) (some true) ((laws_sameInstrs y2.1 y3.1).bind fun y4 => some (!y4)) : Option Bool).bind fun b1 => sel (b1 || (!y2.2)) ((sel (y2.2 == y3.2) ((laws_sameInstrs y2.1 y3.1).bind fun y5 => some y5) (some false) : Option Bool).bind fun b2 => some b2) <| K y2) = some true := by
  rcases both_eq code hl c with ⟨h1, h2, e1, e2⟩ | ⟨e1, e2⟩
  · rw [e1, e2]
    simp only [Option.bind_some]
    have hlen : (tk code c code.length).length ≤ 1000000 := by rw [tk_len]; have := pl_le code c code.length; omega
    rw [sel_false (by simp), same_refl hlen]
    simp only [Option.bind_some, Bool.not_true, Bool.or_self]
    rw [sel_false rfl]
    exact hK h1 h2
  · rw [e1, e2]
    simp only [Option.bind_some]
    rw [sel_false (by simp), same_refl (by simp)]
    simp only [Option.bind_some, Bool.not_true, Bool.not_false, Bool.or_true]
    rw [sel_true rfl, sel_true (by simp)]; rfl
theorem quadL_mono (q : Quad) {c c' : Int} (h : c ≤ c') (off : Int) : (quadL q c' off).length ≤ (quadL q c off).length := by
  have r : ∀ p s, (rdL c' p s).length ≤ (rdL c p s).length := fun p s => by
    unfold rdL; split <;> split <;> simp; omega
  have w : ∀ p, (wrL c' p).length ≤ (wrL c p).length := fun p => by
    unfold wrL; split <;> split <;> simp; omega
  have k : ∀ r r', (constL r q.N).length = (constL r' q.N).length := fun r r' => by unfold constL; split <;> rfl
  have r1 := r q.A 5
  have r2 := r q.B 6
  have w1 := w q.Dst
  have k1 := k (rgOf c' q.Dst 7) (rgOf c q.Dst 7)
  unfold quadL callL
  repeat' split
  all_goals (simp only [List.length_append, List.length_cons, List.length_nil]; omega)
theorem pl_mono (code : List Quad) {c c' : Int} (h : c ≤ c') : ∀ i, pl code c' i ≤ pl code c i
  | 0 => Nat.le_refl _
  | i + 1 => by have := pl_mono code h i; have := quadL_mono (qAt code i) h 0; simp only [pl]; omega
theorem law_colors {k : Nat} (hk : 20 ≤ k) {a0 : List Int} (h : ∀ x ∈ a0, 0 ≤ x ∧ x ≤ 255) : laws_FnTaskColors k a0 = some true := by
  refine Tot.eq ?_
  unfold laws_FnTaskColors
  refine .sel (fun _ => .pure rfl) fun _ => .bind (drawTask_tot hk h) fun y ⟨h1, h2, h3⟩ => .of (law_head (by omega) ⟨h2, h3⟩ fun hc hr => ?_) rfl
  have h4 : 1 ≤ min (w64 (y.2 + 1)) 8 ∧ min (w64 (y.2 + 1)) 8 ≤ 8 ∧ y.2 ≤ min (w64 (y.2 + 1)) 8 := by rw [w64_s (by omega) (by omega)]; omega
  rw [itask_eq hc ⟨h4.1, h4.2.1⟩, Option.bind_some]
  have := pl_mono y.1 h4.2.2 y.1.length
  simp [tk_len]
  exact this
theorem bytes_wf {l : List Int} (h : ∀ x ∈ l, (fun n => (Lit.int .u8 n).wf = true) x) : ∀ x ∈ l, 0 ≤ x ∧ x ≤ 255 := fun x hx => by
  have h1 : (Lit.int .u8 x).wf = true := h x hx
  simp [Lit.wf, IntKind.min, IntKind.max, IntKind.signed, IntKind.bits] at h1
  omega
end Go.Proofs.YtjpbdpfkhdekpaaGreatDoor.N
