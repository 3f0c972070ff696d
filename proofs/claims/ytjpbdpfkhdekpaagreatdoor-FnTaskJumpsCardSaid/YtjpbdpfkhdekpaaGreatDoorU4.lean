/- Plain laws: DeadCode and SqueezeCode keep a code valid; a code is optimized. -/
import Derived.Test.YtjpbdpfkhdekpaaGreatDoorU3
set_option linter.unusedVariables false
namespace Go.Proofs.YtjpbdpfkhdekpaaGreatDoor.N
open Go.Proofs.YtjpbdpfkhdekpaaGreatDoor.X
/-! ### What follows, what is read and set -/
def nx (q : Quad) (i : Int) : List Int := if q.Op = 10 then [] else if q.Op = 4 then [q.N] else if q.Op = 5 ∧ q.N < i + 1 then [q.N, i + 1] else if q.Op = 5 ∧ q.N > i + 1 then [i + 1, q.N] else [i + 1]
theorem next_eq {code : List Quad} {i : Int} {q : Quad} (h0 : 0 ≤ i) (hi : code[i.toNat]? = some q) (hl : i ≤ 1000) : spec_l31Next code i = some (nx q i) := by
  refine Tot.eq ?_
  have hlt : i.toNat < code.length := by
    rcases Nat.lt_or_ge i.toNat code.length with h | h
    · exact h
    · rw [List.getElem?_eq_none h] at hi; cases hi
  unfold spec_l31Next
  refine .bind (.nth h0 (by omega)) fun q' ⟨hq, _⟩ => ?_
  obtain rfl : q = q' := Option.some.inj (hi.symm.trans hq)
  rw [w64_up h0 (by omega)]
  unfold nx
  refine .sel (fun h => .pure ?_) fun e1 => .sel (fun h => .pure ?_) fun e2 => .sel (fun h => .pure ?_) fun e3 => .sel (fun h => .pure ?_) fun e4 => .pure ?_
  all_goals simp only [beq_iff_eq, beq_eq_false_iff_ne, ne_eq, Bool.and_eq_true, Bool.and_eq_false_iff, decide_eq_true_eq, decide_eq_false_iff_not] at *
  · rw [if_pos h]
  · rw [if_neg e1, if_pos h]
  · rw [if_neg e1, if_neg e2, if_pos h]
  · rw [if_neg e1, if_neg e2, if_neg (by omega), if_pos h]
  · rw [if_neg e1, if_neg e2, if_neg (by omega), if_neg (by omega)]
theorem nx_in {code : List Quad} (hc : COk code) {i : Nat} {q : Quad} (hi : code[i]? = some q) : ∀ x ∈ nx q i, 0 ≤ x ∧ x < code.length := by
  have hlt : i < code.length := by
    rcases Nat.lt_or_ge i code.length with h | h
    · exact h
    · rw [List.getElem?_eq_none h] at hi; cases hi
  have hm := hc.max
  obtain ⟨l, e, h1, h2⟩ := next_tot hc (i := i) (by omega) (by omega)
  rw [next_eq (by omega) (by simpa using hi) (by omega)] at e
  injection e with e
  exact e ▸ h2
def usesL (q : Quad) : List Int := if q.Op = 2 ∨ q.Op = 5 ∨ q.Op = 6 ∨ q.Op = 9 then [q.A] else if q.Op = 3 then (if q.A = q.B then [q.A] else [min q.A q.B, max q.A q.B]) else []
def setsI (q : Quad) : Int := if q.Op = 1 ∨ q.Op = 2 ∨ q.Op = 3 ∨ q.Op = 7 then q.Dst else -1
theorem uses_eq {q : Quad} {m : Int} (h : QOk m q) (hm : m ≤ 600) : spec_QuadUses q = some (usesL q) := by
  refine Tot.eq ?_
  unfold spec_QuadUses usesL
  rw [quad_eq, decide_eq_true (h.mono hm), Option.bind_some]
  refine .sf rfl (.bind (P := fun b => b = true ↔ (q.Op = 2 ∨ q.Op = 5 ∨ q.Op = 6 ∨ q.Op = 9)) (.sel (fun h => .pure ?_) fun h => .sel (fun h' => .pure ?_) fun h' => .sel (fun h'' => .pure ?_) fun h'' => .pure ?_) fun b hb => .sel (fun h => .pure ?_) fun h => .sel (fun h' => .sel (fun h'' => .pure ?_) fun h'' => .pure ?_) fun h' => .pure ?_)
  all_goals try simp only [beq_iff_eq, beq_eq_false_iff_ne, ne_eq] at *
  · simp [h]
  · simp [h']
  · simp [h'']
  · simp [h, h', h'']
  · rw [if_pos (hb.1 h)]
  · rw [if_neg (fun hh => by rw [hb.2 hh] at h; cases h), if_pos h', if_pos h'']
  · rw [if_neg (fun hh => by rw [hb.2 hh] at h; cases h), if_pos h', if_neg h'']
  · rw [if_neg (fun hh => by rw [hb.2 hh] at h; cases h), if_neg h']
theorem uses_in {q : Quad} {m : Int} (h : QOk m q) : ∀ x ∈ usesL q, Rg x := by
  intro x hx
  unfold usesL at hx
  unfold QOk at h
  split at hx
  · rename_i h'
    rw [List.mem_singleton.1 hx]
    unfold Rg at *; omega
  · split at hx
    · rename_i h3
      simp [h3] at h
      split at hx
      · rw [List.mem_singleton.1 hx]; exact h.2.1
      · simp only [List.mem_cons, List.not_mem_nil, or_false] at hx
        unfold Rg at *; omega
    · simp at hx
theorem sets_eq' {q : Quad} {m : Int} (h : QOk m q) (hm : m ≤ 600) : spec_QuadSets q = some (setsI q) := sets_eq q h hm
theorem setsI_or {q : Quad} {m : Int} (h : QOk m q) : setsI q = -1 ∨ Rg (setsI q) := by
  unfold setsI
  unfold QOk at h
  split
  · right; unfold Rg at *; omega
  · exact .inl rfl
/-! ### Twelve flags -/
def Fn (l : List Bool) (g : Nat → Bool) : Prop := l.length = 12 ∧ ∀ k, k < 12 → l[k]? = some (g k)
theorem Fn.ext {l : List Bool} {g g' : Nat → Bool} (h : Fn l g) (he : ∀ k, k < 12 → g k = g' k) : Fn l g' := ⟨h.1, fun k hk => by rw [h.2 k hk, he k hk]⟩
theorem Fn.set {l : List Bool} {g : Nat → Bool} (h : Fn l g) (i : Nat) (b : Bool) : Fn (l.set i b) (fun k => if k = i then b else g k) := ⟨by rw [List.length_set]; exact h.1, fun k hk => by
  by_cases e : k = i
  · subst e; have : k < l.length := by rw [h.1]; exact hk
    rw [List.getElem?_set_self this]; simp
  · rw [List.getElem?_set_ne (fun h => e h.symm), h.2 k hk]; simp [e]⟩
theorem Fn.rep (b : Bool) : Fn (List.replicate 12 b) (fun _ => b) := ⟨by simp, fun k hk => by rw [List.getElem?_replicate, if_pos hk]⟩
theorem Fn.of {l : List Bool} (h : l.length = 12) : Fn l (fun k => (l[k]?).getD false) := ⟨h, fun k hk => by have h1 : l[k]? = some (l[k]'(by omega)) := List.getElem?_eq_getElem (by omega); simp only [h1, Option.getD_some]⟩
theorem Fn.inj {l l' : List Bool} {g : Nat → Bool} (h : Fn l g) (h' : Fn l' g) : l = l' := by
  apply List.ext_getElem?
  intro k
  rcases Nat.lt_or_ge k 12 with hk | hk
  · rw [h.2 k hk, h'.2 k hk]
  · rw [List.getElem?_eq_none (by rw [h.1]; exact hk), List.getElem?_eq_none (by rw [h'.1]; exact hk)]
def BsOk (n : Nat) (live : List (List Bool)) : Prop := live.length = n ∧ ∀ l ∈ live, l.length = 12
def lv (live : List (List Bool)) (x : Int) (r : Nat) : Bool := (((live[x.toNat]?).getD [])[r]?).getD false
theorem lv_of {live : List (List Bool)} {x : Int} {l : List Bool} (h : live[x.toNat]? = some l) : (fun r => lv live x r) = fun k => (l[k]?).getD false := by funext r; unfold lv; rw [h]; rfl
def afterB (live : List (List Bool)) (q : Quad) (i : Int) (r : Nat) : Bool := (nx q i).any fun x => lv live x r
theorem lafter_tot {code : List Quad} (hc : COk code) {live : List (List Bool)} (hl : BsOk code.length live) {i : Int} {q : Quad} (h0 : 0 ≤ i) (hi : code[i.toNat]? = some q) : Tot (spec_l32After code live i) fun l => Fn l (afterB live q i) := by
  have hlt : i.toNat < code.length := by
    rcases Nat.lt_or_ge i.toNat code.length with h | h
    · exact h
    · rw [List.getElem?_eq_none h] at hi; cases hi
  have hmx := hc.max
  have hnx := nx_in hc hi
  rw [show ((i.toNat : Nat) : Int) = i by omega] at hnx
  have hlen : (nx q i).length ≤ 2 := by unfold nx; repeat' split
                                        all_goals simp
  unfold spec_l32After
  rw [next_eq h0 hi (by omega)]
  refine .bind (.mk (by omega) (by decide)) fun l0 hl0 => ?_
  subst hl0
  rw [Option.bind_some]
  refine .bind (P := fun l => Fn l (afterB live q i)) (.iter (fun s => 0 ≤ s.1 ∧ s.1 ≤ ((nx q i).length : Int) ∧ Fn s.2 (fun r => ((nx q i).take s.1.toNat).any fun x => lv live x r)) (fun s => (((nx q i).length : Int) - s.1).toNat) ⟨by simp, by simp, ?_⟩ fun s hs => ?_) fun l h => .pure h
  · exact (Fn.rep false).ext fun k _ => by simp
  obtain ⟨j, l⟩ := s
  obtain ⟨g0, g1, g2⟩ := hs
  simp only at g0 g1 g2
  unfold spec_l32After_b3
  refine .sel (fun hlt' => ?_) fun hge => .inr (show Fn l (afterB live q i) from ?_)
  · simp only [decide_eq_true_eq] at hlt'
    have hj : j.toNat < (nx q i).length := by omega
    obtain ⟨x, hx⟩ : ∃ x, (nx q i)[j.toNat]? = some x := ⟨_, List.getElem?_eq_getElem hj⟩
    have hxm := hnx x (List.mem_of_getElem? hx)
    refine .bind (P := fun l' => Fn l' (fun r => ((nx q i).take (j + 1).toNat).any fun x => lv live x r)) (.iter (fun s => 0 ≤ s.1 ∧ s.1 ≤ 12 ∧ Fn s.2 (fun r => (((nx q i).take j.toNat).any fun x => lv live x r) || (decide ((r : Int) < s.1) && lv live x r))) (fun s => (12 - s.1).toNat) ⟨by simp, by simp, ?_⟩ fun s hs => ?_) fun l' h' => .inl ?_
    · refine g2.ext fun k _ => ?_
      have : decide ((k : Int) < 0) = false := by simp
      simp only [this, Bool.false_and, Bool.or_false]
    · obtain ⟨r, l'⟩ := s
      obtain ⟨k0, k1, k2⟩ := hs
      simp only at k0 k1 k2
      unfold spec_l32After_b4
      refine .sel (fun hr => ?_) fun hr => .inr (show Fn l' _ from k2.ext fun k hk => ?_)
      · simp only [decide_eq_true_eq] at hr
        have hrl : r < l'.length := by rw [k2.1]; exact hr
        have hr12 : r.toNat < 12 := by omega
        refine .bind (.nth k0 hrl) fun y ⟨hy, _⟩ => ?_
        have hy' := k2.2 r.toNat hr12
        rw [hy] at hy'
        injection hy' with hy'
        simp only at hy'
        refine .bind (P := fun b => b = (y || lv live x r.toNat)) (.sel (fun h => .pure (by rw [h]; rfl)) fun h => ?_) fun b hb => .bind (.nth k0 hrl) fun _ _ => .bind (.upd k0 hrl) fun r2 hr2 => .inl ?_
        · refine .bind (.nth g0 hlt') fun x2 ⟨hx2, _⟩ => ?_
          obtain rfl : x = x2 := Option.some.inj (hx.symm.trans hx2)
          refine .bind (.nth hxm.1 (by rw [hl.1]; exact hxm.2)) fun lx ⟨hlx, hlm⟩ => .bind (.nth k0 (by rw [hl.2 lx hlm]; exact hr)) fun z ⟨hz, _⟩ => .pure ?_
          rw [h]
          unfold lv
          rw [hlx]
          simp [hz]
        · subst hr2 hb
          rw [w64_up k0 (by omega)]
          refine ⟨⟨by simp only; omega, by simp only; omega, (k2.set r.toNat _).ext fun k hk => ?_⟩, by simp only; omega⟩
          simp only
          split
          · rename_i e
            subst e
            rw [hy']
            have h1 : decide (((r.toNat : Nat) : Int) < r) = false := by simp; omega
            have h2 : decide (((r.toNat : Nat) : Int) < r + 1) = true := by simp; omega
            rw [h1, h2]; simp
          · rename_i e
            have : decide ((k : Int) < r) = decide ((k : Int) < r + 1) := by rw [decide_eq_decide]; omega
            rw [this]
      · simp only [decide_eq_false_iff_not] at hr
        have h1 : decide ((k : Int) < r) = true := by simp; omega
        rw [h1, show (j + 1).toNat = j.toNat + 1 by omega, List.take_add_one, hx]
        simp [List.any_append]
    · rw [w64_up g0 (by omega)]
      exact ⟨⟨by simp only; omega, by simp only; omega, h'⟩, by simp only; omega⟩
  · simp only [decide_eq_false_iff_not] at hge
    refine g2.ext fun k _ => ?_
    rw [List.take_of_length_le (by omega)]
    rfl
def befB (q : Quad) (g : Nat → Bool) (r : Nat) : Bool := (usesL q).contains (r : Int) || (!decide ((r : Int) = setsI q) && g r)
theorem lbefore_tot {q : Quad} {m : Int} (hq : QOk m q) (hm : m ≤ 600) {l : List Bool} {g : Nat → Bool} (hl : Fn l g) : Tot (spec_l32Before q l) fun l' => Fn l' (befB q g) := by
  unfold spec_l32Before
  rw [sets_eq' hq hm, uses_eq hq hm]
  refine .bind (.app (by simp [hl.1])) fun r hr => ?_
  rw [List.nil_append] at hr
  subst hr
  simp only [Option.bind_some]
  have hs := setsI_or hq
  refine .bind (P := fun l' => Fn l' (fun r => !decide ((r : Int) = setsI q) && g r)) (.sel (fun h => ?_) fun h => .pure (hl.ext fun k _ => ?_)) fun l1 h1 => ?_
  · simp only [ge_iff_le, decide_eq_true_eq] at h
    have hr : Rg (setsI q) := hs.resolve_left (by omega)
    refine .bind (.nth (hr.lt hl.1).1 (hr.lt hl.1).2) fun _ _ => .bind (.upd (hr.lt hl.1).1 (hr.lt hl.1).2) fun r2 hr2 => .pure (hr2 ▸ (hl.set _ _).ext fun k _ => ?_)
    by_cases e : (k : Int) = setsI q
    · have h1 : k = (setsI q).toNat := by omega
      have h2 : decide ((k : Int) = setsI q) = true := by simpa using e
      simp only [h2, if_pos h1, Bool.not_true, Bool.false_and]
    · have h1 : ¬ k = (setsI q).toNat := by unfold Rg at hr; omega
      have h2 : decide ((k : Int) = setsI q) = false := by simpa using e
      simp only [h2, if_neg h1, Bool.not_false, Bool.true_and]
  · simp only [ge_iff_le, decide_eq_false_iff_not] at h
    have : ¬ (k : Int) = setsI q := by omega
    simp [this]
  have hlen : (usesL q).length ≤ 2 := by unfold usesL; repeat' split
                                         all_goals simp
  refine .bind (P := fun l' => Fn l' (befB q g)) (.iter (fun s => 0 ≤ s.1 ∧ s.1 ≤ ((usesL q).length : Int) ∧ Fn s.2 (fun r => ((usesL q).take s.1.toNat).contains (r : Int) || (!decide ((r : Int) = setsI q) && g r))) (fun s => (((usesL q).length : Int) - s.1).toNat) ⟨by simp, by simp, h1.ext fun k _ => by simp⟩ fun s hs => ?_) fun l h => .pure h
  obtain ⟨j, l2⟩ := s
  obtain ⟨g0, g1, g2⟩ := hs
  simp only at g0 g1 g2
  unfold spec_l32Before_b1
  refine .sel (fun hlt => ?_) fun hge => .inr (show Fn l2 (befB q g) from g2.ext fun k _ => ?_)
  · simp only [decide_eq_true_eq] at hlt
    refine .bind (.nth g0 hlt) fun x ⟨hx, hxm⟩ => ?_
    have hr := uses_in hq x hxm
    refine .bind (.nth (hr.lt g2.1).1 (hr.lt g2.1).2) fun _ _ => .bind (.upd (hr.lt g2.1).1 (hr.lt g2.1).2) fun r2 hr2 => .inl ?_
    subst hr2
    rw [w64_up g0 (by omega)]
    refine ⟨⟨by simp only; omega, by simp only; omega, (g2.set _ _).ext fun k _ => ?_⟩, by simp only; omega⟩
    have hx0 := (hr.lt g2.1).1
    have ht : (usesL q).take (j + 1).toNat = (usesL q).take j.toNat ++ [x] := by rw [show (j + 1).toNat = j.toNat + 1 by omega, List.take_add_one, hx]; rfl
    simp only [ht]
    by_cases e : (k : Int) = x
    · have h1 : k = x.toNat := by omega
      have h2 : ((usesL q).take j.toNat ++ [x]).contains (k : Int) = true := by rw [e]; simp
      rw [if_pos h1, h2, Bool.true_or]
    · have h1 : ¬ k = x.toNat := by omega
      have h2 : ((usesL q).take j.toNat ++ [x]).contains (k : Int) = ((usesL q).take j.toNat).contains (k : Int) := by
        rw [Bool.eq_iff_iff]; simp [e]
      rw [if_neg h1, h2]
  · simp only [decide_eq_false_iff_not] at hge
    rw [List.take_of_length_le (by omega)]
    rfl
theorem same_tot {a b : List Bool} (ha : a.length = 12) (hb : b.length = 12) : Tot (spec_l32Same a b) fun z => z = true ↔ a = b := by
  unfold spec_l32Same
  refine .bind (P := fun z => match z with | .inl y => y = false ∧ a ≠ b | .inr _ => a = b) (.iter (fun i : Int => 0 ≤ i ∧ i ≤ 12 ∧ ∀ (j : Nat), (j : Int) < i → a[j]? = b[j]?) (fun i => (12 - i).toNat) ⟨by omega, by omega, fun j h => by omega⟩ fun i ⟨h0, h1, h2⟩ => ?_) fun z hz => ?_
  · unfold spec_l32Same_b1
    refine .sel (fun h => ?_) fun h => .inr ?_
    · simp only [decide_eq_true_eq] at h
      refine .bind (.nth h0 h) fun x ⟨hx, _⟩ => .bind (.nth h0 (by omega)) fun y ⟨hy, _⟩ => .sel (fun he => .inr ⟨rfl, ?_⟩) fun he => .inl ?_
      · rintro rfl
        rw [hx] at hy
        injection hy with hy
        subst hy
        simp at he
      · rw [w64_up h0 (by omega)]
        refine ⟨⟨by omega, by omega, fun j hj => ?_⟩, by omega⟩
        by_cases e : (j : Int) = i
        · obtain rfl : j = i.toNat := by omega
          rw [hx, hy]
          simpa using he
        · exact h2 j (by omega)
    · simp only [decide_eq_false_iff_not] at h
      apply List.ext_getElem?
      intro j
      rcases Nat.lt_or_ge j 12 with hj | hj
      · exact h2 j (by omega)
      · rw [List.getElem?_eq_none (by omega), List.getElem?_eq_none (by omega)]
  · refine .both (fun y e => ?_) fun _ e => ?_
    · subst e; exact .pure (by rw [hz.1]; simpa using hz.2)
    · subst e; exact .pure (by simp [ha, hb]; exact hz)
/-! ### Flags that are set, never taken back -/
def bm (l : List Bool) : Nat := (l.map fun b => if b then 0 else 1).sum
theorem bm_lt : ∀ {l x : List Bool}, l.length = x.length → (∀ k : Nat, l[k]? = some true → x[k]? = some true) → bm x ≤ bm l ∧ (x ≠ l → bm x < bm l)
  | [], [], _, _ => ⟨Nat.le_refl _, fun h => absurd rfl h⟩
  | [], _ :: _, h, _ => by simp at h
  | _ :: _, [], h, _ => by simp at h
  | a :: l, b :: x, h, hk => by
    obtain ⟨h1, h2⟩ := bm_lt (l := l) (x := x) (by simpa using h) fun k hl => by simpa using hk (k + 1) (by simpa using hl)
    have h0 := hk 0
    simp only [List.getElem?_cons_zero, Option.some.injEq] at h0
    have e1 : bm (a :: l) = (if a then 0 else 1) + bm l := by simp [bm]
    have e2 : bm (b :: x) = (if b then 0 else 1) + bm x := by simp [bm]
    rw [e1, e2]
    cases a <;> cases b <;> simp at h0 ⊢
    · exact ⟨h1, h2⟩
    · omega
    · exact ⟨h1, h2⟩
def bms (live : List (List Bool)) : Nat := (live.map bm).sum
/-- Nobody is live without a reason. -/
def Pre (code : List Quad) (live : List (List Bool)) : Prop := ∀ (i : Nat) q, code[i]? = some q → ∀ r, r < 12 → lv live i r = true → befB q (afterB live q i) r = true
theorem after_mono {live live' : List (List Bool)} (h : ∀ (x : Int) r, lv live x r = true → lv live' x r = true) {q : Quad} {i : Int} {r : Nat} (ha : afterB live q i r = true) : afterB live' q i r = true := by
  unfold afterB at *
  rw [List.any_eq_true] at *
  obtain ⟨x, hx, hr⟩ := ha
  exact ⟨x, hx, h x r hr⟩
theorem bef_mono {q : Quad} {g g' : Nat → Bool} {r : Nat} (h : g r = true → g' r = true) (hb : befB q g r = true) : befB q g' r = true := by
  unfold befB at *
  simp only [Bool.or_eq_true, Bool.and_eq_true] at *
  exact hb.imp id fun hh => ⟨hh.1, h hh.2⟩
theorem lround_tot {code : List Quad} (hc : COk code) {live : List (List Bool)} (hl : BsOk code.length live) (hp : Pre code live) : Tot (spec_l32Round code live) fun r => BsOk code.length r.2 ∧ Pre code r.2 ∧ (r.1 = true → bms r.2 < bms live) := by
  have hmx := hc.max
  unfold spec_l32Round
  rw [w64_s (by omega) (by omega)]
  refine .bind (.iter (fun s => -1 ≤ s.2.1 ∧ s.2.1 < (code.length : Int) ∧ BsOk code.length s.2.2 ∧ Pre code s.2.2 ∧ bms s.2.2 ≤ bms live ∧ (s.1 = true → bms s.2.2 < bms live)) (fun s => (s.2.1 + 1).toNat) ⟨by simp only; omega, by simp only; omega, hl, hp, by simp, by simp⟩ fun s hs => ?_) fun r (hr : BsOk code.length r.2 ∧ Pre code r.2 ∧ bms r.2 ≤ bms live ∧ (r.1 = true → bms r.2 < bms live)) => .pure ⟨hr.1, hr.2.1, hr.2.2.2⟩
  obtain ⟨fresh, i, a⟩ := s
  obtain ⟨g0, g1, g2, g3, g4, g5⟩ := hs
  simp only at g0 g1 g2 g3 g4 g5
  unfold spec_l32Round_b1
  refine .sel (fun h => ?_) fun h => .inr ⟨g2, g3, g4, g5⟩
  simp only [ge_iff_le, decide_eq_true_eq] at h
  refine .bind (P := fun z => BsOk code.length z.2 ∧ Pre code z.2 ∧ bms z.2 ≤ bms live ∧ (z.1 = true → bms z.2 < bms live)) ?_ fun z hz => .inl ?_
  · refine .bind (.nth h g1) fun q ⟨hq, hqm⟩ => .bind (lafter_tot hc g2 h hq) fun af haf => .bind (lbefore_tot (hc.q q hqm) (by omega) haf) fun x hx => .bind (.nth h (by rw [g2.1]; exact g1)) fun l ⟨hl', hlm⟩ => ?_
    have hl12 := g2.2 l hlm
    refine .bind (same_tot hx.1 hl12) fun sm hsm => .sel (fun hne => .pure ?_) fun _ => .pure ⟨g2, g3, g4, g5⟩
    have hxl : x ≠ l := fun e => by rw [hsm.2 e] at hne; cases hne
    have hlv := lv_of hl'
    have hsub : ∀ k, l[k]? = some true → x[k]? = some true := fun k hk => by
      have hk12 : k < 12 := by
        rcases Nat.lt_or_ge k l.length with h | h
        · omega
        · rw [List.getElem?_eq_none h] at hk; cases hk
      have h1 : lv a i k = true := by have := congrFun hlv k; simp only at this; rw [this, hk]; rfl
      have h2 := g3 i.toNat q hq k hk12 (by rw [show ((i.toNat : Nat) : Int) = i by omega]; exact h1)
      rw [show ((i.toNat : Nat) : Int) = i by omega] at h2
      rw [hx.2 k hk12, h2]
    have hb := (bm_lt (by rw [hx.1, hl12]) hsub).2 hxl
    have e2 : bms (a.set i.toNat x) + bm l = bms a + bm x := sum_set bm x hl'
    have hlen : i.toNat < a.length := by rw [g2.1]; omega
    have hle : ∀ (y : Int) r, lv a y r = true → lv (a.set i.toNat x) y r = true := fun y r hy => by
      unfold lv at *
      by_cases e : y.toNat = i.toNat
      · rw [e] at hy ⊢
        rw [hl'] at hy
        rw [List.getElem?_set_self hlen]
        simp only [Option.getD_some] at *
        have hlr : l[r]? = some true := by
          cases hq' : l[r]? with
          | none => rw [hq'] at hy; simp at hy
          | some b => rw [hq'] at hy; simp at hy; rw [hy]
        rw [hsub r hlr]; rfl
      · rw [List.getElem?_set_ne (fun h => e h.symm)]; exact hy
    refine ⟨⟨by rw [List.length_set]; exact g2.1, fun y hy => (mem_set hy).elim (g2.2 y) fun e => e ▸ hx.1⟩, fun j p hj r hr hlr => ?_, by simp only; omega, fun _ => by simp only; omega⟩
    have hmono : ∀ r, afterB a p j r = true → afterB (a.set i.toNat x) p j r = true := fun r => after_mono hle
    refine bef_mono (hmono r) ?_
    by_cases e : j = i.toNat
    · subst e
      obtain rfl : q = p := Option.some.inj (hq.symm.trans hj)
      unfold lv at hlr
      rw [show (((i.toNat : Nat) : Int)).toNat = i.toNat by omega, List.getElem?_set_self hlen] at hlr
      simp only [Option.getD_some] at hlr
      rw [hx.2 r hr] at hlr
      rw [show ((i.toNat : Nat) : Int) = i by omega]
      exact hlr
    · refine g3 j p hj r hr ?_
      unfold lv at hlr ⊢
      rw [show (((j : Nat) : Int)).toNat = j by omega] at *
      rw [List.getElem?_set_ne (fun h => e h.symm)] at hlr
      exact hlr
  · rw [w64_s (i := i - 1) (by omega) (by omega)]
    exact ⟨⟨by simp only; omega, by simp only; omega, hz⟩, by simp only; omega⟩
theorem live_tot {code : List Quad} (hc : COk code) : Tot (spec_LiveOf code) (BsOk code.length) := by
  have hmx := hc.max
  unfold spec_LiveOf
  rw [codevalid_true hc, Option.bind_some]
  refine .sf rfl (.bind (P := fun s => BsOk code.length s ∧ ∀ x r, lv s x r = false) (.iter (fun s => 0 ≤ s.2 ∧ s.2 ≤ (code.length : Int) ∧ s.1 = List.replicate s.2.toNat (List.replicate 12 false)) (fun s => ((code.length : Int) - s.2).toNat) ⟨by simp, by simp, by simp⟩ fun s hs => ?_) fun a0 ha0 => .bind (P := BsOk code.length) (.iter (fun s => BsOk code.length s ∧ Pre code s) bms ⟨ha0.1, fun i q _ r _ h => by rw [ha0.2] at h; cases h⟩ fun s hs => ?_) fun r hr => .pure hr)
  · obtain ⟨a, i⟩ := s
    obtain ⟨g0, g1, g2⟩ := hs
    simp only at g0 g1 g2
    unfold spec_LiveOf_b1
    refine .sel (fun hlt => ?_) fun hlt => .inr (show BsOk code.length a ∧ ∀ x r, lv a x r = false from ?_)
    · simp only [decide_eq_true_eq] at hlt
      refine .bind (.mk (by omega) (by decide)) fun l hl' => .bind (.app (by rw [g2]; simp; omega)) fun r hr => .inl ?_
      subst hr hl' g2
      rw [w64_up g0 (by omega)]
      refine ⟨⟨by simp only; omega, by simp only; omega, ?_⟩, by simp only; omega⟩
      simp only
      rw [show (i + 1).toNat = i.toNat + 1 by omega]
      rw [List.replicate_succ' (n := i.toNat)]
      rfl
    · simp only [decide_eq_false_iff_not] at hlt
      subst g2
      refine ⟨⟨by simp; omega, fun l hl => by rw [(List.mem_replicate.1 hl).2]; simp⟩, fun x r => ?_⟩
      unfold lv
      rw [List.getElem?_replicate]
      split
      · rw [Option.getD_some, List.getElem?_replicate]
        split <;> rfl
      · rfl
  · unfold spec_LiveOf_b2
    exact .bind (lround_tot hc hs.1 hs.2) fun r hr => .sel (fun h => .inl ⟨⟨hr.1, hr.2.1⟩, hr.2.2 h⟩) fun _ => .inr hr.1
theorem dead_tot {q : Quad} {m : Int} (hq : QOk m q) {l : List Bool} (hl : l.length = 12) : Tot (spec_l35Dead q l) fun b => b = true → q.Op = 1 ∨ q.Op = 2 ∨ q.Op = 3 := by
  unfold spec_l35Dead
  refine .bind (P := fun b => b = true ↔ (q.Op = 1 ∨ q.Op = 2 ∨ q.Op = 3)) (.sel (fun h => .pure ?_) fun h => .sel (fun h' => .pure ?_) fun h' => .pure ?_) fun b hb => .sel (fun h => ?_) fun _ => .pure (by simp)
  · simp only [beq_iff_eq] at *; simp [h]
  · simp only [beq_iff_eq] at *; simp [h']
  · simp only [beq_eq_false_iff_ne, ne_eq] at *; simp [h, h']
  · have ho := hb.1 h
    have hd : Rg q.Dst := by unfold QOk at hq; unfold Rg at *; omega
    exact .bind (.nth (hd.lt hl).1 (hd.lt hl).2) fun _ _ => .pure fun _ => ho
theorem deadCode_ok : PassOk spec_DeadCode := fun {code} hc => by
  unfold spec_DeadCode
  rw [codevalid_true hc, Option.bind_some]
  have hl := hc.max
  refine .sf rfl (.bind (live_tot hc) fun bs hbs => .bind (map_loop (n := code.length) (fun i q' => ∃ q : Quad, code[i]? = some q ∧ QOk code.length q' ∧ (q.Op = 10 ∨ q.Op = 4 → q'.Op = 10 ∨ q'.Op = 4)) hc.max (fun i out h0 h1 h2 => ?_) fun out => ?_) fun out ho => .pure ⟨hc.alike ho, rfl, by rw [ho.1]; exact Nat.le_refl _⟩)
  · unfold spec_DeadCode_b1
    refine .st (by simpa using h1) (.bind (.nth h0 h1) fun q ⟨hq, hqm⟩ => .bind (P := fun q' => QOk code.length q' ∧ (q.Op = 10 ∨ q.Op = 4 → q'.Op = 10 ∨ q'.Op = 4)) (.bind (lafter_tot hc hbs h0 hq) fun af haf => .bind (dead_tot (hc.q q hqm) haf.1) fun b hb => .sel (fun h => .pure ?_) fun _ => .pure ⟨hc.q q hqm, id⟩) fun q' hq' => .bind (.app (by simp [h2]; omega)) fun r hr => .pure ⟨q', ?_, q, hq, hq'⟩)
    · have ho := hb h
      have hn := hc.nxt hq (by omega) (by omega)
      rw [w64_up h0 (by omega)]
      exact ⟨.inr (.inr (.inr (.inl ⟨rfl, rfl, rfl, rfl, by simp only; omega, by simp only; omega⟩))), fun h' => by omega⟩
    · rw [w64_up h0 (by omega), hr]
  · unfold spec_DeadCode_b1; rw [sel_false (by simp)]
end Go.Proofs.YtjpbdpfkhdekpaaGreatDoor.N
