/- Plain laws: SqueezeCode keeps a code valid; a code is optimized. -/
import Derived.Test.YtjpbdpfkhdekpaaGreatDoorU4
set_option linter.unusedVariables false
namespace Go.Proofs.YtjpbdpfkhdekpaaGreatDoor.N
open Go.Proofs.YtjpbdpfkhdekpaaGreatDoor.X
theorem getD_true {l : List Bool} {i : Nat} : (l[i]?).getD false = true ↔ l[i]? = some true := by
  cases h : l[i]? with
  | none => simp
  | some b => simp
theorem lt_of_get {α : Type} {l : List α} {i : Nat} {a : α} (h : l[i]? = some a) : i < l.length := by
  rcases Nat.lt_or_ge i l.length with h' | h'
  · exact h'
  · rw [List.getElem?_eq_none h'] at h; cases h
/-! ### What is reached -/
def Closed (code : List Quad) (seen : List Bool) (m : Int) : Prop := ∀ (i : Nat) q, (i : Int) < m → code[i]? = some q → seen[i]? = some true → ∀ x ∈ nx q i, seen[x.toNat]? = some true
theorem bm_set {l : List Bool} {i : Nat} (h : l[i]? = some false) : bm (l.set i true) < bm l := by
  have : bm (l.set i true) + 1 = bm l + 0 := sum_set (fun b => if b then 0 else 1) true h
  omega
theorem spread_tot {code : List Quad} (hc : COk code) {seen : List Bool} (hs : seen.length = code.length) : Tot (spec_l31Spread code seen) fun r => r.2.length = code.length ∧ (∀ (k : Nat), seen[k]? = some true → r.2[k]? = some true) ∧ (r.1 = true → bm r.2 < bm seen) ∧ (r.1 = false → r.2 = seen ∧ Closed code seen code.length) := by
  have hmx := hc.max
  unfold spec_l31Spread
  refine .bind (.iter (fun s => 0 ≤ s.2.1 ∧ s.2.1 ≤ (code.length : Int) ∧ s.2.2.length = code.length ∧ (∀ (k : Nat), seen[k]? = some true → s.2.2[k]? = some true) ∧ bm s.2.2 ≤ bm seen ∧ (s.1 = true → bm s.2.2 < bm seen) ∧ (s.1 = false → s.2.2 = seen ∧ Closed code seen s.2.1)) (fun s => ((code.length : Int) - s.2.1).toNat) ⟨by simp, by simp, hs, by simp, by simp, by simp, fun _ => ⟨rfl, fun i q h => by simp only at h; omega⟩⟩ fun s hs => ?_)
    fun r (hr : r.2.length = code.length ∧ (∀ (k : Nat), seen[k]? = some true → r.2[k]? = some true) ∧ (r.1 = true → bm r.2 < bm seen) ∧ (r.1 = false → r.2 = seen ∧ Closed code seen code.length)) => .pure hr
  obtain ⟨fresh, i, a⟩ := s
  obtain ⟨g0, g1, g2, g3, g4, g5, g6⟩ := hs
  simp only at g0 g1 g2 g3 g4 g5 g6
  unfold spec_l31Spread_b5
  refine .sel (fun hlt => ?_) fun hge => .inr (show a.length = code.length ∧ (∀ (k : Nat), seen[k]? = some true → a[k]? = some true) ∧ (fresh = true → bm a < bm seen) ∧ (fresh = false → a = seen ∧ Closed code seen code.length) from ?_)
  rotate_left
  · simp only [decide_eq_false_iff_not] at hge
    exact ⟨g2, g3, g5, fun h => by have := g6 h; rw [show i = (code.length : Int) by omega] at this; exact this⟩
  simp only [decide_eq_true_eq] at hlt
  refine .bind (P := fun z => z.2.length = code.length ∧ (∀ (k : Nat), seen[k]? = some true → z.2[k]? = some true) ∧ bm z.2 ≤ bm seen ∧ (z.1 = true → bm z.2 < bm seen) ∧ (z.1 = false → z.2 = seen ∧ Closed code seen (i + 1))) ?_ fun z hz => .inl ?_
  · refine .bind (.nth g0 (by rw [g2]; exact hlt)) fun b ⟨hb, _⟩ => .sel (fun hbf => .pure ⟨g2, g3, g4, g5, fun h => ⟨(g6 h).1, fun j q hj hq hsj => ?_⟩⟩) fun hbt => ?_
    · by_cases e : (j : Int) = i
      · obtain rfl : j = i.toNat := by omega
        rw [← (g6 h).1, hb] at hsj
        injection hsj with hsj
        subst hsj
        simp at hbf
      · exact (g6 h).2 j q (by omega) hq hsj
    have hbt' : b = true := by simpa using hbt
    subst hbt'
    obtain ⟨q, hq⟩ : ∃ q, code[i.toNat]? = some q := ⟨_, List.getElem?_eq_getElem (by omega)⟩
    have hnx := nx_in hc hq
    rw [show ((i.toNat : Nat) : Int) = i by omega] at hnx
    rw [next_eq g0 hq (by omega), Option.bind_some]
    have hlen : (nx q i).length ≤ 2 := by unfold nx; repeat' split
                                          all_goals simp
    refine .bind (.iter (fun s => 0 ≤ s.2.1 ∧ s.2.1 ≤ ((nx q i).length : Int) ∧ s.2.2.length = code.length ∧ (∀ (k : Nat), seen[k]? = some true → s.2.2[k]? = some true) ∧ bm s.2.2 ≤ bm seen ∧ (s.1 = true → bm s.2.2 < bm seen) ∧ (s.1 = false → s.2.2 = seen ∧ Closed code seen i ∧ ∀ x ∈ (nx q i).take s.2.1.toNat, seen[x.toNat]? = some true)) (fun s => (((nx q i).length : Int) - s.2.1).toNat) ⟨by simp, by simp, g2, g3, g4, g5, fun h => ⟨(g6 h).1, (g6 h).2, by simp⟩⟩ fun s hs => ?_)
      fun r (hr : r.2.length = code.length ∧ (∀ (k : Nat), seen[k]? = some true → r.2[k]? = some true) ∧ bm r.2 ≤ bm seen ∧ (r.1 = true → bm r.2 < bm seen) ∧ (r.1 = false → r.2 = seen ∧ Closed code seen (i + 1))) => .pure hr
    obtain ⟨fresh', j, a'⟩ := s
    obtain ⟨k0, k1, k2, k3, k4, k5, k6⟩ := hs
    simp only at k0 k1 k2 k3 k4 k5 k6
    unfold spec_l31Spread_b7
    refine .sel (fun hlt' => ?_) fun hge' => .inr (show a'.length = code.length ∧ (∀ (k : Nat), seen[k]? = some true → a'[k]? = some true) ∧ bm a' ≤ bm seen ∧ (fresh' = true → bm a' < bm seen) ∧ (fresh' = false → a' = seen ∧ Closed code seen (i + 1)) from ⟨k2, k3, k4, k5, fun h => ⟨(k6 h).1, fun m p hm hp hsm => ?_⟩⟩)
    · simp only [decide_eq_true_eq] at hlt'
      refine .bind (P := fun z => z.2.length = code.length ∧ (∀ (k : Nat), seen[k]? = some true → z.2[k]? = some true) ∧ bm z.2 ≤ bm seen ∧ (z.1 = true → bm z.2 < bm seen) ∧ (z.1 = false → z.2 = seen ∧ Closed code seen i ∧ ∀ x ∈ (nx q i).take (j + 1).toNat, seen[x.toNat]? = some true)) ?_ fun z hz => .inl ?_
      · refine .bind (.nth k0 hlt') fun x ⟨hx, hxm⟩ => ?_
        have hxr := hnx x hxm
        have hxl : x < a'.length := by rw [k2]; exact hxr.2
        refine .bind (.nth hxr.1 hxl) fun b ⟨hb2, _⟩ => .sel (fun hbf => ?_) fun hbt => .pure ⟨k2, k3, k4, k5, fun h => ⟨(k6 h).1, (k6 h).2.1, fun y hy => ?_⟩⟩
        · refine .bind (.nth k0 hlt') fun x2 ⟨hx2, _⟩ => ?_
          obtain rfl : x = x2 := Option.some.inj (hx.symm.trans hx2)
          refine .bind (.nth hxr.1 hxl) fun _ _ => .bind (.upd hxr.1 hxl) fun r hr => .pure ?_
          subst hr
          have hbf' : b = false := by simpa using hbf
          subst hbf'
          have hb3 : a'[x.toNat]? = some false := hb2
          have h4 := bm_set hb3
          refine ⟨by rw [List.length_set]; exact k2, fun k hk => ?_, by simp only; omega, fun _ => by simp only; omega, fun h => by cases h⟩
          simp only
          by_cases e : x.toNat = k
          · subst e; rw [List.getElem?_set_self (lt_of_get hb2)]
          · rw [List.getElem?_set_ne e]; exact k3 k hk
        · rw [show (j + 1).toNat = j.toNat + 1 by omega, List.take_add_one, hx] at hy
          simp only [Option.toList_some, List.mem_append, List.mem_singleton] at hy
          rcases hy with hy | rfl
          · exact (k6 h).2.2 y hy
          · rw [← (k6 h).1, hb2]; simpa using hbt
      · rw [w64_up k0 (by omega)]
        exact ⟨⟨by simp only; omega, by simp only; omega, hz⟩, by simp only; omega⟩
    · simp only [decide_eq_false_iff_not] at hge'
      have k7 := (k6 h).2.2
      rw [List.take_of_length_le (by omega)] at k7
      by_cases e : (m : Int) = i
      · obtain rfl : m = i.toNat := by omega
        obtain rfl : q = p := Option.some.inj (hq.symm.trans hp)
        rw [show ((i.toNat : Nat) : Int) = i by omega]
        exact k7
      · exact (k6 h).2.1 m p (by omega) hp hsm
  · rw [w64_up g0 (by omega)]
    exact ⟨⟨by simp only; omega, by simp only; omega, hz⟩, by simp only; omega⟩
theorem reach_tot {code : List Quad} (hc : COk code) : Tot (spec_CodeReach code) fun seen => seen.length = code.length ∧ seen[0]? = some true ∧ Closed code seen code.length := by
  have hmx := hc.max
  have h1 := hc.one
  unfold spec_CodeReach
  rw [codevalid_true hc, Option.bind_some]
  refine .sf rfl (.bind (.mk (by omega) (by omega)) fun l hl => ?_)
  subst hl
  refine .bind (.nth (by omega) (by simp; omega)) fun _ _ => .bind (.upd (by omega) (by simp; omega)) fun l2 hl2 => ?_
  have h0 : l2.length = code.length ∧ l2[0]? = some true := by
    subst hl2
    refine ⟨by simp, ?_⟩
    rw [show (0 : Int).toNat = 0 from rfl, List.getElem?_set_self (by simp; omega)]
  refine .bind (P := fun seen => seen.length = code.length ∧ seen[0]? = some true ∧ Closed code seen code.length) (.iter (fun s => s.length = code.length ∧ s[0]? = some true) bm h0 fun s hs => ?_) fun r hr => .pure hr
  unfold spec_CodeReach_b1
  exact .bind (spread_tot hc hs.1) fun r hr => .sel (fun h => .inl ⟨⟨hr.1, hr.2.1 0 hs.2⟩, hr.2.2.1 h⟩) fun h => .inr (by
    obtain ⟨e, hcl⟩ := hr.2.2.2 h
    rw [e]; exact ⟨hs.1, hs.2, hcl⟩)
/-! ### SqueezeCode -/
def idleB (q : Quad) (i : Int) : Bool := if q.Op = 4 ∨ q.Op = 5 then q.N == i + 1 else if q.Op = 2 then q.Dst == q.A else false
theorem idle_eq (q : Quad) {i : Int} (h0 : 0 ≤ i) (h : i ≤ 1000) : spec_l36Idle q i = some (idleB q i) := by
  refine Tot.eq ?_
  unfold spec_l36Idle idleB
  rw [w64_up h0 (by omega)]
  refine .bind (P := fun b => b = true ↔ (q.Op = 4 ∨ q.Op = 5)) (.sel (fun h => .pure ?_) fun h => .pure ?_) fun b hb => .sel (fun h => .pure (by rw [if_pos (hb.1 h)])) fun h => .sel (fun h' => .pure ?_) fun h' => .pure ?_
  · simp only [beq_iff_eq] at *; simp [h]
  · simp only [beq_eq_false_iff_ne, ne_eq] at *; simp [h]
  · rw [if_neg (fun hh => by rw [hb.2 hh] at h; cases h), if_pos (by simpa using h')]
  · rw [if_neg (fun hh => by rw [hb.2 hh] at h; cases h), if_neg (by simpa using h')]
def cnt (K : Nat → Bool) : Nat → Nat
  | 0 => 0
  | m + 1 => cnt K m + if K m then 1 else 0
theorem cnt_le (K : Nat → Bool) : ∀ m, cnt K m ≤ m
  | 0 => Nat.le_refl _
  | m + 1 => by have := cnt_le K m; simp only [cnt]; split <;> omega
theorem cnt_mono (K : Nat → Bool) {a : Nat} : ∀ {b : Nat}, a ≤ b → cnt K a ≤ cnt K b
  | 0, h => by have : a = 0 := by omega
               subst this; exact Nat.le_refl _
  | b + 1, h => by
    by_cases e : a = b + 1
    · subst e; exact Nat.le_refl _
    · have := cnt_mono K (a := a) (b := b) (by omega); simp only [cnt]; omega
theorem cnt_lt (K : Nat → Bool) {a j n : Nat} (h : a ≤ j) (hj : j < n) (hk : K j = true) : cnt K a < cnt K n := by
  have h1 := cnt_mono K h
  have h2 := cnt_mono K (show j + 1 ≤ n from hj)
  simp only [cnt, hk, if_true] at h2
  omega
def kp (keep : List Bool) (j : Nat) : Bool := (keep[j]?).getD false
theorem place_tot {keep : List Bool} {m : Int} (h0 : 0 ≤ m) (h1 : m ≤ keep.length) (hl : keep.length ≤ 1000) : Tot (spec_l36Place keep m) fun r => r = (cnt (kp keep) m.toNat : Int) := by
  unfold spec_l36Place
  refine .bind (P := fun r => r = (cnt (kp keep) m.toNat : Int)) (.iter (fun s => 0 ≤ s.2 ∧ s.2 ≤ m ∧ s.1 = (cnt (kp keep) s.2.toNat : Int)) (fun s => (m - s.2).toNat) ⟨by simp, by simpa using h0, rfl⟩ fun s hs => ?_) fun r hr => .pure hr
  obtain ⟨c, i⟩ := s
  obtain ⟨g0, g1, g2⟩ := hs
  simp only at g0 g1 g2
  unfold spec_l36Place_b1
  refine .sel (fun hlt => ?_) fun hge => .inr (show c = _ from ?_)
  · simp only [decide_eq_true_eq] at hlt
    have hcl := cnt_le (kp keep) i.toNat
    refine .bind (P := fun z => z = (cnt (kp keep) (i + 1).toNat : Int)) (.bind (.nth g0 (by omega)) fun b ⟨hb, _⟩ => ?_) fun z hz => .inl ?_
    · have hk : kp keep i.toNat = b := by unfold kp; rw [hb]; rfl
      have e : (i + 1).toNat = i.toNat + 1 := by omega
      refine .sel (fun h => .pure ?_) fun h => .pure ?_
      · rw [w64_s (by omega) (by omega), e, cnt, hk, h, g2]; rfl
      · rw [e, cnt, hk, h, g2]; rfl
    · rw [w64_up g0 (by omega)]
      exact ⟨⟨by simp only; omega, by simp only; omega, hz⟩, by simp only; omega⟩
  · simp only [decide_eq_false_iff_not] at hge
    rw [g2, show i = m by omega]
theorem squeezeCode_ok : PassOk spec_SqueezeCode := fun {code} hc => by
  have hmx := hc.max
  unfold spec_SqueezeCode
  rw [codevalid_true hc, Option.bind_some]
  refine .sf rfl (.bind (reach_tot hc) fun seen ⟨s1, s2, s3⟩ => .bind (P := fun keep => keep.length = code.length ∧ ∀ (j : Nat) (q : Quad), code[j]? = some q → keep[j]? = some ((seen[j]?).getD false && !idleB q j)) (.iter (fun s => 0 ≤ s.1 ∧ s.1 ≤ (code.length : Int) ∧ s.2.length = code.length ∧ (∀ (j : Nat) (q : Quad), (j : Int) < s.1 → code[j]? = some q → s.2[j]? = some ((seen[j]?).getD false && !idleB q j)) ∧ ∀ (j : Nat), s.1 ≤ (j : Int) → s.2[j]? = seen[j]?) (fun s => ((code.length : Int) - s.1).toNat) ⟨by simp, by simp, s1, fun j q h => by simp only at h; omega, fun j _ => rfl⟩ fun s hs => ?_) fun keep ⟨k1, k2⟩ => ?_)
  · obtain ⟨i, a⟩ := s
    obtain ⟨g0, g1, g2, g3, g4⟩ := hs
    simp only at g0 g1 g2 g3 g4
    unfold spec_SqueezeCode_b1
    refine .sel (fun hlt => ?_) fun hge => .inr (show a.length = code.length ∧ _ from ⟨g2, fun j q hq => g3 j q (by have := lt_of_get hq; simp only [decide_eq_false_iff_not] at hge; omega) hq⟩)
    simp only [decide_eq_true_eq] at hlt
    have hia : i < a.length := by rw [g2]; exact hlt
    obtain ⟨q, hq⟩ : ∃ q, code[i.toNat]? = some q := ⟨_, List.getElem?_eq_getElem (by omega)⟩
    refine .bind (.nth g0 hia) fun b ⟨hb, _⟩ => .bind (P := fun z => z = ((seen[i.toNat]?).getD false && !idleB q i)) ?_ fun z hz => .bind (.nth g0 hia) fun _ _ => .bind (.upd g0 hia) fun r hr => .inl ?_
    · have hsb : (seen[i.toNat]?).getD false = b := by rw [← g4 i.toNat (by omega), hb]; rfl
      refine .sel (fun h => .bind (.nth g0 hlt) fun q' ⟨hq', _⟩ => ?_) fun h => .pure (by rw [hsb, h]; rfl)
      obtain rfl : q = q' := Option.some.inj (hq.symm.trans hq')
      rw [idle_eq q g0 (by omega), Option.bind_some, hsb, h]
      exact .pure rfl
    · subst hr hz
      rw [w64_up g0 (by omega)]
      refine ⟨⟨by simp only; omega, by simp only; omega, by simp [g2], fun j p hj hp => ?_, fun j hj => ?_⟩, by simp only; omega⟩
      · simp only at hj ⊢
        by_cases e : (j : Int) = i
        · obtain rfl : j = i.toNat := by omega
          obtain rfl : q = p := Option.some.inj (hq.symm.trans hp)
          have hlt3 : i.toNat < a.length := by omega
          rw [List.getElem?_set_self hlt3, show ((i.toNat : Nat) : Int) = i by omega]
        · rw [List.getElem?_set_ne (by omega)]
          exact g3 j p (by omega) hp
      · simp only at hj ⊢
        rw [List.getElem?_set_ne (by omega)]
        exact g4 j (by omega)
  -- who is reached leads to somebody kept
  have hK : ∀ (j : Nat) (q : Quad), code[j]? = some q → (kp keep j = true ↔ seen[j]? = some true ∧ idleB q j = false) := fun j q hq => by
    unfold kp
    rw [k2 j q hq]
    simp [getD_true]
  have hsucc : ∀ (j : Nat) (q : Quad), code[j]? = some q → q.Op ≠ 10 → (q.Op = 4 → q.N = (j : Int) + 1) → seen[j]? = some true → seen[j + 1]? = some true := fun j q hq h10 h4 hs => by
    have hin : (j : Int) + 1 ∈ nx q j := by
      unfold nx
      rw [if_neg h10]
      split
      · rename_i h; rw [h4 h]; simp
      · split
        · simp
        · split <;> simp
    have := s3 j q (by have := lt_of_get hq; omega) hq hs _ hin
    rwa [show ((j : Int) + 1).toNat = j + 1 by omega] at this
  have hkept : ∀ n j, code.length - j ≤ n → seen[j]? = some true → j < code.length → ∃ m, j ≤ m ∧ m < code.length ∧ kp keep m = true := by
    intro n
    induction n with
    | zero => intro j h1 _ h2; omega
    | succ n ih =>
      intro j h1 hs hj
      obtain ⟨q, hq⟩ : ∃ q, code[j]? = some q := ⟨_, List.getElem?_eq_getElem hj⟩
      cases hi : idleB q j
      · exact ⟨j, Nat.le_refl _, hj, (hK j q hq).2 ⟨hs, hi⟩⟩
      · unfold idleB at hi
        have h10 : q.Op ≠ 10 := by rintro h; simp [h] at hi
        have h4 : q.Op = 4 → q.N = (j : Int) + 1 := fun h => by simp [h] at hi; exact hi
        have hs' := hsucc j q hq h10 h4 hs
        have hj' : j + 1 < code.length := by have := lt_of_get hs'; omega
        obtain ⟨m, h2, h3, h4⟩ := ih (j + 1) (by omega) hs' hj'
        exact ⟨m, by omega, h3, h4⟩
  have h01 := hc.one
  obtain ⟨m0, _, hm0, hkm0⟩ := hkept _ 0 (Nat.le_refl _) s2 (by omega)
  refine .bind (P := fun out => out.length = cnt (kp keep) code.length ∧ (∀ q' ∈ out, QOk (cnt (kp keep) code.length : Nat) q') ∧ ∀ q', out.getLast? = some q' → ∃ (j : Nat) (q : Quad), j < code.length ∧ code[j]? = some q ∧ q'.Op = q.Op ∧ kp keep j = true ∧ ∀ l, j < l → l < code.length → kp keep l = false)
    (.iter (fun s => 0 ≤ s.2 ∧ s.2 ≤ (code.length : Int) ∧ s.1.length = cnt (kp keep) s.2.toNat ∧ (∀ q' ∈ s.1, QOk (cnt (kp keep) code.length : Nat) q') ∧ ∀ q', s.1.getLast? = some q' → ∃ (j : Nat) (q : Quad), j < s.2.toNat ∧ code[j]? = some q ∧ q'.Op = q.Op ∧ kp keep j = true ∧ ∀ l, j < l → l < s.2.toNat → kp keep l = false) (fun s => ((code.length : Int) - s.2).toNat) ⟨by simp, by simp, rfl, by simp, by simp⟩ fun s hs => ?_) fun out ⟨o1, o2, o3⟩ => .pure ⟨?_, rfl, by simp only; rw [o1]; exact cnt_le _ _⟩
  · obtain ⟨out, i⟩ := s
    obtain ⟨g0, g1, g2, g3, g4⟩ := hs
    simp only at g0 g1 g2 g3 g4
    unfold spec_SqueezeCode_b2
    refine .sel (fun hlt => ?_) fun hge => .inr (show out.length = cnt (kp keep) code.length ∧ _ from ?_)
    rotate_left
    · simp only [decide_eq_false_iff_not] at hge
      rw [show i.toNat = code.length by omega] at g2 g4
      exact ⟨g2, g3, g4⟩
    simp only [decide_eq_true_eq] at hlt
    obtain ⟨q, hq⟩ : ∃ q, code[i.toNat]? = some q := ⟨_, List.getElem?_eq_getElem (by omega)⟩
    have e1 : (i + 1).toNat = i.toNat + 1 := by omega
    refine .bind (P := fun o => o.length = cnt (kp keep) (i + 1).toNat ∧ (∀ q' ∈ o, QOk (cnt (kp keep) code.length : Nat) q') ∧ ∀ q', o.getLast? = some q' → ∃ (j : Nat) (q : Quad), j < (i + 1).toNat ∧ code[j]? = some q ∧ q'.Op = q.Op ∧ kp keep j = true ∧ ∀ l, j < l → l < (i + 1).toNat → kp keep l = false) ?_ fun o ho => .inl ?_
    · refine .bind (.nth g0 hlt) fun q' ⟨hq', hqm⟩ => ?_
      obtain rfl : q = q' := Option.some.inj (hq.symm.trans hq')
      have hv := hc.q q hqm
      refine .bind (.nth g0 (by rw [k1]; exact hlt)) fun b ⟨hb, _⟩ => ?_
      have hkb : kp keep i.toNat = b := by unfold kp; rw [hb]; rfl
      refine .sel (fun hbf => .pure ?_) fun hbt => ?_
      · have hbf' : b = false := by simpa using hbf
        subst hbf'
        rw [e1]
        refine ⟨by simp only [cnt, hkb]; simpa using g2, g3, fun q' hq' => ?_⟩
        obtain ⟨j, p, h1, h2, h3, h4, h5⟩ := g4 q' hq'
        refine ⟨j, p, by omega, h2, h3, h4, fun l hl1 hl2 => ?_⟩
        by_cases e : l = i.toNat
        · subst e; exact hkb
        · exact h5 l hl1 (by omega)
      · have hbt' : b = true := by simpa using hbt
        subst hbt'
        obtain ⟨hsi, hid⟩ := (hK i.toNat q hq).1 hkb
        refine .bind (P := fun q' => QOk (cnt (kp keep) code.length : Nat) q' ∧ q'.Op = q.Op) (.sel (fun h => ?_) fun h => .pure ⟨?_, rfl⟩) fun q' hq' => .bind (.app (by rw [g2]; have := cnt_le (kp keep) i.toNat; simp; omega)) fun r hr => .pure ?_
        · simp only [Bool.or_eq_true, beq_iff_eq] at h
          have hw := hv
          unfold QOk at hw
          have hr : 0 ≤ q.N ∧ q.N < code.length := by rcases h with h | h <;> simp [h] at hw <;> omega
          have hni : q.N ≠ i + 1 := fun e => by
            unfold idleB at hid
            rw [if_pos h, show ((i.toNat : Nat) : Int) = i by omega] at hid
            simp [e] at hid
          have hin : q.N ∈ nx q i := by
            unfold nx
            rcases h with h | h
            · simp [h]
            · rw [if_neg (by omega), if_neg (by omega)]
              split
              · simp
              · rw [if_pos ⟨h, by omega⟩]; simp
          have hsn : seen[q.N.toNat]? = some true := s3 i.toNat q (by omega) hq hsi _ (by rw [show ((i.toNat : Nat) : Int) = i by omega]; exact hin)
          obtain ⟨m, h1, h2, h3⟩ := hkept _ q.N.toNat (Nat.le_refl _) hsn (by omega)
          have hcl := cnt_lt (kp keep) h1 h2 h3
          refine .bind (place_tot hr.1 (by rw [k1]; omega) (by omega)) fun p hp => .pure ⟨?_, rfl⟩
          subst hp
          rcases h with h | h <;> simp [h] at hw <;> simp [QOk, h, hw] <;> omega
        · simp only [Bool.or_eq_false_iff, beq_eq_false_iff_ne, ne_eq] at h
          unfold QOk at hv ⊢
          rcases hv with h' | h' | h' | h' | h' | h' | h' | h' | h'
          · exact .inl h'
          · exact .inr (.inl h')
          · exact .inr (.inr (.inl h'))
          · exact absurd h'.1 h.1
          · exact absurd h'.1 h.2
          · exact .inr (.inr (.inr (.inr (.inr (.inl h')))))
          · exact .inr (.inr (.inr (.inr (.inr (.inr (.inl h'))))))
          · exact .inr (.inr (.inr (.inr (.inr (.inr (.inr (.inl h')))))))
          · exact .inr (.inr (.inr (.inr (.inr (.inr (.inr (.inr h')))))))
        · subst hr
          rw [e1]
          refine ⟨by simp only [cnt, hkb]; simp [g2], fun z hz => ?_, fun z hz => ?_⟩
          · simp only [List.mem_append, List.mem_singleton] at hz
            rcases hz with hz | rfl
            · exact g3 z hz
            · exact hq'.1
          · rw [List.getLast?_concat] at hz
            injection hz with hz
            subst hz
            exact ⟨i.toNat, q, by omega, hq, hq'.2, hkb, fun l h1 h2 => by omega⟩
    · rw [w64_up g0 (by omega)]
      exact ⟨⟨by simp only; omega, by simp only; omega, ho⟩, by simp only; omega⟩
  · have hpos := cnt_lt (kp keep) (Nat.zero_le _) hm0 hkm0
    have hle := cnt_le (kp keep) code.length
    refine ⟨by simp only; omega, by simp only; omega, fun z hz => by simp only at hz ⊢; rw [o1]; exact o2 z hz, ?_⟩
    have hne : out ≠ [] := by rintro rfl; simp at o1; omega
    obtain ⟨z, hz⟩ : ∃ z, out.getLast? = some z := ⟨_, List.getLast?_eq_some_getLast hne⟩
    refine ⟨z, hz, ?_⟩
    obtain ⟨j, q, h1, h2, h3, h4, h5⟩ := o3 z hz
    obtain ⟨hs, hi⟩ := (hK j q h2).1 h4
    rw [h3]
    by_cases e10 : q.Op = 10
    · exact .inl e10
    by_cases e4 : q.Op = 4
    · exact .inr e4
    exfalso
    have hs' := hsucc j q h2 e10 (fun h => absurd h e4) hs
    have hj' : j + 1 < code.length := by have := lt_of_get hs'; omega
    obtain ⟨m, m1, m2, m3⟩ := hkept _ (j + 1) (Nat.le_refl _) hs' hj'
    rw [h5 m (by omega) m2] at m3
    cases m3
/-! ### A code is optimized -/
theorem once_tot {code : List Quad} (hc : COk code) : Tot (spec_l37Once code) fun r => COk r ∧ r.length ≤ code.length := by
  unfold spec_l37Once
  exact .bind (foldCode_ok hc) fun a ha => .bind (copyCode_ok ha.1) fun b hb => .bind (jumpCode_ok hb.1) fun c hcc => .bind (deadCode_ok hcc.1) fun d hd => .bind (squeezeCode_ok hd.1) fun e he => .pure ⟨he.1, by have := ha.2.2; have := hb.2.2; have := hcc.2.2; have := hd.2.2; have := he.2.2; omega⟩
theorem optimize_tot {code : List Quad} (hc : COk code) {t : Int} (h0 : 0 ≤ t) (h4 : t ≤ 4) : Tot (spec_OptimizeCode code t) fun r => COk r.1 ∧ r.2 = true ∧ r.1.length ≤ code.length := by
  have hmx := hc.max
  unfold spec_OptimizeCode
  rw [codevalid_true hc, Option.bind_some, in_eq]
  refine .bind (P := fun b => b = false) (.sf rfl (.pure (by simp; omega))) fun b hb => .sf hb (.bind (.app (by simp; omega)) fun r hr => ?_)
  rw [List.nil_append] at hr
  subst hr
  refine .bind (P := fun o => COk o ∧ o.length ≤ r.length) (.iter (fun s => 0 ≤ s.2 ∧ s.2 ≤ t ∧ COk s.1 ∧ s.1.length ≤ r.length) (fun s => (t - s.2).toNat) ⟨by simp, by simpa using h0, hc, Nat.le_refl _⟩ fun s hs => ?_) fun o ho => .pure ⟨ho.1, rfl, ho.2⟩
  obtain ⟨o, i⟩ := s
  obtain ⟨g0, g1, g2, g3⟩ := hs
  simp only at g0 g1 g2 g3
  unfold spec_OptimizeCode_b1
  refine .sel (fun h => ?_) fun h => .inr (show COk o ∧ o.length ≤ r.length from ⟨g2, g3⟩)
  simp only [decide_eq_true_eq] at h
  refine .bind (once_tot (code := o) g2) fun o2 ho2 => .inl ?_
  rw [w64_up g0 (by omega)]
  exact ⟨⟨by simp only; omega, by simp only; omega, ho2.1, by have := ho2.2; simp only; omega⟩, by simp only; omega⟩
end Go.Proofs.YtjpbdpfkhdekpaaGreatDoor.N
