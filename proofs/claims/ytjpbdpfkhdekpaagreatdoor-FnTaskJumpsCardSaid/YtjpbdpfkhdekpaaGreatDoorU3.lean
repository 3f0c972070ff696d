/- Plain laws: FoldCode, CopyCode, JumpCode keep a code valid. -/
import Derived.Test.YtjpbdpfkhdekpaaGreatDoorU2
set_option linter.unusedVariables false
namespace Go.Proofs.YtjpbdpfkhdekpaaGreatDoor.N
open Go.Proofs.YtjpbdpfkhdekpaaGreatDoor.X
/-! ### A code made quad by quad -/
theorem map_loop {f : List Quad × Int → Option ((List Quad × Int) ⊕ List Quad)} {n : Nat} (P : Nat → Quad → Prop) (hn : n ≤ 600)
    (h : ∀ (i : Int) (out : List Quad), 0 ≤ i → i < n → out.length = i.toNat → Tot (f (out, i)) fun z => ∃ q', z = .inl (out ++ [q'], i + 1) ∧ P i.toNat q')
    (he : ∀ out, f (out, (n : Int)) = some (.inr out)) : Tot (iter f ([], 0)) fun out => out.length = n ∧ ∀ i q', out[i]? = some q' → P i q' := by
  refine .iter (fun s => 0 ≤ s.2 ∧ s.2 ≤ (n : Int) ∧ s.1.length = s.2.toNat ∧ ∀ i q', s.1[i]? = some q' → P i q') (fun s => ((n : Int) - s.2).toNat) ⟨by simp, by simp, by simp, by simp⟩ fun s hs => ?_
  obtain ⟨out, i⟩ := s
  obtain ⟨h0, h1, h2, h3⟩ := hs
  simp only at h0 h1 h2 h3
  by_cases hlt : i < n
  · refine (h i out h0 hlt h2).mono fun z hz => ?_
    obtain ⟨q', rfl, hp⟩ := hz
    refine ⟨⟨by simp only; omega, by simp only; omega, by simp [h2]; omega, fun j q hj => ?_⟩, by simp only; omega⟩
    simp only at hj
    rcases Nat.lt_or_ge j out.length with hj' | hj'
    · rw [List.getElem?_append_left hj'] at hj; exact h3 j q hj
    · rw [List.getElem?_append_right hj'] at hj
      have : j = i.toNat := by
        rcases Nat.eq_zero_or_pos (j - out.length) with h | h
        · omega
        · rw [List.getElem?_eq_none (by simp; omega)] at hj; cases hj
      subst this
      rw [h2, Nat.sub_self] at hj
      simp only [List.getElem?_cons_zero, Option.some.injEq] at hj
      exact hj ▸ hp
  · have : i = n := by omega
    subst this
    rw [he]
    exact .pure ⟨by omega, h3⟩
/-- One quad for each. -/
def Alike (code out : List Quad) : Prop := out.length = code.length ∧ ∀ (i : Nat) (q' : Quad), out[i]? = some q' → ∃ q : Quad, code[i]? = some q ∧ QOk code.length q' ∧ (q.Op = 10 ∨ q.Op = 4 → q'.Op = 10 ∨ q'.Op = 4)
theorem COk.alike {code out : List Quad} (hc : COk code) (h : Alike code out) : COk out := by
  obtain ⟨h1, h2⟩ := h
  refine ⟨by rw [h1]; exact hc.one, by rw [h1]; exact hc.max, fun q hq => ?_, ?_⟩
  · obtain ⟨j, hj, rfl⟩ := List.getElem_of_mem hq
    obtain ⟨_, _, h3, _⟩ := h2 j _ (List.getElem?_eq_getElem hj)
    rw [h1]; exact h3
  · obtain ⟨x, hx, hx'⟩ := hc.last
    have hlt : code.length - 1 < out.length := by have := hc.one; omega
    obtain ⟨q, hq, _, h4⟩ := h2 (code.length - 1) _ (List.getElem?_eq_getElem hlt)
    rw [List.getLast?_eq_getElem?] at hx
    rw [hx] at hq
    injection hq with hq
    subst hq
    exact ⟨_, by rw [List.getLast?_eq_getElem?, h1]; exact List.getElem?_eq_getElem hlt, h4 hx'⟩
theorem Rg.lt {x : Int} (h : Rg x) {α : Type} {l : List α} (hl : l.length = 12) : 0 ≤ x ∧ x < l.length := by unfold Rg at h; omega
/-! ### FoldCode -/
theorem has_tot (l : List Int) (n : Int) (hl : l.length ≤ 1000) : Tot (spec_l31Has l n) fun b => b = l.contains n := by
  unfold spec_l31Has
  refine .bind (P := fun z => match z with | .inl b => b = true ∧ n ∈ l | .inr _ => n ∉ l) (.iter (fun i : Int => 0 ≤ i ∧ i ≤ l.length ∧ ∀ (j : Nat) (x : Int), (j : Int) < i → l[j]? = some x → x ≠ n) (fun i => (l.length - i).toNat) ⟨by omega, by omega, fun j q h => by omega⟩ fun i ⟨h0, h1, h2⟩ => ?_) fun z hz => ?_
  · unfold spec_l31Has_b1
    refine .sel (fun h => ?_) fun h => .inr ?_
    · simp only [decide_eq_true_eq] at h
      refine .bind (.nth h0 h) fun x ⟨hx, hm⟩ => .sel (fun he => .inr ?_) fun he => .inl ?_
      · simp only [beq_iff_eq] at he; subst he; exact ⟨rfl, hm⟩
      · simp only [beq_eq_false_iff_ne, ne_eq] at he
        rw [w64_up h0 (by omega)]
        refine ⟨⟨by omega, by omega, fun j y hj hy => ?_⟩, by omega⟩
        by_cases e : (j : Int) = i
        · obtain rfl : j = i.toNat := by omega
          rw [hx] at hy; injection hy with hy; exact hy ▸ he
        · exact h2 j y (by omega) hy
    · simp only [decide_eq_false_iff_not] at h
      intro hm
      obtain ⟨j, hj, rfl⟩ := List.getElem_of_mem hm
      exact h2 j _ (by omega) (List.getElem?_eq_getElem hj) rfl
  · refine .both (fun b e => ?_) fun _ e => ?_
    · subst e; exact .pure (by rw [hz.1]; simpa using hz.2)
    · subst e; exact .pure (by simpa using (show n ∉ l from hz))
theorem is_eq (f : Fact) (n : Int) : spec_l33Is f n = some (f.Kind == 1 && f.N == n) := rfl
theorem any_tot (n : Int) (l : List Int) (hl : l.length ≤ 1000) : Tot (spec_l33Any n l) fun b => b = l.contains n := .bind (has_tot l n hl) fun b hb => .pure hb
theorem bin_tot {q : Quad} {m : Int} {x y : Fact} (hq : QOk m q) (h3 : q.Op = 3) (hx : FOk x) (hy : FOk y) : Tot (spec_l33Bin q x y) (QOk m) := by
  have hv := hq
  unfold QOk at hv
  simp [h3] at hv
  obtain ⟨hd, ha, hb, hn⟩ := hv
  have cp : ∀ r, Rg r → QOk m (Quad.mk 2 q.Dst r 0 0) := fun r hr => .inr (.inl ⟨rfl, hd, hr, rfl, rfl⟩)
  have ct : ∀ r, Wd r → QOk m (Quad.mk 1 q.Dst 0 0 r) := fun r hr => .inl ⟨rfl, hd, rfl, rfl, hr⟩
  have an : ∀ (c : Bool) (l : List Int), l.length ≤ 1000 → Tot ((sel c ((spec_l33Any q.N l).bind fun y3 => some y3) (some false) : Option Bool)) fun _ => True := fun c l hl => .sel (fun _ => .bind (any_tot _ _ hl) fun _ _ => .pure trivial) fun _ => .pure trivial
  unfold spec_l33Bin
  simp only [is_eq, Option.bind_some]
  refine .bind (P := fun f => f.Kind = 1 → Wd f.N) ?_ fun f hf => .sel (fun h => .pure (ct _ (hf (by simpa using h)))) fun _ => .bind (an _ _ (by simp)) fun _ _ => .sel (fun _ => .pure (cp _ ha)) fun _ => .bind (an _ _ (by simp)) fun _ _ => .sel (fun _ => .pure (cp _ ha)) fun _ => .bind (an _ _ (by simp)) fun _ _ => .sel (fun _ => .pure (cp _ hb)) fun _ =>
    .sel (fun _ => .pure (cp _ hb)) fun _ => .bind (P := fun _ => True) (.sel (fun _ => .pure trivial) fun _ => .pure trivial) fun _ _ => .bind (an _ _ (by simp)) fun _ _ => .sel (fun _ => .pure (ct _ (by unfold Wd; omega))) fun _ => .pure hq
  unfold spec_l33Result
  refine .sel (fun _ => .pure (by simp)) fun hk => ?_
  simp only [Bool.or_eq_false_iff, bne_eq_false_iff_eq] at hk
  unfold FOk at hx hy
  have hxw : Wd x.N := by rcases hx with h | h | h <;> first | exact h.2 | omega
  have hyw : Wd y.N := by rcases hy with h | h | h <;> first | exact h.2 | omega
  exact .bind (apply_tot hn hxw hyw) fun r hr => .pure fun _ => hr
theorem fold_tot {code : List Quad} (hc : COk code) {q : Quad} {i : Int} (h0 : 0 ≤ i) (hi : code[i.toNat]? = some q) {fs : List Fact} (hf : FsOk fs) : Tot (spec_l33Fold q fs i) fun q' => QOk code.length q' ∧ (q.Op = 10 ∨ q.Op = 4 → q'.Op = 10 ∨ q'.Op = 4) := by
  have hv := hc.q q (List.mem_of_getElem? hi)
  have hl := hc.max
  have wd : ∀ {f : Fact}, FOk f → f.Kind = 1 → Wd f.N := fun {f} hx hk => by unfold FOk at hx; rcases hx with h | h | h <;> first | exact h.2 | omega
  unfold spec_l33Fold
  refine .bind (.nth (by omega) (by rw [hf.1]; omega)) fun _ _ => .sel (fun _ => .pure ⟨hv, id⟩) fun _ => .sel (fun h => ?_) fun _ => .sel (fun h => ?_) fun _ => .sel (fun h => ?_) fun _ => .pure ⟨hv, id⟩
  all_goals (simp only [beq_iff_eq] at h; have hw := hv; unfold QOk at hw; simp [h] at hw)
  · refine .bind (.nth (hw.2.1.lt hf.1).1 (hw.2.1.lt hf.1).2) fun x ⟨hx, hm⟩ => .sel (fun hk => ?_) fun _ => .pure ⟨hv, id⟩
    simp only [beq_iff_eq] at hk
    refine .bind (.nth (hw.2.1.lt hf.1).1 (hw.2.1.lt hf.1).2) fun y ⟨hy, _⟩ => ?_
    obtain rfl : x = y := Option.some.inj (hx.symm.trans hy)
    exact .pure ⟨.inl ⟨rfl, hw.1, rfl, rfl, wd (hf.2 x hm) hk⟩, fun h' => by omega⟩
  · refine .bind (.nth (hw.2.1.lt hf.1).1 (hw.2.1.lt hf.1).2) fun x ⟨_, hx⟩ => .bind (.nth (hw.2.2.1.lt hf.1).1 (hw.2.2.1.lt hf.1).2) fun y ⟨_, hy⟩ => .bind (bin_tot hv h (hf.2 x hx) (hf.2 y hy)) fun r hr => .pure ⟨hr, fun h' => by omega⟩
  · have hn := hc.nxt hi (by omega) (by omega)
    refine .bind (.nth (hw.2.1.lt hf.1).1 (hw.2.1.lt hf.1).2) fun x ⟨_, hx⟩ => ?_
    rw [is_eq, Option.bind_some]
    refine .sel (fun _ => .pure ⟨.inr (.inr (.inr (.inl ⟨rfl, rfl, rfl, rfl, hw.2.2.2⟩))), fun h' => by omega⟩) fun _ => .bind (.nth (hw.2.1.lt hf.1).1 (hw.2.1.lt hf.1).2) fun y _ => .sel (fun _ => .pure ⟨?_, fun h' => by omega⟩) fun _ => .pure ⟨hv, id⟩
    rw [w64_up h0 (by omega)]
    exact .inr (.inr (.inr (.inl ⟨rfl, rfl, rfl, rfl, by simp only; omega, by simp only; omega⟩)))
/-- A pass answers: a valid code as long. -/
def PassOk (f : List Quad → Option (List Quad × Bool)) : Prop := ∀ {code : List Quad}, COk code → Tot (f code) fun r => COk r.1 ∧ r.2 = true ∧ r.1.length ≤ code.length
theorem foldCode_ok : PassOk spec_FoldCode := fun {code} hc => by
  unfold spec_FoldCode
  rw [codevalid_true hc, Option.bind_some]
  have hl := hc.max
  refine .sf rfl (.bind (facts_tot hc) fun fs hfs => .bind (map_loop (n := code.length) (fun i q' => ∃ q : Quad, code[i]? = some q ∧ QOk code.length q' ∧ (q.Op = 10 ∨ q.Op = 4 → q'.Op = 10 ∨ q'.Op = 4)) hc.max (fun i out h0 h1 h2 => ?_) fun out => ?_) fun out ho => .pure ⟨hc.alike ho, rfl, by rw [ho.1]; exact Nat.le_refl _⟩)
  · unfold spec_FoldCode_b1
    refine .st (by simpa using h1) (.bind (.nth h0 (by rw [hfs.1]; exact h1)) fun l ⟨_, hm⟩ => .bind (.nth h0 h1) fun q ⟨hq, _⟩ => .bind (fold_tot hc h0 hq (hfs.2 l hm)) fun q' hq' => .bind (.app (by simp [h2]; omega)) fun r hr => .pure ⟨q', ?_, q, hq, hq'⟩)
    rw [w64_up h0 (by omega), hr]
  · unfold spec_FoldCode_b1; rw [sel_false (by simp)]
/-! ### CopyCode -/
def dist : Nat → List Int → Nat
  | _, [] => 0
  | k, x :: r => (if x = (k : Int) then 0 else 1) + dist (k + 1) r
theorem dist_le : ∀ (l : List Int) (k : Nat), dist k l ≤ l.length
  | [], _ => Nat.le_refl _
  | x :: r, k => by have := dist_le r (k + 1); simp only [dist, List.length_cons]; split <;> omega
theorem dist_set : ∀ {l : List Int} {k i : Nat} {a : Int}, l[i]? = some a → a ≠ ((k + i : Nat) : Int) → dist k (l.set i ((k + i : Nat) : Int)) < dist k l
  | [], _, _, _, h, _ => by simp at h
  | x :: r, k, 0, a, h, hne => by
    have : x = a := by simpa using h
    subst this
    simp only [List.set_cons_zero, dist, Nat.add_zero] at *
    rw [if_pos trivial, if_neg hne]
    omega
  | x :: r, k, i + 1, a, h, hne => by
    have e : k + (i + 1) = (k + 1) + i := by omega
    rw [e] at hne ⊢
    have := dist_set (l := r) (k := k + 1) (i := i) (by simpa using h) hne
    simp only [List.set_cons_succ, dist]
    omega
def RsOk (l : List Int) : Prop := l.length = 12 ∧ ∀ x ∈ l, Rg x
def CpOk (l : List Int) : Prop := l = [] ∨ RsOk l
def CsOk (n : Nat) (all : List (List Int)) : Prop := all.length = n ∧ ∀ l ∈ all, CpOk l
def cm (l : List Int) : Nat := if l = [] then 13 else dist 0 l
def cam (all : List (List Int)) : Nat := (all.map cm).sum
theorem RsOk.set {l : List Int} {i : Nat} {x : Int} (h : RsOk l) (hx : Rg x) : RsOk (l.set i x) := ⟨by rw [List.length_set]; exact h.1, fun g hg => (mem_set hg).elim (h.2 g) fun e => e ▸ hx⟩
theorem CsOk.set {n : Nat} {all : List (List Int)} {i : Nat} {l : List Int} (h : CsOk n all) (hl : CpOk l) : CsOk n (all.set i l) := ⟨by rw [List.length_set]; exact h.1, fun g hg => (mem_set hg).elim (h.2 g) fun e => e ▸ hl⟩
theorem RsOk.ne {l : List Int} (h : RsOk l) : l ≠ [] := by rintro rfl; have := h.1; simp at this
theorem RsOk.cm {l : List Int} (h : RsOk l) : cm l = dist 0 l ∧ cm l ≤ 12 := by
  unfold N.cm
  rw [if_neg h.ne]
  exact ⟨rfl, by have := dist_le l 0; rw [h.1] at this; exact this⟩
theorem self_tot : Tot spec_l34Self RsOk := by
  unfold spec_l34Self
  refine .bind (P := RsOk) (.iter (fun s => 0 ≤ s.2 ∧ s.2 ≤ 12 ∧ s.1.length = s.2.toNat ∧ ∀ x ∈ s.1, Rg x) (fun s => (12 - s.2).toNat) ⟨by simp, by simp, by simp, by simp⟩ fun s hs => ?_) fun r hr => .pure hr
  obtain ⟨l, i⟩ := s
  obtain ⟨g0, g1, g2, g3⟩ := hs
  simp only at g0 g1 g2 g3
  unfold spec_l34Self_b1
  refine .sel (fun h => ?_) fun h => .inr (show RsOk l from ?_)
  · simp only [decide_eq_true_eq] at h
    refine .bind (.app (by simp [g2]; omega)) fun r hr => .inl ?_
    subst hr
    rw [w64_up g0 (by omega)]
    refine ⟨⟨by simp only; omega, by simp only; omega, by simp [g2]; omega, fun x hx => ?_⟩, by simp only; omega⟩
    simp only [List.mem_append, List.mem_singleton] at hx
    rcases hx with h | rfl
    · exact g3 x h
    · unfold Rg; omega
  · simp only [decide_eq_false_iff_not] at h
    exact ⟨by omega, g3⟩
theorem QOk.mono {q : Quad} {m m' : Int} (h : QOk m q) (hm : m ≤ m') : QOk m' q := by
  unfold QOk at *
  rcases h with h | h | h | h | h | h | h | h | h
  · exact .inl h
  · exact .inr (.inl h)
  · exact .inr (.inr (.inl h))
  · exact .inr (.inr (.inr (.inl ⟨h.1, h.2.1, h.2.2.1, h.2.2.2.1, h.2.2.2.2.1, by omega⟩)))
  · exact .inr (.inr (.inr (.inr (.inl ⟨h.1, h.2.1, h.2.2.1, h.2.2.2.1, h.2.2.2.2.1, by omega⟩))))
  · exact .inr (.inr (.inr (.inr (.inr (.inl h)))))
  · exact .inr (.inr (.inr (.inr (.inr (.inr (.inl h))))))
  · exact .inr (.inr (.inr (.inr (.inr (.inr (.inr (.inl h)))))))
  · exact .inr (.inr (.inr (.inr (.inr (.inr (.inr (.inr h)))))))
theorem sets_eq (q : Quad) {m : Int} (h : QOk m q) (hm : m ≤ 600) : spec_QuadSets q = some (if q.Op = 1 ∨ q.Op = 2 ∨ q.Op = 3 ∨ q.Op = 7 then q.Dst else -1) := by
  have h6 : QOk 600 q := h.mono hm
  unfold spec_QuadSets
  rw [quad_eq, decide_eq_true h6, Option.bind_some, Bool.not_true, sel_false rfl]
  by_cases h1 : q.Op = 1
  · simp [h1, sel]
  by_cases h2 : q.Op = 2
  · simp [h2, sel]
  by_cases h3 : q.Op = 3
  · simp [h3, sel]
  by_cases h7 : q.Op = 7
  · simp [h7, sel]
  rw [if_neg (by omega), sel_false (by simpa using h1), sel_false (by simpa using h2), sel_false (by simpa using h3), Option.bind_some, sel_false (by simpa using h7)]
theorem sets_tot {q : Quad} {m : Int} (h : QOk m q) (hm : m ≤ 600) : Tot (spec_QuadSets q) fun r => r = -1 ∨ Rg r := by
  refine .of (sets_eq q h hm) ?_
  unfold QOk at h
  split
  · rename_i h'; right; unfold Rg at *; omega
  · exact .inl rfl
theorem cafter_tot {q : Quad} {m : Int} {l : List Int} (hq : QOk m q) (hm : m ≤ 600) (hl : RsOk l) : Tot (spec_l34After q l) RsOk := by
  unfold spec_l34After
  refine .bind (.app (by simp [hl.1])) fun r hr => ?_
  rw [List.nil_append] at hr
  subst hr
  refine .bind (sets_tot hq hm) fun d hd => .sel (fun _ => .pure hl) fun hneg => ?_
  simp only [decide_eq_false_iff_not] at hneg
  have hd' : Rg d := hd.resolve_left (by omega)
  refine .bind (P := RsOk) (.iter (fun s => 0 ≤ s.1 ∧ s.1 ≤ 12 ∧ RsOk s.2) (fun s => (12 - s.1).toNat) ⟨by simp, by simp, hl⟩ fun s hs => ?_) fun l2 h2 => .bind (.nth (hd'.lt h2.1).1 (hd'.lt h2.1).2) fun _ _ => .bind (.upd (hd'.lt h2.1).1 (hd'.lt h2.1).2) fun l3 h3 => ?_
  · obtain ⟨i, l'⟩ := s
    obtain ⟨g0, g1, g2⟩ := hs
    simp only at g0 g1 g2
    unfold spec_l34After_b1
    refine .sel (fun h => ?_) fun _ => .inr g2
    simp only [decide_eq_true_eq] at h
    have hi : 0 ≤ i ∧ i < l'.length := by rw [g2.1]; omega
    refine .bind (P := RsOk) (.bind (.nth hi.1 hi.2) fun x _ => .sel (fun _ => .bind (.nth hi.1 hi.2) fun _ _ => .bind (.upd hi.1 hi.2) fun r hr => .pure ?_) fun _ => .pure g2) fun r hr => .inl ?_
    · subst hr; exact g2.set (by unfold Rg; omega)
    · rw [w64_up g0 (by omega)]; exact ⟨⟨by simp only; omega, by simp only; omega, hr⟩, by simp only; omega⟩
  · subst h3
    have h3' := h2.set (i := d.toNat) hd'
    refine .sel (fun h => ?_) fun _ => .pure h3'
    simp only [beq_iff_eq] at h
    unfold QOk at hq; simp [h] at hq
    exact .bind (.nth (hd'.lt h3'.1).1 (hd'.lt h3'.1).2) fun _ _ => .bind (.upd (hd'.lt h3'.1).1 (hd'.lt h3'.1).2) fun r hr => .pure (hr ▸ h3'.set hq.2.1)
theorem ccarry_tot {n : Nat} {all : List (List Int)} {i : Int} {cs : List Int} (h : CsOk n all) (h0 : 0 ≤ i) (h1 : i < n) (hf : RsOk cs) : Tot (spec_l34Carry all i cs) fun r => CsOk n r.2 ∧ cam r.2 ≤ cam all ∧ (r.1 = true → cam r.2 < cam all) := by
  have hin : i < all.length := by rw [h.1]; exact h1
  unfold spec_l34Carry
  refine .bind (.nth h0 hin) fun l0 ⟨hl0, hm0⟩ => .sel (fun he => ?_) fun hne => ?_
  · refine .bind (.app (by simp [hf.1])) fun r hr => .pure ?_
    rw [List.nil_append] at hr
    subst hr
    have e0 : l0 = [] := by simpa using he
    subst e0
    have e2 : cam (all.set i.toNat r) + N.cm [] = cam all + N.cm r := sum_set N.cm _ hl0
    have e3 : N.cm [] = 13 := by decide
    have e4 := hf.cm.2
    exact ⟨h.set (.inr hf), by simp only; omega, fun _ => by simp only; omega⟩
  have hl0' : RsOk l0 := (h.2 l0 hm0).resolve_left (by rintro rfl; simp at hne)
  refine .bind (.iter (fun s => 0 ≤ s.2.1 ∧ s.2.1 ≤ 12 ∧ CsOk n s.2.2 ∧ (∃ l, s.2.2[i.toNat]? = some l ∧ RsOk l) ∧ cam s.2.2 ≤ cam all ∧ (s.1 = true → cam s.2.2 < cam all)) (fun s => (12 - s.2.1).toNat) ⟨by simp, by simp, h, ⟨l0, hl0, hl0'⟩, by simp, by simp⟩ fun s hs => ?_) fun r (hr : CsOk n r.2 ∧ cam r.2 ≤ cam all ∧ (r.1 = true → cam r.2 < cam all)) => .pure hr
  obtain ⟨fresh, r, a⟩ := s
  obtain ⟨g0, g1, g2, ⟨l, hl, hlo⟩, g3, g4⟩ := hs
  simp only at g0 g1 g2 g3 g4 hl
  unfold spec_l34Carry_b1
  refine .sel (fun hlt => ?_) fun hlt => .inr ⟨g2, g3, g4⟩
  simp only [decide_eq_true_eq] at hlt
  have hia : i < a.length := by rw [g2.1]; exact h1
  have hrl : r < l.length := by rw [hlo.1]; exact hlt
  refine .bind (P := fun z => CsOk n z.2 ∧ (∃ l, z.2[i.toNat]? = some l ∧ RsOk l) ∧ cam z.2 ≤ cam all ∧ (z.1 = true → cam z.2 < cam all)) ?_ fun z hz => .inl ⟨⟨?_, ?_, hz⟩, ?_⟩
  · refine .bind (.nth h0 hia) fun l' ⟨hl', _⟩ => ?_
    obtain rfl : l = l' := Option.some.inj (hl.symm.trans hl')
    refine .bind (.nth g0 hrl) fun x ⟨hx, hxm⟩ => .bind (P := fun b => b = true → x ≠ r) (.sel (fun hne => .bind (.nth g0 hrl) fun _ _ => .bind (.nth g0 (by rw [hf.1]; exact hlt)) fun _ _ => .pure fun _ => by simpa using hne) fun _ => .pure (by simp)) fun b hb => .sel (fun hbt => ?_) fun _ => .pure ⟨g2, ⟨l, hl, hlo⟩, g3, g4⟩
    have hxr := hb hbt
    refine .bind (.nth h0 hia) fun l' ⟨hl', _⟩ => ?_
    obtain rfl : l = l' := Option.some.inj (hl.symm.trans hl')
    refine .bind (.nth g0 hrl) fun _ _ => .bind (.upd g0 hrl) fun l2 hl2 => .pure ?_
    subst hl2
    have hr' : Rg r := by unfold Rg; omega
    have hset := hlo.set (i := r.toNat) hr'
    have e1 : dist 0 (l.set r.toNat r) < dist 0 l := by
      have := dist_set (l := l) (k := 0) (i := r.toNat) hx (by omega)
      rwa [show ((0 + r.toNat : Nat) : Int) = r by omega] at this
    have e2 : cam (a.set i.toNat (l.set r.toNat r)) + N.cm l = cam a + N.cm (l.set r.toNat r) := sum_set N.cm _ hl
    rw [hlo.cm.1, hset.cm.1] at e2
    exact ⟨g2.set (.inr hset), ⟨_, by simp only; rw [List.getElem?_set_self (by omega)], hset⟩, by simp only; omega, fun _ => by simp only; omega⟩
  all_goals (rw [w64_up g0 (by omega)]; simp only; omega)
theorem cround_tot {code : List Quad} {all : List (List Int)} (hc : COk code) (h : CsOk code.length all) : Tot (spec_l34Round code all) fun r => CsOk code.length r.2 ∧ cam r.2 ≤ cam all ∧ (r.1 = true → cam r.2 < cam all) := by
  unfold spec_l34Round
  have hl := hc.max
  refine .bind (.iter (fun s => 0 ≤ s.2.1 ∧ s.2.1 ≤ (code.length : Int) ∧ CsOk code.length s.2.2 ∧ cam s.2.2 ≤ cam all ∧ (s.1 = true → cam s.2.2 < cam all)) (fun s => ((code.length : Int) - s.2.1).toNat) ⟨by simp, by simp, h, by simp, by simp⟩ fun s hs => ?_) fun r (hr : CsOk code.length r.2 ∧ cam r.2 ≤ cam all ∧ (r.1 = true → cam r.2 < cam all)) => .pure hr
  obtain ⟨fresh, i, a⟩ := s
  obtain ⟨g0, g1, g2, g3, g4⟩ := hs
  simp only at g0 g1 g2 g3 g4
  unfold spec_l34Round_b5
  refine .sel (fun hlt => ?_) fun hlt => .inr ⟨g2, g3, g4⟩
  simp only [decide_eq_true_eq] at hlt
  refine .bind (P := fun z => CsOk code.length z.2 ∧ cam z.2 ≤ cam all ∧ (z.1 = true → cam z.2 < cam all)) ?_ fun z hz => .inl ⟨⟨?_, ?_, hz⟩, ?_⟩
  · refine .bind (.nth g0 (by rw [g2.1]; exact hlt)) fun l ⟨hl', hm⟩ => .sel (fun _ => .pure ⟨g2, g3, g4⟩) fun hne => ?_
    have hlo : RsOk l := (g2.2 l hm).resolve_left (by rintro rfl; simp at hne)
    refine .bind (next_tot hc g0 hlt) fun es he => .bind (.nth g0 hlt) fun q ⟨hq, hqm⟩ => .bind (cafter_tot (hc.q q hqm) (by omega) hlo) fun af haf => ?_
    refine .bind (.iter (fun s => 0 ≤ s.2.1 ∧ s.2.1 ≤ (es.length : Int) ∧ CsOk code.length s.2.2 ∧ cam s.2.2 ≤ cam all ∧ (s.1 = true → cam s.2.2 < cam all)) (fun s => ((es.length : Int) - s.2.1).toNat) ⟨by simp, by simp, g2, g3, g4⟩ fun s hs => ?_) fun r (hr : CsOk code.length r.2 ∧ cam r.2 ≤ cam all ∧ (r.1 = true → cam r.2 < cam all)) => .pure hr
    obtain ⟨fresh', j, a'⟩ := s
    obtain ⟨k0, k1, k2, k3, k4⟩ := hs
    simp only at k0 k1 k2 k3 k4
    unfold spec_l34Round_b7
    refine .sel (fun hlt' => ?_) fun _ => .inr ⟨k2, k3, k4⟩
    simp only [decide_eq_true_eq] at hlt'
    refine .bind (P := fun z => CsOk code.length z.2 ∧ cam z.2 ≤ cam all ∧ (z.1 = true → cam z.2 < cam all)) ?_ fun z hz => .inl ⟨⟨?_, ?_, hz⟩, ?_⟩
    · refine .bind (.nth k0 hlt') fun e ⟨_, hem⟩ => .bind (ccarry_tot (all := a') k2 (he.2 e hem).1 (he.2 e hem).2 haf) fun r hr => .sel (fun hr1 => .pure ⟨hr.1, by simp only; omega, fun _ => by have := hr.2.2 hr1; simp only; omega⟩) fun _ => .pure ⟨hr.1, by simp only; omega, fun h => by have := k4 h; simp only; omega⟩
    all_goals (rw [w64_up k0 (by omega)]; simp only; omega)
  all_goals (rw [w64_up g0 (by omega)]; simp only; omega)
theorem copies_tot {code : List Quad} (hc : COk code) : Tot (spec_CopiesOf code) fun all => all.length = code.length ∧ ∀ l ∈ all, RsOk l := by
  unfold spec_CopiesOf
  rw [codevalid_true hc, Option.bind_some]
  have hl := hc.max
  have h1 := hc.one
  refine .sf rfl (.bind (P := CsOk code.length) (.iter (fun s => 0 ≤ s.2 ∧ s.2 ≤ (code.length : Int) ∧ CsOk s.2.toNat s.1) (fun s => ((code.length : Int) - s.2).toNat) ⟨by simp, by simp, by simp [CsOk]⟩ fun s hs => ?_) fun a0 ha0 => .bind self_tot fun sf hsf => .bind (.nth (by omega) (by rw [ha0.1]; omega)) fun _ _ =>
    .bind (P := CsOk code.length) (.iter (fun s => CsOk code.length s) cam (ha0.set (.inr hsf)) fun s hs => ?_) fun a1 ha1 => .bind (P := fun all => all.length = code.length ∧ ∀ l ∈ all, RsOk l) (.iter (fun s => 0 ≤ s.1 ∧ s.1 ≤ (code.length : Int) ∧ CsOk code.length s.2 ∧ ∀ (j : Nat) l, (j : Int) < s.1 → s.2[j]? = some l → RsOk l) (fun s => ((code.length : Int) - s.1).toNat) ⟨by simp, by simp, ha1, fun j l h => by simp only at h; omega⟩ fun s hs => ?_) fun r hr => .pure hr)
  · obtain ⟨a, i⟩ := s
    obtain ⟨g0, g1, g2⟩ := hs
    simp only at g0 g1 g2
    unfold spec_CopiesOf_b1
    refine .sel (fun hlt => ?_) fun hlt => .inr ?_
    · simp only [decide_eq_true_eq] at hlt
      refine .bind (.app (by simp [g2.1]; omega)) fun r hr => .inl ?_
      subst hr
      rw [w64_up g0 (by omega)]
      refine ⟨⟨by simp only; omega, by simp only; omega, by simp [g2.1]; omega, fun l hl' => ?_⟩, by simp only; omega⟩
      simp only [List.mem_append, List.mem_singleton] at hl'
      rcases hl' with h | rfl
      · exact g2.2 l h
      · exact .inl rfl
    · simp only [decide_eq_false_iff_not] at hlt
      rw [show i.toNat = code.length by omega] at g2
      exact g2
  · unfold spec_CopiesOf_b2
    exact .bind (cround_tot hc hs) fun r hr => .sel (fun h => .inl ⟨hr.1, hr.2.2 h⟩) fun _ => .inr hr.1
  · obtain ⟨i, a⟩ := s
    obtain ⟨g0, g1, g2, g3⟩ := hs
    simp only at g0 g1 g2 g3
    unfold spec_CopiesOf_b3
    refine .sel (fun hlt => ?_) fun hlt => .inr (show a.length = code.length ∧ ∀ l ∈ a, RsOk l from ?_)
    · simp only [decide_eq_true_eq] at hlt
      have hia : i < a.length := by rw [g2.1]; exact hlt
      refine .bind (P := fun z => CsOk code.length z ∧ ∀ (j : Nat) l, (j : Int) < i + 1 → z[j]? = some l → RsOk l) (.bind (.nth g0 hia) fun l ⟨hl', hm⟩ => .sel (fun he => .bind self_tot fun sf hsf => .pure ⟨g2.set (.inr hsf), fun j l2 hj hl2 => ?_⟩) fun hne => .pure ⟨g2, fun j l2 hj hl2 => ?_⟩) fun z hz => .inl ?_
      · by_cases e : j = i.toNat
        · subst e
          have hlt3 : i.toNat < a.length := by omega
          rw [List.getElem?_set_self hlt3] at hl2
          injection hl2 with hl2
          exact hl2 ▸ hsf
        · rw [List.getElem?_set_ne (fun h => e h.symm)] at hl2
          exact g3 j l2 (by omega) hl2
      · by_cases e : j = i.toNat
        · subst e
          rw [hl'] at hl2
          injection hl2 with hl2
          subst hl2
          exact (g2.2 l hm).resolve_left (by rintro rfl; simp at hne)
        · exact g3 j l2 (by omega) hl2
      · rw [w64_up g0 (by omega)]
        exact ⟨⟨by simp only; omega, by simp only; omega, hz⟩, by simp only; omega⟩
    · simp only [decide_eq_false_iff_not] at hlt
      refine ⟨g2.1, fun l hm => ?_⟩
      obtain ⟨j, hj, rfl⟩ := List.getElem_of_mem hm
      exact g3 j _ (by have := g2.1; omega) (List.getElem?_eq_getElem hj)
theorem read_tot {q : Quad} {m : Int} {cs : List Int} (hq : QOk m q) (hf : RsOk cs) : Tot (spec_l34Read q cs) fun q' => QOk m q' ∧ q'.Op = q.Op := by
  have hv := hq
  unfold QOk at hv
  unfold spec_l34Read
  refine .bind (P := fun b => b = true ↔ (q.Op = 2 ∨ q.Op = 5 ∨ q.Op = 6 ∨ q.Op = 9)) (.sel (fun h => .pure ?_) fun h => .sel (fun h' => .pure ?_) fun h' => .sel (fun h'' => .pure ?_) fun h'' => .pure ?_) fun b hb => .sel (fun hbt => ?_) fun hbf => .sel (fun h => ?_) fun _ => .pure ⟨hq, rfl⟩
  · simp only [beq_iff_eq] at *; simp [h]
  · simp only [beq_iff_eq] at *; simp [h']
  · simp only [beq_iff_eq] at *; simp [h'']
  · simp only [beq_eq_false_iff_ne, ne_eq] at *; simp [h, h', h'']
  · have ha : Rg q.A := by have := hb.1 hbt; unfold Rg at *; omega
    refine .bind (.nth (ha.lt hf.1).1 (ha.lt hf.1).2) fun x ⟨_, hm⟩ => .pure ⟨?_, rfl⟩
    have hx := hf.2 x hm
    rcases hb.1 hbt with h | h | h | h <;> simp [h] at hv <;> simp [QOk, h, hv, hx]
  · simp only [beq_iff_eq] at h
    simp [h] at hv
    exact .bind (.nth (hv.2.1.lt hf.1).1 (hv.2.1.lt hf.1).2) fun x ⟨_, hm⟩ => .bind (.nth (hv.2.2.1.lt hf.1).1 (hv.2.2.1.lt hf.1).2) fun y ⟨_, hm'⟩ => .pure ⟨.inr (.inr (.inl ⟨h, hv.1, hf.2 x hm, hf.2 y hm', hv.2.2.2⟩)), rfl⟩
theorem copyCode_ok : PassOk spec_CopyCode := fun {code} hc => by
  unfold spec_CopyCode
  rw [codevalid_true hc, Option.bind_some]
  have hl := hc.max
  refine .sf rfl (.bind (copies_tot hc) fun cs hcs => .bind (map_loop (n := code.length) (fun i q' => ∃ q : Quad, code[i]? = some q ∧ QOk code.length q' ∧ (q.Op = 10 ∨ q.Op = 4 → q'.Op = 10 ∨ q'.Op = 4)) hc.max (fun i out h0 h1 h2 => ?_) fun out => ?_) fun out ho => .pure ⟨hc.alike ho, rfl, by rw [ho.1]; exact Nat.le_refl _⟩)
  · unfold spec_CopyCode_b1
    refine .st (by simpa using h1) (.bind (.nth h0 (by rw [hcs.1]; exact h1)) fun l ⟨_, hm⟩ => .bind (.nth h0 h1) fun q ⟨hq, hqm⟩ => .bind (read_tot (hc.q q hqm) (hcs.2 l hm)) fun q' hq' => .bind (.app (by simp [h2]; omega)) fun r hr => .pure ⟨q', ?_, q, hq, hq'.1, fun h => by rw [hq'.2]; exact h⟩)
    rw [w64_up h0 (by omega), hr]
  · unfold spec_CopyCode_b1; rw [sel_false (by simp)]
/-! ### JumpCode -/
theorem target_tot {code : List Quad} (hc : COk code) {x : Int} (h0 : 0 ≤ x) (h1 : x < code.length) : Tot (spec_l36Target code x) fun y => 0 ≤ y ∧ y < code.length := by
  have hl := hc.max
  unfold spec_l36Target
  refine .bind (P := fun z => match z with | .inl y => 0 ≤ y ∧ y < (code.length : Int) | .inr _ => True) (.iter (fun s => 0 ≤ s.2 ∧ s.2 ≤ (code.length : Int) ∧ 0 ≤ s.1 ∧ s.1 < (code.length : Int)) (fun s => ((code.length : Int) - s.2).toNat) ⟨by simp, by simp, h0, h1⟩ fun s hs => ?_) fun z hz => .both (fun y e => by subst e; exact .pure hz) fun _ _ => .pure ⟨h0, h1⟩
  obtain ⟨y, i⟩ := s
  obtain ⟨g0, g1, g2, g3⟩ := hs
  simp only at g0 g1 g2 g3
  unfold spec_l36Target_b1
  refine .sel (fun hlt => ?_) fun hlt => .inr trivial
  simp only [decide_eq_true_eq] at hlt
  refine .bind (.nth g2 g3) fun q ⟨hq, hm⟩ => .sel (fun _ => .inr ⟨g2, g3⟩) fun h4 => .bind (.nth g2 g3) fun q' ⟨hq', _⟩ => .inl ?_
  obtain rfl : q = q' := Option.some.inj (hq.symm.trans hq')
  simp only [bne_eq_false_iff_eq] at h4
  have hv := hc.q q hm
  unfold QOk at hv
  simp [h4] at hv
  rw [w64_up g0 (by omega)]
  exact ⟨⟨by simp only; omega, by simp only; omega, hv.2.2.2.1, hv.2.2.2.2⟩, by simp only; omega⟩
theorem jumpCode_ok : PassOk spec_JumpCode := fun {code} hc => by
  unfold spec_JumpCode
  rw [codevalid_true hc, Option.bind_some]
  have hl := hc.max
  refine .sf rfl (.bind (map_loop (n := code.length) (fun i q' => ∃ q : Quad, code[i]? = some q ∧ QOk code.length q' ∧ (q.Op = 10 ∨ q.Op = 4 → q'.Op = 10 ∨ q'.Op = 4)) hc.max (fun i out h0 h1 h2 => ?_) fun out => ?_) fun out ho => .pure ⟨hc.alike ho, rfl, by rw [ho.1]; exact Nat.le_refl _⟩)
  · unfold spec_JumpCode_b1
    refine .st (by simpa using h1) (.bind (.nth h0 h1) fun q ⟨hq, hqm⟩ => .bind (P := fun q' => QOk code.length q' ∧ q'.Op = q.Op) ?_ fun q' hq' => .bind (.app (by simp [h2]; omega)) fun r hr => .pure ⟨q', ?_, q, hq, hq'.1, fun h => by rw [hq'.2]; exact h⟩)
    · have hv := hc.q q hqm
      have hw := hv
      unfold QOk at hw
      refine .sel (fun h => ?_) fun _ => .pure ⟨hv, rfl⟩
      simp only [Bool.or_eq_true, beq_iff_eq] at h
      have hr : 0 ≤ q.N ∧ q.N < code.length := by rcases h with h | h <;> simp [h] at hw <;> omega
      refine .bind (target_tot hc hr.1 hr.2) fun y hy => .pure ⟨?_, rfl⟩
      rcases h with h | h <;> simp [h] at hw <;> simp [QOk, h, hw, hy]
    · rw [w64_up h0 (by omega), hr]
  · unfold spec_JumpCode_b1; rw [sel_false (by simp)]
end Go.Proofs.YtjpbdpfkhdekpaaGreatDoor.N
