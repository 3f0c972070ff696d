/- Plain laws: expressions and statements are drawn, they are valid, they compile to valid codes. -/
import Derived.Test.YtjpbdpfkhdekpaaGreatDoorU5
set_option linter.unusedVariables false
namespace Go.Proofs.YtjpbdpfkhdekpaaGreatDoor.N
open Go.Proofs.YtjpbdpfkhdekpaaGreatDoor.X
theorem Expr.eta' (x : Expr) : Expr.mk x.Op x.N x.Args = x := by cases x; rfl
theorem Stmt.eta' (x : Stmt) : Stmt.mk x.Kind x.Var x.Box (Expr.mk x.Expr.Op x.Expr.N x.Expr.Args) x.Body x.Else = x := by rw [Expr.eta']; cases x; rfl
/-! ### Expressions -/
def EOk : Nat → Expr → Prop
  | 0, _ => False
  | d + 1, e => (e.Op = 0 ∧ 0 ≤ e.N ∧ e.N ≤ 99999 ∧ e.Args = []) ∨ (e.Op = 13 ∧ 0 ≤ e.N ∧ e.N ≤ 3 ∧ e.Args = []) ∨ ((1 ≤ e.Op ∧ e.Op ≤ 12) ∧ e.N = 0 ∧ ∃ a b, e.Args = [a, b] ∧ EOk d a ∧ EOk d b)
theorem EOk.mono : ∀ {d d' : Nat} {e : Expr}, EOk d e → d ≤ d' → EOk d' e
  | 0, _, _, h, _ => h.elim
  | d + 1, 0, _, _, h => by omega
  | d + 1, d' + 1, e, h, hd => by
    rcases h with h | h | ⟨h1, h2, a, b, h3, h4, h5⟩
    · exact .inl h
    · exact .inr (.inl h)
    · exact .inr (.inr ⟨h1, h2, a, b, h3, h4.mono (by omega), h5.mono (by omega)⟩)
theorem l4ok_eq : ∀ {d k : Nat} {e : Expr} {dd : Int}, EOk d e → (d : Int) ≤ dd → dd ≤ 1000 → d ≤ k → spec_l4Ok k e dd = some true
  | 0, _, _, _, h, _, _, _ => h.elim
  | d + 1, 0, _, _, _, _, _, h => by omega
  | d + 1, k + 1, e, dd, h, hd, hd', hk => by
    show spec_l4Ok_R k (spec_l4Ok k) e dd = _
    unfold spec_l4Ok_R
    rw [sel_false (by simp; omega)]
    rcases h with ⟨h1, h2, h3, h4⟩ | ⟨h1, h2, h3, h4⟩ | ⟨h1, h2, a, b, h3, h4, h5⟩
    · rw [sel_true (by simpa using h1), in_eq, h4]; simp; omega
    · rw [sel_false (by simp [h1]), sel_true (by simpa using h1), in_eq, h4]; simp; omega
    · rw [sel_false (by simp; omega), sel_false (by simp; omega), opvalid_eq, Option.bind_some, h3, w64_s (by omega) (by omega)]
      have e1 : nth [a, b] 0 = some a := rfl
      have e2 : nth [a, b] 1 = some b := rfl
      rw [sel_true (by simp [h1, h2]), e1]
      simp only [Option.bind_some, Expr.eta', l4ok_eq (k := k) h4 (show (d : Int) ≤ dd - 1 by omega) (by omega) (by omega)]
      rw [sel_true rfl, e2]
      simp only [Option.bind_some, Expr.eta', l4ok_eq (k := k) h5 (show (d : Int) ≤ dd - 1 by omega) (by omega) (by omega)]
theorem exprvalid_eq {k : Nat} {e : Expr} (h : EOk 5 e) (hk : 5 ≤ k) : spec_ExprValid k e = some true := by
  unfold spec_ExprValid
  rw [Expr.eta', l4ok_eq h (by omega) (by omega) hk]; rfl
theorem cexpr_tot : ∀ {d k : Nat} {e : Expr} {at_ : Int}, EOk d e → 0 ≤ at_ → at_ + d ≤ 12 → d ≤ k → Tot (spec_l22Expr k e at_) fun out => out.length + 1 ≤ 2 ^ d ∧ 1 ≤ out.length ∧ ∀ q ∈ out, ∀ m, QOk m q
  | 0, _, _, _, h, _, _, _ => h.elim
  | d + 1, 0, _, _, _, _, _, h => by omega
  | d + 1, k + 1, e, at_, h, h0, h12, hk => by
    show Tot (spec_l22Expr_R k (spec_l22Expr k) e at_) _
    unfold spec_l22Expr_R
    have hp : 2 ≤ 2 ^ (d + 1) := by rw [Nat.pow_succ]; have := Nat.two_pow_pos d; omega
    have hr : Rg at_ := by unfold Rg; omega
    rcases h with ⟨h1, h2, h3, h4⟩ | ⟨h1, h2, h3, h4⟩ | ⟨h1, h2, a, b, h3, h4, h5⟩
    · refine .st (by simpa using h1) (.pure ⟨by simpa using hp, by simp, fun q hq m => ?_⟩)
      rw [List.mem_singleton.1 hq]
      exact .inl ⟨rfl, hr, rfl, rfl, by unfold Wd; simp only; omega⟩
    · refine .sf (by simp [h1]) (.st (by simpa using h1) (.pure ⟨by simpa using hp, by simp, fun q hq m => ?_⟩))
      rw [List.mem_singleton.1 hq]
      exact .inr (.inl ⟨rfl, hr, by unfold Rg; simp only; omega, rfl, rfl⟩)
    · refine .sf (by simp; omega) (.sf (by simp; omega) ?_)
      have e1 : nth e.Args 0 = some a := by rw [h3]; rfl
      have e2 : nth e.Args 1 = some b := by rw [h3]; rfl
      have hd : 1 ≤ d := by cases d with
        | zero => exact h4.elim
        | succ d => omega
      rw [e1, e2]
      simp only [Option.bind_some, Expr.eta']
      rw [w64_s (by omega) (by omega)]
      have h256 : 2 ^ d ≤ 4096 := Nat.le_trans (Nat.pow_le_pow_right (by omega) (show d ≤ 12 by omega)) (by decide)
      refine .bind (cexpr_tot (k := k) h4 h0 (by omega) (by omega)) fun x hx => .bind (cexpr_tot (k := k) h5 (show 0 ≤ at_ + 1 by omega) (by omega) (by omega)) fun y hy => .bind (.app (by omega)) fun r hr' => .bind (.app (by subst hr'; simp; omega)) fun r2 hr2 => .pure ?_
      subst hr' hr2
      refine ⟨by simp only [List.length_append, List.length_cons, List.length_nil, Nat.pow_succ]; omega, by simp only [List.length_append, List.length_cons]; omega, fun q hq m => ?_⟩
      simp only [List.mem_append, List.mem_singleton] at hq
      rcases hq with (hq | hq) | rfl
      · exact hx.2.2 q hq m
      · exact hy.2.2 q hq m
      · exact .inr (.inr (.inl ⟨rfl, hr, hr, by unfold Rg; simp only; omega, by simp only; omega, by simp only; omega⟩))
/-- How many numbers an expression takes. -/
def pc : Nat → Int
  | 0 => 2
  | d + 1 => 3 + 2 * pc d
theorem pc_pos : ∀ d, 2 ≤ pc d
  | 0 => by simp [pc]
  | d + 1 => by have := pc_pos d; simp only [pc]; omega
variable {b : List Int} {p m : Int}
theorem op_dr (hb : By b) (h0 : 0 ≤ p) (hm : p ≤ m) (hp : m ≤ 100000000) : Dr (spec_l91Op ⟨b, p⟩) (m + 1) fun x => 1 ≤ x ∧ x ≤ 12 := by
  unfold spec_l91Op
  refine .bind (pick_dr hb h0 hm (by omega) (by omega) (by omega)) fun x p' hx h1 h2 => .pure ?_ h1 h2
  rw [w64_s (by omega) (by omega)]; omega
theorem leaf_dr (hb : By b) (h0 : 0 ≤ p) (hm : p ≤ m) (hp : m ≤ 100000000) : Dr (spec_l91Leaf ⟨b, p⟩) (m + 2) (EOk 1) := by
  unfold spec_l91Leaf
  refine .bind (pick_dr hb h0 hm (by omega) (by omega) (by omega)) fun x p' hx h1 h2 => .sel (fun _ => ?_) fun _ => .sel (fun _ => ?_) fun _ => ?_
  · refine .bind (pick_dr hb h1 h2 (by omega) (by omega) (by omega)) fun y p2 hy h3 h4 => .pure ?_ h3 (by omega)
    exact .inl ⟨rfl, by simp only; omega, by simp only; omega, rfl⟩
  · refine .bind (pick_dr hb h1 h2 (by omega) (by omega) (by omega)) fun y p2 hy h3 h4 => .tot (.nth hy.1 (by simpa using hy.2)) fun z ⟨_, hz⟩ => .pure ?_ h3 (by omega)
    refine .inl ⟨rfl, ?_, ?_, rfl⟩ <;> (simp at hz; simp only; omega)
  · refine .bind (pick_dr hb h1 h2 (by omega) (by omega) (by omega)) fun y p2 hy h3 h4 => .pure ?_ h3 (by omega)
    exact .inr (.inl ⟨rfl, by simp only; omega, by simp only; omega, rfl⟩)
theorem expr_dr (hb : By b) : ∀ {d k : Nat} {p m depth : Int}, 1 ≤ depth → depth ≤ (d : Int) + 1 → (d + 1 ≤ k ∧ d ≤ 100) → 0 ≤ p → p ≤ m → m + pc d ≤ 100000000 → Dr (spec_l91Expr k ⟨b, p⟩ depth) (m + pc d) (EOk (d + 1))
  | d, 0, _, _, _, _, _, h, _, _, _ => by omega
  | d, k + 1, p, m, depth, h1, h2, hk, h0, hm, hp => by
    show Dr (spec_l91Expr_R k (spec_l91Expr k) ⟨b, p⟩ depth) _ _
    unfold spec_l91Expr_R
    have hpc := pc_pos d
    have leaf : ∀ {p' : Int}, 0 ≤ p' → p' ≤ m + pc d - 2 → Dr ((spec_l91Leaf ⟨b, p'⟩).bind fun y2 => some (Expr.mk y2.1.Op y2.1.N y2.1.Args, y2.2)) (m + pc d) (EOk (d + 1)) := fun h0 hm => by
      refine .bind (leaf_dr hb h0 hm (by omega)) fun x p2 hx h3 h4 => .pure ?_ h3 (by omega)
      rw [Expr.eta']
      exact hx.mono (by omega)
    by_cases hd : depth < 2
    · refine .bind (x := sel _ _ _) (m := m) (P := fun c => c = true) (.sel (fun _ => .pure rfl h0 hm) fun h => ?_) fun c p' hc h3 h4 => .sel (fun _ => leaf h3 (by omega)) fun h => by rw [hc] at h; cases h
      simp at h; omega
    · obtain ⟨d, rfl⟩ : ∃ e, d = e + 1 := ⟨d - 1, by omega⟩
      have hpd := pc_pos d
      simp only [pc] at *
      refine .bind (x := sel _ _ _) (m := m + 1) (P := fun _ => True) (.sel (fun h => ?_) fun h => .bind (pick_dr hb h0 hm (by omega) (by omega) (by omega)) fun x p' _ h3 h4 => .pure trivial h3 h4) fun c p' _ h3 h4 => .sel (fun _ => leaf h3 (by omega)) fun _ => ?_
      · simp at h; omega
      · rw [w64_s (by omega) (by omega)]
        refine .bind (op_dr hb h3 h4 (by omega)) fun op p2 hop h5 h6 => .bind (expr_dr hb (k := k) (d := d) (by omega) (by omega) ⟨by omega, by omega⟩ h5 h6 (by omega)) fun x p3 hx h7 h8 => .bind (expr_dr hb (k := k) (d := d) (by omega) (by omega) ⟨by omega, by omega⟩ h7 h8 (by omega)) fun y p4 hy h9 h10 => ?_
        refine .pure ?_ h9 (by omega)
        simp only [Expr.eta']
        exact .inr (.inr ⟨hop, rfl, x, y, rfl, hx, hy⟩)
/-! ### Statements -/
def Simp (s : Stmt) : Prop := s.Body = [] ∧ s.Else = [] ∧ ((s.Kind = 1 ∧ (0 ≤ s.Var ∧ s.Var ≤ 3) ∧ s.Box = 0 ∧ EOk 5 s.Expr) ∨ (s.Kind = 4 ∧ s.Var = 0 ∧ (0 ≤ s.Box ∧ s.Box ≤ 2) ∧ EOk 5 s.Expr) ∨
  (s.Kind = 5 ∧ (0 ≤ s.Var ∧ s.Var ≤ 3) ∧ (0 ≤ s.Box ∧ s.Box ≤ 2) ∧ s.Expr = ⟨0, 0, []⟩) ∨ (s.Kind = 6 ∧ s.Var = 0 ∧ s.Box = 0 ∧ s.Expr = ⟨0, 0, []⟩) ∨ (s.Kind = 7 ∧ s.Var = 0 ∧ s.Box = 0 ∧ EOk 5 s.Expr))
def SOk : Nat → Stmt → Prop
  | 0, s => Simp s
  | n + 1, s => Simp s ∨ ((s.Kind = 2 ∨ (s.Kind = 3 ∧ s.Else = [])) ∧ s.Var = 0 ∧ s.Box = 0 ∧ EOk 5 s.Expr ∧ (∀ x ∈ s.Body, SOk n x) ∧ ∀ x ∈ s.Else, SOk n x)
theorem SOk.of_simp {s : Stmt} (h : Simp s) : ∀ n, SOk n s
  | 0 => h
  | _ + 1 => .inl h
mutual
def ct : Stmt → Nat
  | ⟨_, _, _, _, b, e⟩ => 1 + cts b + cts e
def cts : List Stmt → Nat
  | [] => 0
  | x :: r => ct x + cts r
end
theorem ct_eq (s : Stmt) : ct s = 1 + cts s.Body + cts s.Else := by cases s; rfl
theorem cts_app : ∀ l m : List Stmt, cts (l ++ m) = cts l + cts m
  | [], m => by simp [cts]
  | x :: l, m => by simp only [List.cons_append, cts, cts_app l m]; omega
theorem cts_take : ∀ (l : List Stmt) (i : Nat) (s : Stmt), l[i]? = some s → cts (l.take (i + 1)) = cts (l.take i) + ct s
  | [], _, _, h => by simp at h
  | x :: l, 0, s, h => by
    have : x = s := by simpa using h
    subst this; simp [cts]
  | x :: l, i + 1, s, h => by
    have := cts_take l i s (by simpa using h)
    simp only [List.take_succ_cons, cts, this]; omega
theorem cts_take_le : ∀ (l : List Stmt) (i : Nat), cts (l.take i) ≤ cts l
  | [], _ => by simp [cts]
  | x :: l, 0 => by simp [cts]
  | x :: l, i + 1 => by have := cts_take_le l i; simp only [List.take_succ_cons, cts]; omega
theorem ct_pos (s : Stmt) : 1 ≤ ct s := by rw [ct_eq]; omega
theorem len_cts : ∀ l : List Stmt, l.length ≤ cts l
  | [] => Nat.le_refl _
  | x :: l => by have := len_cts l; have := ct_pos x; simp only [List.length_cons, cts]; omega
theorem SOk.body {n : Nat} {s : Stmt} (h : SOk n s) : (∀ x ∈ s.Body, SOk (n - 1) x) ∧ (∀ x ∈ s.Else, SOk (n - 1) x) ∧ (n = 0 → s.Body = [] ∧ s.Else = []) := by
  cases n with
  | zero => exact ⟨by rw [h.1]; simp, by rw [h.2.1]; simp, fun _ => ⟨h.1, h.2.1⟩⟩
  | succ n =>
    rcases h with h | h
    · exact ⟨by rw [h.1]; simp, by rw [h.2.1]; simp, fun h => by omega⟩
    · exact ⟨h.2.2.2.2.1, h.2.2.2.2.2, fun h => by omega⟩
theorem count_nil {k : Nat} (hk : 1 ≤ k) : spec_l11Count k [] = some 0 := by
  obtain ⟨k, rfl⟩ : ∃ j, k = j + 1 := ⟨k - 1, by omega⟩
  show spec_l11Count_R k (spec_l11Count k) [] = _
  unfold spec_l11Count_R
  rw [iter_eq]
  unfold spec_l11Count_b1
  rfl
theorem count_tot : ∀ {n k : Nat} {l : List Stmt}, n + 2 ≤ k → (∀ x ∈ l, SOk n x) → cts l ≤ 1000000 → Tot (spec_l11Count k l) fun r => r = (cts l : Int)
  | n, 0, _, h, _, _ => by omega
  | n, k + 1, l, hk, hl, hc => by
    show Tot (spec_l11Count_R k (spec_l11Count k) l) _
    unfold spec_l11Count_R
    have hlen := len_cts l
    refine .bind (P := fun r => r = (cts l : Int)) (.iter (fun s => 0 ≤ s.2 ∧ s.2 ≤ (l.length : Int) ∧ s.1 = (cts (l.take s.2.toNat) : Int)) (fun s => ((l.length : Int) - s.2).toNat) ⟨by simp, by simp, by simp [cts]⟩ fun s hs => ?_) fun r hr => .pure hr
    obtain ⟨c, i⟩ := s
    obtain ⟨g0, g1, g2⟩ := hs
    simp only at g0 g1 g2
    unfold spec_l11Count_b1
    refine .sel (fun hlt => ?_) fun hge => .inr (show c = _ from ?_)
    · simp only [decide_eq_true_eq] at hlt
      refine .bind (.nth g0 hlt) fun x ⟨hx, hxm⟩ => .bind (.nth g0 hlt) fun x' ⟨hx', _⟩ => ?_
      obtain rfl : x = x' := Option.some.inj (hx.symm.trans hx')
      have h1 := cts_take l i.toNat x hx
      have h2 := cts_take_le l (i.toNat + 1)
      have h3 := ct_eq x
      have hb := (hl x hxm).body
      have sub : ∀ bl, (∀ y ∈ bl, SOk (n - 1) y) → (n = 0 → bl = []) → cts bl ≤ 1000000 → Tot (spec_l11Count k bl) fun r => r = (cts bl : Int) := fun bl hbl hn hcb => by
        cases n with
        | zero => rw [hn rfl, count_nil (by omega)]; exact .pure rfl
        | succ n => exact count_tot (by omega) hbl hcb
      refine .bind (sub x.Body hb.1 (fun h => (hb.2.2 h).1) (by omega)) fun y hy => .bind (sub x.Else hb.2.1 (fun h => (hb.2.2 h).2) (by omega)) fun z hz => .inl ?_
      subst hy hz
      rw [w64_s (i := c + 1) (by omega) (by omega), w64_s (i := c + 1 + _) (by omega) (by omega), w64_s (by omega) (by omega), w64_up g0 (by omega)]
      refine ⟨⟨by simp only; omega, by simp only; omega, ?_⟩, by simp only; omega⟩
      simp only
      rw [show (i + 1).toNat = i.toNat + 1 by omega, h1, h3, g2]; omega
    · simp only [decide_eq_false_iff_not] at hge
      rw [g2, List.take_of_length_le (by omega)]
/-! ### Statements are drawn -/
def tc : Nat → Int
  | 0 => 60
  | n + 1 => 60 + 4 * tc n
def sc : Nat → Nat
  | 0 => 2
  | n + 1 => 3 + 4 * sc n
theorem tc_pos : ∀ n, 60 ≤ tc n
  | 0 => by simp [tc]
  | n + 1 => by have := tc_pos n; simp only [tc]; omega
theorem sc_pos : ∀ n, 2 ≤ sc n
  | 0 => by simp [sc]
  | n + 1 => by have := sc_pos n; simp only [sc]; omega
theorem expr3_dr (hb : By b) {k : Nat} {depth : Int} (h1 : 1 ≤ depth) (h2 : depth ≤ 3) (hk : 3 ≤ k) (h0 : 0 ≤ p) (hm : p ≤ m) (hp : m ≤ 90000000) : Dr (spec_l91Expr k ⟨b, p⟩ depth) (m + 17) (EOk 5) :=
  (expr_dr hb (d := 2) h1 (by omega) ⟨hk, by omega⟩ h0 hm (by simp only [pc]; omega)).mono (by simp only [pc]; omega) fun e h => h.mono (by omega)
theorem set_dr (hb : By b) {k : Nat} (hk : 3 ≤ k) (h0 : 0 ≤ p) (hm : p ≤ m) (hp : m ≤ 80000000) : Dr (spec_l92Set k ⟨b, p⟩) (m + 19) Simp := by
  unfold spec_l92Set
  refine .bind (pick_dr hb h0 hm (by omega) (by omega) (by omega)) fun v p1 hv h1 h2 => .bind (pick_dr hb h1 h2 (by omega) (by omega) (by omega)) fun x p2 hx h3 h4 => ?_
  rw [w64_s (by omega) (by omega)]
  refine .bind (expr3_dr hb (by omega) (by omega) hk h3 h4 (by omega)) fun e p3 he h5 h6 => .pure ?_ h5 (by omega)
  rw [Expr.eta']
  exact ⟨rfl, rfl, .inl ⟨rfl, ⟨hv.1, by simp only; omega⟩, rfl, he⟩⟩
theorem talk_dr (hb : By b) {k : Nat} {nb : Int} (hn : nb ≤ 3) (hk : 3 ≤ k) (h0 : 0 ≤ p) (hm : p ≤ m) (hp : m ≤ 80000000) : Dr (spec_l92Talk k ⟨b, p⟩ nb) (m + 20) Simp := by
  unfold spec_l92Talk
  refine .sel (fun _ => .bind (set_dr hb hk h0 hm hp) fun s p' hs h1 h2 => .pure (by rw [Stmt.eta']; exact hs) h1 (by omega)) fun h => ?_
  simp only [decide_eq_false_iff_not] at h
  refine .bind (pick_dr hb h0 hm (by omega) (by omega) (by omega)) fun v p1 hv h1 h2 => .bind (pick_dr hb h1 h2 (by omega) (by omega) (by omega)) fun x p2 hx h3 h4 => .sel (fun _ => ?_) fun _ => ?_
  · refine .bind (pick_dr hb h3 h4 (by omega) (by omega) (by omega)) fun y p3 hy h5 h6 => ?_
    rw [w64_s (by omega) (by omega)]
    refine .bind (expr3_dr hb (by omega) (by omega) hk h5 h6 (by omega)) fun e p4 he h7 h8 => .pure ?_ h7 (by omega)
    rw [Expr.eta']
    exact ⟨rfl, rfl, .inr (.inl ⟨rfl, rfl, ⟨hv.1, by simp only; omega⟩, he⟩)⟩
  · refine .bind (pick_dr hb h3 h4 (by omega) (by omega) (by omega)) fun y p3 hy h5 h6 => .pure ?_ h5 (by omega)
    exact ⟨rfl, rfl, .inr (.inr (.inl ⟨rfl, ⟨hy.1, by simp only; omega⟩, ⟨hv.1, by simp only; omega⟩, rfl⟩))⟩
def BlockOk (n : Nat) (c : Nat) (l : List Stmt) : Prop := (∀ x ∈ l, SOk n x) ∧ cts l ≤ c
def BlkP (b : List Int) (nb : Int) (n : Nat) : Prop := ∀ (k : Nat) {p m w : Int} {loops : Bool}, 3 * n + 8 ≤ k → 0 ≤ p → p ≤ m → 0 ≤ w → w ≤ 10 → m + w * tc n ≤ 50000000 → Dr (spec_l92Block k ⟨b, p⟩ nb n w loops) (m + w * tc n) (BlockOk n (w.toNat * sc n))
theorem BlkP.two {nb : Int} {n : Nat} (h : BlkP b nb n) (k : Nat) {w : Int} {loops : Bool} (hk : 3 * n + 8 ≤ k) (h0 : 0 ≤ p) (hm : p ≤ m) (w0 : 0 ≤ w) (w2 : w ≤ 2) (hb : m + 2 * tc n ≤ 50000000) : Dr (spec_l92Block k ⟨b, p⟩ nb n w loops) (m + 2 * tc n) (BlockOk n (2 * sc n)) := by
  have h1 : w * tc n ≤ 2 * tc n := Int.mul_le_mul_of_nonneg_right w2 (by have := tc_pos n; omega)
  have h2 : w.toNat * sc n ≤ 2 * sc n := Nat.mul_le_mul_right _ (by omega)
  exact (h k hk h0 hm w0 (by omega) (by omega)).mono (by omega) fun l hl => ⟨hl.1, Nat.le_trans hl.2 h2⟩
theorem simp_block {n : Nat} {s : Stmt} (h : Simp s) : BlockOk n (sc n) [s] ∧ [s].length ≤ 2 := by
  have h1 : ct s = 1 := by rw [ct_eq, h.1, h.2.1]; rfl
  have h2 := sc_pos n
  refine ⟨⟨fun x hx => ?_, by simp only [cts, h1]; omega⟩, by simp⟩
  rw [List.mem_singleton.1 hx]
  exact .of_simp h n
theorem stmt_dr (hb : By b) {nb : Int} (hnb : nb ≤ 3) {n k : Nat} (hk : 3 * n + 7 ≤ k) (ih : ∀ e, n = e + 1 → BlkP b nb e) {loops : Bool} (h0 : 0 ≤ p) (hm : p ≤ m) (hn : n ≤ 3) (hp : m + tc n ≤ 50000000) : Dr (spec_l92Stmt k ⟨b, p⟩ nb n loops) (m + tc n) (fun l => BlockOk n (sc n) l ∧ l.length ≤ 2) := by
  obtain ⟨k, rfl⟩ : ∃ j, k = j + 1 := ⟨k - 1, by omega⟩
  show Dr (spec_l92Stmt_R k (spec_l92Block k) (spec_l92Stmt k) (spec_l92If k) (spec_l92Loop k) ⟨b, p⟩ nb n loops) _ _
  have htc := tc_pos n
  unfold spec_l92Stmt_R
  refine .tot (P := fun z => match z with | .inl q => 0 ≤ q ∧ q ≤ m + 1 | .inr r => 0 ≤ r.2 ∧ r.2 ≤ m + tc n ∧ BlockOk n (sc n) r.1 ∧ r.1.length ≤ 2) ?_ fun z hz => ?_
  · refine .bind (pick_dr hb h0 hm (by omega) (by omega) (by omega)) fun y hy => .bind (P := fun _ => True) (.sel (fun _ => .pure trivial) fun _ => .pure trivial) fun _ _ => .sel (fun _ => .bind (set_dr hb (by omega) hy.1 hy.2.1 (by omega)) fun r hr => .inr ⟨hr.1, by have := hr.2.1; simp only; omega, ?_⟩) fun _ => .sel (fun _ => .sel (fun hpos => ?_) fun _ => .inl ⟨hy.1, hy.2.1⟩) fun _ => .sel (fun _ => .sel (fun hpos => ?_) fun _ => .inl ⟨hy.1, hy.2.1⟩) fun _ =>
      .bind (P := fun _ => True) (.sel (fun _ => .pure trivial) fun _ => .sel (fun _ => .pure trivial) fun _ => .pure trivial) fun _ _ => .sel (fun _ => .bind (talk_dr hb hnb (by omega) hy.1 hy.2.1 (by omega)) fun r hr => .inr ⟨hr.1, by have := hr.2.1; simp only; omega, ?_⟩) fun _ => .sel (fun _ => .inr ⟨hy.1, by have := hy.2.1; simp only; omega, ?_⟩) fun _ => .inl ⟨hy.1, hy.2.1⟩
    · rw [Stmt.eta']; exact simp_block hr.2.2
    · -- an if
      simp only [decide_eq_true_eq] at hpos
      obtain ⟨n, rfl⟩ : ∃ e, n = e + 1 := ⟨n - 1, by omega⟩
      have hB := ih n rfl
      have ht := tc_pos n
      obtain ⟨k, rfl⟩ : ∃ j, k = j + 1 := ⟨k - 1, by omega⟩
      simp only [tc] at htc hp ⊢
      refine .bind (P := fun r => 0 ≤ r.2 ∧ r.2 ≤ m + (60 + 4 * tc n) ∧ SOk (n + 1) r.1 ∧ ct r.1 ≤ 1 + 4 * sc n) ?_ fun r hr => .inr ⟨hr.1, hr.2.1, ⟨fun x hx => ?_, ?_⟩, by simp⟩
      · show Tot (spec_l92If_R k (spec_l92Block k) (spec_l92Stmt k) (spec_l92If k) (spec_l92Loop k) ⟨b, y.2⟩ nb ((n + 1 : Nat) : Int) loops) _
        unfold spec_l92If_R
        rw [w64_s (i := ((n + 1 : Nat) : Int) - 1) (by omega) (by omega), show ((n + 1 : Nat) : Int) - 1 = n by omega]
        refine .bind (pick_dr hb hy.1 hy.2.1 (by omega) (by omega) (by omega)) fun y1 h1 => ?_
        rw [w64_s (i := 1 + y1.1) (by have := h1.2.2; omega) (by have := h1.2.2; omega)]
        refine .bind (expr3_dr hb (by have := h1.2.2; omega) (by have := h1.2.2; omega) (by omega) h1.1 h1.2.1 (by omega)) fun y2 h2 => .bind (pick_dr hb h2.1 h2.2.1 (by omega) (by omega) (by omega)) fun y3 h3 => .bind (hB.two k (by omega) h3.1 h3.2.1 h3.2.2.1 (by have := h3.2.2.2; omega) (by omega)) fun y4 h4 => .bind (pick_dr hb h4.1 h4.2.1 (by omega) (by omega) (by omega)) fun y5 h5 => .bind (hB.two k (by omega) h5.1 h5.2.1 h5.2.2.1 (by have := h5.2.2.2; omega) (by omega)) fun y6 h6 => .pure ⟨h6.1, by have := h6.2.1; simp only; omega, ?_, ?_⟩
        · rw [Expr.eta']
          exact .inr ⟨.inl rfl, rfl, rfl, h2.2.2, h4.2.2.1, h6.2.2.1⟩
        · rw [ct_eq]; have := h4.2.2.2; have := h6.2.2.2; simp only; omega
      · rw [List.mem_singleton.1 hx, Stmt.eta']; exact hr.2.2.1
      · simp only [cts, Stmt.eta', sc]; have := hr.2.2.2; omega
    · -- a loop
      simp only [Bool.and_eq_true, decide_eq_true_eq] at hpos
      obtain ⟨n, rfl⟩ : ∃ e, n = e + 1 := ⟨n - 1, by omega⟩
      have hB := ih n rfl
      have ht := tc_pos n
      obtain ⟨k, rfl⟩ : ∃ j, k = j + 1 := ⟨k - 1, by omega⟩
      simp only [tc] at htc hp ⊢
      refine .bind (P := fun r => 0 ≤ r.2 ∧ r.2 ≤ m + (60 + 4 * tc n) ∧ BlockOk (n + 1) (sc (n + 1)) r.1 ∧ r.1.length ≤ 2) ?_ fun r hr => .inr hr
      show Tot (spec_l92Loop_R k (spec_l92Block k) (spec_l92Stmt k) (spec_l92If k) (spec_l92Loop k) ⟨b, y.2⟩ nb ((n + 1 : Nat) : Int)) _
      unfold spec_l92Loop_R
      rw [w64_s (i := ((n + 1 : Nat) : Int) - 1) (by omega) (by omega), show ((n + 1 : Nat) : Int) - 1 = n by omega]
      refine .bind (pick_dr hb hy.1 hy.2.1 (by omega) (by omega) (by omega)) fun y1 h1 => .bind (hB.two k (by omega) h1.1 h1.2.1 h1.2.2.1 (by have := h1.2.2.2; omega) (by omega)) fun y2 h2 => ?_
      simp only [spec_l4Leaf, spec_l4Both, Option.bind_some]
      refine .bind (pick_dr hb h2.1 h2.2.1 (by omega) (by omega) (by omega)) fun y7 h7 => ?_
      rw [w64_s (i := 1 + y7.1) (by have := h7.2.2; omega) (by have := h7.2.2; omega)]
      have hlen := len_cts y2.1
      have hct := h2.2.2.2
      have hsc : sc n ≤ 10000 := by
        rcases (show n = 0 ∨ n = 1 ∨ n = 2 by omega) with rfl | rfl | rfl <;> decide
      refine .bind (.app (by simp only [List.length_cons, List.length_nil]; omega)) fun r hr => .pure ⟨h7.1, by have := h7.2.1; simp only; omega, ?_⟩
      subst hr
      have e13 : EOk 4 ⟨13, 3, []⟩ := .inr (.inl ⟨rfl, by simp, by simp, rfl⟩)
      have e0 : ∀ v, 0 ≤ v → v ≤ 99999 → EOk 4 ⟨0, v, []⟩ := fun v h1 h2 => .inl ⟨rfl, h1, h2, rfl⟩
      have s1 : Simp (Stmt.mk 1 3 0 (Expr.mk 8 0 [⟨13, 3, []⟩, ⟨0, 1, []⟩]) [] []) := ⟨rfl, rfl, .inl ⟨rfl, ⟨by simp, by simp⟩, rfl, .inr (.inr ⟨⟨by simp, by simp⟩, rfl, _, _, rfl, e13, e0 1 (by omega) (by omega)⟩)⟩⟩
      have s2 : Simp (Stmt.mk 1 3 0 (Expr.mk 0 0 []) [] []) := ⟨rfl, rfl, .inl ⟨rfl, ⟨by simp, by simp⟩, rfl, (e0 0 (by omega) (by omega)).mono (by omega)⟩⟩
      have h77 : 0 ≤ y7.1 ∧ y7.1 < 3 := h7.2.2
      refine ⟨⟨fun x hx => ?_, ?_⟩, by simp⟩
      · simp only [List.mem_cons, List.not_mem_nil, or_false] at hx
        rcases hx with rfl | rfl
        · exact .of_simp s2 _
        · refine .inr ⟨.inr ⟨rfl, rfl⟩, rfl, rfl, .inr (.inr ⟨⟨by simp, by simp⟩, rfl, _, _, rfl, e13, e0 (1 + y7.1) (by omega) (by omega)⟩), fun x hx => ?_, by simp⟩
          simp only [List.mem_append, List.mem_singleton] at hx
          rcases hx with hx | rfl
          · exact h2.2.2.1 x hx
          · exact .of_simp s1 _
      · simp only [cts, ct, cts_app, sc]; omega
    · rw [Stmt.eta']; exact simp_block hr.2.2
    · exact simp_block ⟨rfl, rfl, .inr (.inr (.inr (.inl ⟨rfl, rfl, rfl, rfl⟩)))⟩
  · refine .both (fun q e => ?_) fun r e => ?_
    · subst e
      obtain ⟨g0, g1⟩ : 0 ≤ q ∧ q ≤ m + 1 := hz
      refine .bind (pick_dr hb g0 g1 (by omega) (by omega) (by omega)) fun x p2 hx h3 h4 => ?_
      dsimp only
      rw [w64_s (i := 1 + x) (by omega) (by omega)]
      refine .bind (expr3_dr hb (depth := 1 + x) (by omega) (by omega) (by omega) h3 h4 (by omega)) fun e p3 he h5 h6 => .pure ?_ h5 (by omega)
      rw [Expr.eta']
      exact simp_block ⟨rfl, rfl, .inr (.inr (.inr (.inr ⟨rfl, rfl, rfl, he⟩)))⟩
    · subst e; obtain ⟨r1, r2⟩ := r; exact .pure hz.2.2 hz.1 hz.2.1
theorem block_dr (hb : By b) {nb : Int} (hnb : nb ≤ 3) : ∀ n, n ≤ 3 → BlkP b nb n := by
  intro n
  induction n with
  | zero => intro _; exact blk 0 (by omega) fun e h => by omega
  | succ n ih => intro hn; exact blk (n + 1) hn fun e h => (by omega : e = n) ▸ ih (by omega)
where
  blk (n : Nat) (hn : n ≤ 3) (ih : ∀ e, n = e + 1 → BlkP b nb e) : BlkP b nb n := by
    intro k p m w loops hk h0 hm w0 w10 hp
    obtain ⟨k, rfl⟩ : ∃ j, k = j + 1 := ⟨k - 1, by omega⟩
    show Dr (spec_l92Block_R k (spec_l92Block k) (spec_l92Stmt k) (spec_l92If k) (spec_l92Loop k) ⟨b, p⟩ nb n w loops) _ _
    unfold spec_l92Block_R
    have htc := tc_pos n
    have hsc : sc n ≤ 10000 := by
      rcases (show n = 0 ∨ n = 1 ∨ n = 2 ∨ n = 3 by omega) with rfl | rfl | rfl | rfl <;> decide
    refine .tot (P := fun r => 0 ≤ r.2 ∧ r.2 ≤ m + w * tc n ∧ BlockOk n (w.toNat * sc n) r.1) (.iter (fun s => 0 ≤ s.2.1 ∧ s.2.1 ≤ w ∧ 0 ≤ s.2.2 ∧ s.2.2 ≤ m + s.2.1 * tc n ∧ BlockOk n (s.2.1.toNat * sc n) s.1) (fun s => (w - s.2.1).toNat) ⟨by simp, by simpa using w0, h0, by simp only; omega, by simp [BlockOk, cts]⟩ fun s hs => ?_) fun r hr => .pure hr.2.2 hr.1 hr.2.1
    obtain ⟨l, i, q⟩ := s
    obtain ⟨g0, g1, g2, g3, g4⟩ := hs
    simp only at g0 g1 g2 g3 g4
    unfold spec_l92Block_b1
    refine .sel (fun hlt => ?_) fun hge => .inr (show 0 ≤ q ∧ q ≤ m + w * tc n ∧ BlockOk n (w.toNat * sc n) l from ?_)
    · simp only [decide_eq_true_eq] at hlt
      have e1 : (i + 1) * tc n = i * tc n + tc n := by rw [Int.add_mul, Int.one_mul]
      have e2 : (i + 1) * tc n ≤ w * tc n := Int.mul_le_mul_of_nonneg_right (by omega) (by omega)
      refine .bind (stmt_dr hb hnb (by omega) ih g2 g3 hn (by omega)) fun y hy => ?_
      have hll := len_cts l
      have hil : i.toNat * sc n ≤ 10 * sc n := Nat.mul_le_mul_right _ (by omega)
      have hb4 := g4.2
      have hy22 : BlockOk n (sc n) y.1 ∧ y.1.length ≤ 2 := hy.2.2
      refine .bind (.app (l := l) (by have := hy22.2; omega)) fun r hr => .inl ?_
      subst hr
      rw [w64_up g0 (by omega)]
      refine ⟨⟨by simp only; omega, by simp only; omega, hy.1, by have := hy.2.1; simp only; omega, fun x hx => ?_, ?_⟩, by simp only; omega⟩
      · simp only [List.mem_append] at hx
        exact hx.elim (g4.1 x) (hy.2.2.1.1 x)
      · simp only
        rw [cts_app, show (i + 1).toNat = i.toNat + 1 by omega, Nat.add_mul, Nat.one_mul]
        have := hy.2.2.1.2
        omega
    · simp only [decide_eq_false_iff_not] at hge
      obtain rfl : i = w := by omega
      exact ⟨g2, g3, g4⟩
theorem stmts_dr (hb : By b) {nb : Int} (hnb : nb ≤ 3) {k : Nat} (hk : 20 ≤ k) (h0 : 0 ≤ p) (hm : p ≤ m) (hp : m ≤ 1000000) : Dr (spec_l92Stmts k ⟨b, p⟩ nb) (m + 40000) (BlockOk 3 16) := by
  unfold spec_l92Stmts
  refine .bind (pick_dr hb h0 hm (by omega) (by omega) (by omega)) fun v p1 hv h1 h2 => ?_
  dsimp only
  rw [w64_s (by omega) (by omega)]
  have e1 : (1 + v) * tc 3 ≤ 6 * tc 3 := Int.mul_le_mul_of_nonneg_right (by omega) (by decide)
  have e2 : (6 : Int) * tc 3 = 30600 := by decide
  have e5 : m + 1 + (1 + v) * tc 3 ≤ 50000000 := by omega
  refine .bind (block_dr hb hnb 3 (by omega) k (by omega) h1 h2 (by omega) (by omega) e5) fun l p2 hl h3 h4 => ?_
  have e3 : (1 + v).toNat * sc 3 ≤ 6 * sc 3 := Nat.mul_le_mul_right _ (by omega)
  have e4 : 6 * sc 3 = 1146 := by decide
  dsimp only
  have hl2 := hl.2
  refine .tot (P := BlockOk 3 16) (.iter (fun s => BlockOk 3 1146 s) List.length ⟨hl.1, by omega⟩ fun s hs => ?_) fun r hr => .pure hr h3 (by omega)
  unfold spec_l92Stmts_b1
  refine .bind (count_tot (n := 3) (by omega) hs.1 (by have := hs.2; omega)) fun c hc => .sel (fun h => ?_) fun h => .inr ?_
  · simp only [decide_eq_true_eq] at h
    have hne : 1 ≤ s.length := by
      rcases Nat.eq_zero_or_pos s.length with h0 | h0
      · have : s = [] := List.eq_nil_of_length_eq_zero h0
        subst this; simp [cts] at hc; omega
      · exact h0
    have hlen := len_cts s
    have h1146 := hs.2
    rw [w64_s (by omega) (by omega)]
    refine .bind (.cut (by omega)) fun r hr => .inl ?_
    subst hr
    simp only [Int.toNat_zero, List.drop_zero]
    exact ⟨⟨fun x hx => hs.1 x (List.mem_of_mem_take hx), Nat.le_trans (cts_take_le _ _) hs.2⟩, by rw [List.length_take]; omega⟩
  · simp only [decide_eq_false_iff_not] at h
    exact ⟨hs.1, by omega⟩
end Go.Proofs.YtjpbdpfkhdekpaaGreatDoor.N
