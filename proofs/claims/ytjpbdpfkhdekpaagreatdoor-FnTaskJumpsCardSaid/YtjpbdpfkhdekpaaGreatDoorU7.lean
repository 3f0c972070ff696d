/- Plain laws: valid statements compile to valid codes; codes are drawn. -/
import Derived.Test.YtjpbdpfkhdekpaaGreatDoorU6
set_option linter.unusedVariables false
namespace Go.Proofs.YtjpbdpfkhdekpaaGreatDoor.N
open Go.Proofs.YtjpbdpfkhdekpaaGreatDoor.X
variable {b : List Int} {p m : Int}
theorem ct_mem : ∀ {l : List Stmt} {x : Stmt}, x ∈ l → ct x ≤ cts l
  | [], _, h => by simp at h
  | y :: l, x, h => by
    simp only [cts]
    rcases List.mem_cons.1 h with rfl | h
    · omega
    · have := ct_mem h; omega
theorem var_eq (s : Stmt) (u : Bool) : spec_l11Var s u = some (if u then decide (0 ≤ s.Var) && decide (s.Var ≤ 3) else s.Var == 0) := by cases u <;> rfl
theorem box_eq (s : Stmt) (u : Bool) : spec_l11Box s u = some (if u then decide (0 ≤ s.Box) && decide (s.Box ≤ 2) else s.Box == 0) := by cases u <;> rfl
theorem simple_eq {k : Nat} (hk : 5 ≤ k) {s : Stmt} (h : Simp s) : spec_l11Simple k s = some true := by
  obtain ⟨h1, h2, h3⟩ := h
  unfold spec_l11Simple
  simp only [Stmt.eta', Expr.eta', var_eq, box_eq, h1, h2]
  rw [sel_false (by simp)]
  rcases h3 with ⟨a1, a2, a3, a4⟩ | ⟨a1, a2, a3, a4⟩ | ⟨a1, a2, a3, a4⟩ | ⟨a1, a2, a3, a4⟩ | ⟨a1, a2, a3, a4⟩
  · rw [sel_true (by simp [a1])]; simp [a2.1, a2.2, a3, exprvalid_eq a4 hk, sel]
  · rw [sel_false (by simp [a1]), sel_true (by simp [a1])]; simp [a2, a3.1, a3.2, exprvalid_eq a4 hk, sel]
  · rw [sel_false (by simp [a1]), sel_false (by simp [a1]), sel_true (by simp [a1])]; simp [a2.1, a2.2, a3.1, a3.2, a4, spec_l11Plain, sel]
  · rw [sel_false (by simp [a1]), sel_false (by simp [a1]), sel_false (by simp [a1]), sel_true (by simp [a1])]; simp [a2, a3, a4, spec_l11Plain, sel]
  · rw [sel_false (by simp [a1]), sel_false (by simp [a1]), sel_false (by simp [a1]), sel_false (by simp [a1]), sel_true (by simp [a1])]; simp [a2, a3, exprvalid_eq a4 hk, sel]
theorem Simp.kind {s : Stmt} (h : Simp s) : s.Kind ≠ 2 ∧ s.Kind ≠ 3 := by
  obtain ⟨_, _, h⟩ := h
  rcases h with h | h | h | h | h <;> (have := h.1; omega)
theorem blocks_eq : ∀ (n : Nat) {k : Nat} {l : List Stmt}, 2 * n + 8 ≤ k → n ≤ 3 → (∀ x ∈ l, SOk n x) → cts l ≤ 1000000 → spec_l11Blocks k l n = some true := by
  intro n
  induction n with
  | zero => exact fun hk hn hl hc => key 0 (fun h => by omega) hk hn hl hc
  | succ n ih => exact fun hk hn hl hc => key (n + 1) (fun _ {k l} h1 h2 h3 => by have := ih (k := k) (l := l) h1 (by omega) h2 h3; simpa using this) hk hn hl hc
where
  key (n : Nat) (ih : 1 ≤ n → ∀ {k : Nat} {l : List Stmt}, 2 * (n - 1) + 8 ≤ k → (∀ x ∈ l, SOk (n - 1) x) → cts l ≤ 1000000 → spec_l11Blocks k l ((n - 1 : Nat) : Int) = some true) {k : Nat} {l : List Stmt} (hk : 2 * n + 8 ≤ k) (hn : n ≤ 3) (hl : ∀ x ∈ l, SOk n x) (hc : cts l ≤ 1000000) : spec_l11Blocks k l n = some true := by
    obtain ⟨k, rfl⟩ : ∃ j, k = j + 2 := ⟨k - 2, by omega⟩
    refine Tot.eq ?_
    show Tot (spec_l11Blocks_R (k + 1) (spec_l11Blocks (k + 1)) (spec_l11Ok (k + 1)) l n) _
    unfold spec_l11Blocks_R
    have hlen := len_cts l
    refine .bind (P := fun z => z = .inr ()) (.iter (fun i : Int => 0 ≤ i ∧ i ≤ l.length) (fun i => (l.length - i).toNat) ⟨by omega, by omega⟩ fun i ⟨g0, g1⟩ => ?_) fun z hz => by subst hz; exact .pure rfl
    unfold spec_l11Blocks_b1
    refine .sel (fun h => ?_) fun _ => .inr rfl
    simp only [decide_eq_true_eq] at h
    refine .bind (.nth g0 h) fun x ⟨_, hm⟩ => ?_
    rw [Stmt.eta']
    refine .bind (P := fun y => y = true) ?_ fun y hy => .sf (by rw [hy]; rfl) (.inl ?_)
    · have hx := hl x hm
      have hcx := ct_mem hm
      have hce := ct_eq x
      show Tot (spec_l11Ok_R k (spec_l11Blocks k) (spec_l11Ok k) x n) _
      unfold spec_l11Ok_R
      simp only [Stmt.eta', Expr.eta', var_eq, box_eq]
      have simp_case : Simp x → Tot (sel (x.Kind != 2 && x.Kind != 3) ((spec_l11Simple k x).bind fun y1 => some y1) (sel (decide ((n : Int) < 1) || (x.Kind == 3 && decide ((x.Else.length : Int) > 0))) (some false) ((some (if false = true then decide (0 ≤ x.Var) && decide (x.Var ≤ 3) else x.Var == 0)).bind fun y2 => (sel y2 ((some (if false = true then decide (0 ≤ x.Box) && decide (x.Box ≤ 2) else x.Box == 0)).bind fun y3 => some y3) (some false)).bind fun b1 => (sel b1 ((spec_ExprValid k x.Expr).bind fun y4 => some y4) (some false)).bind fun b2 => (sel b2 ((spec_l11Blocks k x.Body (w64 ((n : Int) - 1))).bind fun y5 => some y5) (some false)).bind fun b3 => (sel b3 ((spec_l11Blocks k x.Else (w64 ((n : Int) - 1))).bind fun y6 => some y6) (some false)).bind fun b4 => some b4))) (fun y => y = true) := fun hs => by
        refine .st (by have := hs.kind; simp [this.1, this.2]) ?_
        rw [simple_eq (by omega) hs]; exact .pure rfl
      cases n with
      | zero => exact simp_case hx
      | succ n =>
        rcases hx with hx | ⟨hkd, hv, hb, he, hbd, hel⟩
        · exact simp_case hx
        · refine .sf (by rcases hkd with h | h <;> simp [h]) (.sf (by rcases hkd with h | h <;> simp [h] <;> omega) ?_)
          rw [w64_s (by omega) (by omega), show ((n + 1 : Nat) : Int) - 1 = ((n + 1 - 1 : Nat) : Int) by omega]
          have i1 := ih (by omega) (k := k) (l := x.Body) (by omega) hbd (by omega)
          have i2 := ih (by omega) (k := k) (l := x.Else) (by omega) hel (by omega)
          simp only [i1, i2, exprvalid_eq he (show 5 ≤ k by omega), hv, hb]
          exact .pure rfl
    · rw [w64_up g0 (by omega)]
      exact ⟨⟨by omega, by omega⟩, by omega⟩
theorem stmtsvalid_eq {k : Nat} (hk : 20 ≤ k) {l : List Stmt} (h : BlockOk 3 16 l) : spec_StmtsValid k l = some true := by
  unfold spec_StmtsValid
  have h2 := h.2
  have h1 := blocks_eq 3 (k := k) (by omega) (by omega) h.1 (by omega)
  rw [show ((3 : Nat) : Int) = 3 from rfl] at h1
  rw [h1, Option.bind_some, sel_true rfl, (count_tot (n := 3) (k := k) (by omega) h.1 (by omega)).eq]
  simp; omega
/-! ### Statements compile -/
def Cq (hi : Int) (out : List Quad) : Prop := ∀ q ∈ out, QOk (hi + 1) q
theorem Cq.mono {hi hi' : Int} {out : List Quad} (h : Cq hi out) (hh : hi ≤ hi') : Cq hi' out := fun q hq => (h q hq).mono (by omega)
theorem Cq.app {hi : Int} {out out' : List Quad} (h : Cq hi out) (h' : Cq hi out') : Cq hi (out ++ out') := fun q hq => (List.mem_append.1 hq).elim (h q) (h' q)
theorem Cq.one {hi : Int} {q : Quad} (h : QOk (hi + 1) q) : Cq hi [q] := fun q' hq => by rw [List.mem_singleton.1 hq]; exact h
theorem cexpr4 {k : Nat} {e : Expr} (h : EOk 5 e) (hk : 5 ≤ k) : Tot (spec_l22Expr k e 4) fun out => out.length ≤ 31 ∧ 1 ≤ out.length ∧ ∀ hi, Cq hi out :=
  (cexpr_tot h (by omega) (by omega) hk).mono fun out ho => ⟨by have := ho.1; omega, ho.2.1, fun hi q hq => ho.2.2 q hq _⟩
theorem cexpr0 {k : Nat} (hk : 1 ≤ k) : Tot (spec_l22Expr k ⟨0, 0, []⟩ 4) fun out => out.length ≤ 31 ∧ 1 ≤ out.length ∧ ∀ hi, Cq hi out :=
  (cexpr_tot (d := 1) (.inl ⟨rfl, by simp, by simp, rfl⟩) (by omega) (by omega) hk).mono fun out ho => ⟨by have := ho.1; omega, ho.2.1, fun hi q hq => ho.2.2 q hq _⟩
/-- What compiling gives. -/
def CRes (base : Int) (c : Nat) (out : List Quad) : Prop := out.length ≤ 33 * c ∧ Cq (base + out.length) out
def ListP (n : Nat) : Prop := ∀ {k : Nat} {l : List Stmt} {base : Int}, 3 * n + 8 ≤ k → (∀ x ∈ l, SOk n x) → 0 ≤ base → base + 33 * cts l ≤ 100000 → Tot (spec_l22List k l base) (CRes base (cts l))
theorem cstmt_tot {n k : Nat} (ih : ∀ e, n = e + 1 → ListP e) {x : Stmt} (hx : SOk n x) {base : Int} (hk : 3 * n + 7 ≤ k) (h0 : 0 ≤ base) (h1 : base + 33 * ct x ≤ 100000) : Tot (spec_l22Stmt k x base) (CRes base (ct x)) := by
  obtain ⟨k, rfl⟩ : ∃ j, k = j + 1 := ⟨k - 1, by omega⟩
  show Tot (spec_l22Stmt_R k (spec_l22List k) (spec_l22Stmt k) (spec_l22If k) (spec_l22While k) x base) _
  have hce := ct_eq x
  have r4 : Rg 4 := by unfold Rg; omega
  have hexp : EOk 5 x.Expr ∨ x.Expr = ⟨0, 0, []⟩ := by
    have hs : Simp x → EOk 5 x.Expr ∨ x.Expr = ⟨0, 0, []⟩ := fun h => by
      rcases h.2.2 with h | h | h | h | h
      · exact .inl h.2.2.2
      · exact .inl h.2.2.2
      · exact .inr h.2.2.2
      · exact .inr h.2.2.2
      · exact .inl h.2.2.2
    cases n with
    | zero => exact hs hx
    | succ n => rcases hx with h | h
                · exact hs h
                · exact .inl h.2.2.2.1
  have he : ∀ {k}, 5 ≤ k → Tot (spec_l22Expr k x.Expr 4) fun out => out.length ≤ 31 ∧ 1 ≤ out.length ∧ ∀ hi, Cq hi out := fun hk => hexp.elim (fun h => cexpr4 h hk) fun h => by rw [h]; exact cexpr0 (by omega)
  unfold spec_l22Stmt_R
  simp only [Stmt.eta', Expr.eta']
  refine .bind (he (by omega)) fun ex hex => .sel (fun hkd => ?_) fun h2 => .sel (fun hkd => ?_) fun h3 => ?_
  · -- an if
    simp only [beq_iff_eq] at hkd
    have hns : ¬ Simp x := fun h => h.kind.1 hkd
    obtain ⟨n, rfl⟩ : ∃ e, n = e + 1 := ⟨n - 1, by cases n with | zero => exact absurd hx hns | succ n => omega⟩
    obtain ⟨_, _, _, hee, hbd, hel⟩ := hx.resolve_left hns
    obtain ⟨k, rfl⟩ : ∃ j, k = j + 1 := ⟨k - 1, by omega⟩
    refine .bind (P := CRes base (ct x)) ?_ fun r hr => .pure hr
    show Tot (spec_l22If_R k (spec_l22List k) (spec_l22Stmt k) (spec_l22If k) (spec_l22While k) x base) _
    unfold spec_l22If_R
    simp only [Expr.eta']
    refine .bind (cexpr4 hee (by omega)) fun e he => ?_
    rw [w64_s (i := base + e.length) (by omega) (by omega), w64_s (i := base + e.length + 1) (by omega) (by omega)]
    refine .bind (ih n rfl (k := k) (by omega) hbd (by omega) (by omega)) fun bd ⟨hb1, hb2⟩ => ?_
    rw [w64_s (i := base + e.length + 1 + bd.length) (by omega) (by omega)]
    refine .sel (fun h => ?_) fun h => ?_
    · refine .bind (.app (by simp; omega)) fun r hr => .bind (.app (by subst hr; simp; omega)) fun r2 hr2 => .pure ?_
      subst hr hr2
      refine ⟨by simp; omega, ((he.2.2 _).app (.one ?_)).app (hb2.mono (by simp; omega))⟩
      exact .inr (.inr (.inr (.inr (.inl ⟨rfl, rfl, r4, rfl, by simp only; omega, by simp; omega⟩))))
    · rw [w64_s (i := base + e.length + 1 + bd.length + 1) (by omega) (by omega)]
      refine .bind (ih n rfl (k := k) (by omega) hel (by omega) (by omega)) fun el ⟨he1, he2⟩ => .bind (.app (by simp; omega)) fun r hr => .bind (.app (by subst hr; simp; omega)) fun r2 hr2 => .bind (.app (by subst hr hr2; simp; omega)) fun r3 hr3 => .bind (.app (by subst hr hr2 hr3; simp; omega)) fun r4' hr4 => .pure ?_
      subst hr hr2 hr3 hr4
      rw [w64_s (i := base + e.length + 1 + bd.length + 1 + el.length) (by omega) (by omega)]
      refine ⟨by simp; omega, ((((he.2.2 _).app (.one ?_)).app (hb2.mono (by simp; omega))).app (.one ?_)).app (he2.mono (by simp; omega))⟩
      · exact .inr (.inr (.inr (.inr (.inl ⟨rfl, rfl, r4, rfl, by simp only; omega, by simp; omega⟩))))
      · exact .inr (.inr (.inr (.inl ⟨rfl, rfl, rfl, rfl, by simp only; omega, by simp; omega⟩)))
  · -- a while
    simp only [beq_iff_eq] at hkd
    have hns : ¬ Simp x := fun h => h.kind.2 hkd
    obtain ⟨n, rfl⟩ : ∃ e, n = e + 1 := ⟨n - 1, by cases n with | zero => exact absurd hx hns | succ n => omega⟩
    obtain ⟨_, _, _, hee, hbd, hel⟩ := hx.resolve_left hns
    obtain ⟨k, rfl⟩ : ∃ j, k = j + 1 := ⟨k - 1, by omega⟩
    refine .bind (P := CRes base (ct x)) ?_ fun r hr => .pure hr
    show Tot (spec_l22While_R k (spec_l22List k) (spec_l22Stmt k) (spec_l22If k) (spec_l22While k) x base) _
    unfold spec_l22While_R
    simp only [Expr.eta']
    refine .bind (cexpr4 hee (by omega)) fun e he => ?_
    rw [w64_s (i := base + e.length) (by omega) (by omega), w64_s (i := base + e.length + 1) (by omega) (by omega)]
    refine .bind (ih n rfl (k := k) (by omega) hbd (by omega) (by omega)) fun bd ⟨hb1, hb2⟩ => ?_
    rw [w64_s (i := base + e.length + 1 + bd.length) (by omega) (by omega), w64_s (i := base + e.length + 1 + bd.length + 1) (by omega) (by omega)]
    refine .bind (.app (by simp; omega)) fun r hr => .bind (.app (by subst hr; simp; omega)) fun r2 hr2 => .bind (.app (by subst hr hr2; simp; omega)) fun r3 hr3 => .pure ?_
    subst hr hr2 hr3
    refine ⟨by simp; omega, (((he.2.2 _).app (.one ?_)).app (hb2.mono (by simp; omega))).app (.one ?_)⟩
    · exact .inr (.inr (.inr (.inr (.inl ⟨rfl, rfl, r4, rfl, by simp only; omega, by simp; omega⟩))))
    · exact .inr (.inr (.inr (.inl ⟨rfl, rfl, rfl, rfl, h0, by simp; omega⟩)))
  · have hs : Simp x := by
      simp only [beq_eq_false_iff_ne, ne_eq] at h2 h3
      cases n with
      | zero => exact hx
      | succ n => rcases hx with h | h
                  · exact h
                  · exact absurd h.1 (by omega)
    obtain ⟨s1, s2, s3⟩ := hs
    have h33 : 33 ≤ 33 * ct x := by have := ct_pos x; omega
    have rg : ∀ {v : Int}, 0 ≤ v ∧ v ≤ 3 → Rg v := fun h => by unfold Rg; omega
    have ap : ∀ q : Quad, (∀ hi, 0 ≤ hi → QOk (hi + 1) q) → Tot ((X.app 40 ex [q]).bind fun r => some r) (CRes base (ct x)) := fun q hq => .bind (.app (by simp; omega)) fun r hr => .pure (by
      subst hr
      exact ⟨by simp; omega, (hex.2.2 _).app (.one (hq _ (by omega)))⟩)
    refine .sel (fun h => ap _ fun hi hh => ?_) fun n1 => .sel (fun h => ap _ fun hi hh => ?_) fun n4 => .sel (fun h => ap _ fun hi hh => ?_) fun n7 => .sel (fun h => .pure ⟨by simp; omega, .one ?_⟩) fun n5 => .pure ⟨by simp; omega, .one ?_⟩
    all_goals try simp only [beq_iff_eq] at h
    · simp [h] at s3
      exact .inr (.inl ⟨rfl, rg s3.1, r4, rfl, rfl⟩)
    · simp [h] at s3
      exact .inr (.inr (.inr (.inr (.inr (.inl ⟨rfl, rfl, r4, rfl, s3.2.1.1, s3.2.1.2⟩)))))
    · exact .inr (.inr (.inr (.inr (.inr (.inr (.inr (.inl ⟨rfl, rfl, r4, rfl, rfl⟩)))))))
    · simp [h] at s3
      exact .inr (.inr (.inr (.inr (.inr (.inr (.inl ⟨rfl, rg s3.1, rfl, rfl, s3.2.1.1, s3.2.1.2⟩))))))
    · exact .inr (.inr (.inr (.inr (.inr (.inr (.inr (.inr ⟨.inl rfl, rfl, rfl, rfl, rfl⟩)))))))
theorem clist_tot : ∀ n, ListP n := by
  intro n
  induction n with
  | zero => exact key 0 fun e h => by omega
  | succ n ih => exact key (n + 1) fun e h => (by omega : n = e) ▸ ih
where
  key (n : Nat) (ih : ∀ e, n = e + 1 → ListP e) : ListP n := by
    intro k l base hk hl h0 h1
    obtain ⟨k, rfl⟩ : ∃ j, k = j + 1 := ⟨k - 1, by omega⟩
    show Tot (spec_l22List_R k (spec_l22List k) (spec_l22Stmt k) (spec_l22If k) (spec_l22While k) l base) _
    unfold spec_l22List_R
    have hlen := len_cts l
    refine .bind (P := CRes base (cts l)) (.iter (fun s => 0 ≤ s.2 ∧ s.2 ≤ (l.length : Int) ∧ CRes base (cts (l.take s.2.toNat)) s.1) (fun s => ((l.length : Int) - s.2).toNat) ⟨by simp, by simp, by simp [CRes, Cq]⟩ fun s hs => ?_) fun r hr => .pure hr
    obtain ⟨out, i⟩ := s
    obtain ⟨g0, g1, g2, g3⟩ := hs
    simp only at g0 g1 g2 g3
    have hle := cts_take_le l i.toNat
    unfold spec_l22List_b1
    refine .sel (fun h => ?_) fun h => .inr (show CRes base (cts l) out from ?_)
    · simp only [decide_eq_true_eq] at h
      refine .bind (.nth g0 h) fun x ⟨hx, hm⟩ => ?_
      have h1 := cts_take l i.toNat x hx
      have h2 := cts_take_le l (i.toNat + 1)
      have h3 := ct_mem hm
      dsimp only
      rw [Stmt.eta', w64_s (by omega) (by omega)]
      refine .bind (cstmt_tot ih (hl x hm) (by omega) (by omega) (by omega)) fun y ⟨hy1, hy2⟩ => .bind (.app (l := out) (by omega)) fun r hr => .inl ?_
      subst hr
      rw [w64_up g0 (by omega)]
      refine ⟨⟨by simp only; omega, by simp only; omega, ?_⟩, by simp only; omega⟩
      simp only
      rw [show (i + 1).toNat = i.toNat + 1 by omega, h1]
      exact ⟨by simp; omega, (g3.mono (by simp; omega)).app (hy2.mono (by simp; omega))⟩
    · simp only [decide_eq_false_iff_not] at h
      rw [List.take_of_length_le (by omega)] at g2
      exact ⟨g2, g3⟩
theorem compile_tot {k : Nat} (hk : 20 ≤ k) {l : List Stmt} (h : BlockOk 3 16 l) : Tot (spec_CompileTask k l) fun r => r.2 = true ∧ COk r.1 := by
  unfold spec_CompileTask
  rw [stmtsvalid_eq hk h, Option.bind_some]
  have h2 := h.2
  refine .sf rfl (.bind (clist_tot 3 (k := k) (by omega) h.1 (by omega) (by omega)) fun out ⟨h1, h2'⟩ => .bind (.app (by simp; omega)) fun r hr => .pure ⟨rfl, ?_⟩)
  subst hr
  refine ⟨by simp, by simp; omega, fun q hq => ?_, ⟨_, List.getLast?_concat, .inl rfl⟩⟩
  simp only [List.mem_append, List.mem_singleton] at hq
  rcases hq with hq | rfl
  · exact (h2' q hq).mono (by simp)
  · exact .inr (.inr (.inr (.inr (.inr (.inr (.inr (.inr ⟨.inr rfl, rfl, rfl, rfl, rfl⟩)))))))
/-! ### Codes are drawn -/
theorem word_dr (hb : By b) (h0 : 0 ≤ p) (hm : p ≤ m) (hp : m ≤ 100000000) : Dr (spec_l91Word ⟨b, p⟩) (m + 5) Wd := by
  unfold spec_l91Word
  have wd : ∀ {v : Int}, -1000 ≤ v → v ≤ 1000 → Wd v := fun h1 h2 => by unfold Wd; omega
  refine .bind (pick_dr hb h0 hm (by omega) (by omega) (by omega)) fun x p1 hx h1 h2 => .sel (fun _ => ?_) fun _ => .sel (fun _ => ?_) fun _ => .sel (fun _ => ?_) fun _ => ?_
  · refine .bind (pick_dr hb h1 h2 (by omega) (by omega) (by omega)) fun y p2 hy h3 h4 => .tot (.nth hy.1 (by simpa using hy.2)) fun z ⟨_, hz⟩ => .pure ?_ h3 (by omega)
    unfold Wd
    simp at hz
    omega
  · refine .bind (pick_dr hb h1 h2 (by omega) (by omega) (by omega)) fun y p2 hy h3 h4 => .bind (pick_dr hb h3 h4 (by omega) (by omega) (by omega)) fun y p2 hy h3 h4 => .bind (pick_dr hb h3 h4 (by omega) (by omega) (by omega)) fun y p2 hy h3 h4 => .bind (pick_dr hb h3 h4 (by omega) (by omega) (by omega)) fun y p2 hy h3 h4 => .tot (wrap_tot _) fun z hz => .pure hz h3 (by omega)
  · refine .bind (pick_dr hb h1 h2 (by omega) (by omega) (by omega)) fun y p2 hy h3 h4 => .pure ?_ h3 (by omega)
    rw [w64_s (by omega) (by omega)]
    exact wd (by omega) (by omega)
  · refine .bind (pick_dr hb h1 h2 (by omega) (by omega) (by omega)) fun y p2 hy h3 h4 => .pure (wd (by omega) (by omega)) h3 (by omega)
theorem reg_dr (hb : By b) (h0 : 0 ≤ p) (hm : p ≤ m) (hp : m ≤ 100000000) : Dr (spec_l93Reg ⟨b, p⟩) (m + 1) Rg := by
  unfold spec_l93Reg
  exact .bind (pick_dr hb h0 hm (by omega) (by omega) (by omega)) fun x p1 hx h1 h2 => .pure (by unfold Rg; omega) h1 h2
theorem quad_dr (hb : By b) {many : Int} (hn : 1 ≤ many) (hn' : many ≤ 600) (h0 : 0 ≤ p) (hm : p ≤ m) (hp : m ≤ 90000000) : Dr (spec_l93Quad ⟨b, p⟩ many) (m + 10) (QOk many) := by
  unfold spec_l93Quad
  refine .bind (pick_dr hb h0 hm (by omega) (by omega) (by omega)) fun x p1 hx h1 h2 => ?_
  have tt : ∀ c d : Bool, Tot (sel c (some c) (some d)) fun _ => True := fun c d => .sel (fun _ => .pure trivial) fun _ => .pure trivial
  have tt2 : ∀ c d e : Bool, Tot (sel c (some c) (sel d (some d) (some e))) fun _ => True := fun c d e => .sel (fun _ => .pure trivial) fun _ => tt d e
  refine .tot (tt _ _) fun _ _ => .sel (fun _ => ?_) fun _ => .tot (tt _ _) fun _ _ => .sel (fun _ => ?_) fun _ => .tot (tt2 _ _ _) fun _ _ => .sel (fun _ => ?_) fun _ => .sel (fun _ => ?_) fun _ => .sel (fun _ => ?_) fun _ => .sel (fun _ => ?_) fun _ => .sel (fun _ => ?_) fun _ => ?_
  · refine .bind (reg_dr hb h1 h2 (by omega)) fun d p2 hd h3 h4 => .bind (word_dr hb h3 h4 (by omega)) fun w p3 hw h5 h6 => .bind (pick_dr hb h5 h6 (by omega) (by omega) (by omega)) fun y p4 hy h7 h8 => .tot (.nth hy.1 (by simpa using hy.2)) fun z ⟨_, hz⟩ => .pure (.inl ⟨rfl, hd, rfl, rfl, ?_⟩) h7 (by omega)
    simp at hz
    rcases hz with h | h | h | h <;> first | (rw [h]; exact hw) | (rw [h]; unfold Wd; simp)
  · exact .bind (reg_dr hb h1 h2 (by omega)) fun d p2 hd h3 h4 => .bind (reg_dr hb h3 h4 (by omega)) fun a p3 ha h5 h6 => .pure (.inr (.inl ⟨rfl, hd, ha, rfl, rfl⟩)) h5 (by omega)
  · exact .bind (reg_dr hb h1 h2 (by omega)) fun d p2 hd h3 h4 => .bind (reg_dr hb h3 h4 (by omega)) fun a p3 ha h5 h6 => .bind (reg_dr hb h5 h6 (by omega)) fun c p4 hc h7 h8 => .bind (op_dr hb h7 h8 (by omega)) fun o p5 ho h9 h10 => .pure (.inr (.inr (.inl ⟨rfl, hd, ha, hc, ho.1, ho.2⟩))) h9 (by omega)
  · exact .bind (pick_dr hb h1 h2 (by omega) hn (by omega)) fun y p2 hy h3 h4 => .pure (.inr (.inr (.inr (.inl ⟨rfl, rfl, rfl, rfl, hy.1, hy.2⟩)))) h3 (by omega)
  · exact .bind (reg_dr hb h1 h2 (by omega)) fun a p2 ha h3 h4 => .bind (pick_dr hb h3 h4 (by omega) hn (by omega)) fun y p3 hy h5 h6 => .pure (.inr (.inr (.inr (.inr (.inl ⟨rfl, rfl, ha, rfl, hy.1, hy.2⟩))))) h5 (by omega)
  · exact .bind (reg_dr hb h1 h2 (by omega)) fun a p2 ha h3 h4 => .bind (pick_dr hb h3 h4 (by omega) (by omega) (by omega)) fun y p3 hy h5 h6 => .pure (.inr (.inr (.inr (.inr (.inr (.inl ⟨rfl, rfl, ha, rfl, hy.1, by simp only; omega⟩)))))) h5 (by omega)
  · exact .bind (reg_dr hb h1 h2 (by omega)) fun a p2 ha h3 h4 => .bind (pick_dr hb h3 h4 (by omega) (by omega) (by omega)) fun y p3 hy h5 h6 => .pure (.inr (.inr (.inr (.inr (.inr (.inr (.inl ⟨rfl, ha, rfl, rfl, hy.1, by simp only; omega⟩))))))) h5 (by omega)
  · exact .bind (pick_dr hb h1 h2 (by omega) (by omega) (by omega)) fun y p2 hy h3 h4 => .sel (fun _ => .pure (.inr (.inr (.inr (.inr (.inr (.inr (.inr (.inr ⟨.inl rfl, rfl, rfl, rfl, rfl⟩)))))))) h3 (by omega)) fun _ => .bind (reg_dr hb h3 h4 (by omega)) fun a p3 ha h5 h6 => .pure (.inr (.inr (.inr (.inr (.inr (.inr (.inr (.inl ⟨rfl, rfl, ha, rfl, rfl⟩)))))))) h5 (by omega)
theorem random_dr (hb : By b) (h0 : 0 ≤ p) (hm : p ≤ m) (hp : m ≤ 50000000) : Dr (spec_l93Random ⟨b, p⟩) (m + 200) fun c => COk c ∧ c.length ≤ 14 := by
  unfold spec_l93Random
  refine .bind (pick_dr hb h0 hm (by omega) (by omega) (by omega)) fun x p1 hx h1 h2 => ?_
  dsimp only
  obtain ⟨n, hn⟩ : ∃ n : Int, n = 1 + x := ⟨_, rfl⟩
  have hw : w64 (1 + x) = n := by rw [w64_s (by omega) (by omega), hn]
  refine .tot (P := fun r => 0 ≤ r.2 ∧ r.2 ≤ m + 1 + 140 ∧ (r.1.length : Int) + 1 = n ∧ ∀ q ∈ r.1, QOk n q) (.iter (fun s => 0 ≤ s.2.1 ∧ s.2.1 + 1 ≤ n ∧ 0 ≤ s.2.2 ∧ s.2.2 ≤ m + 1 + 10 * s.2.1 ∧ (s.1.length : Int) = s.2.1 ∧ ∀ q ∈ s.1, QOk n q) (fun s => (n - s.2.1).toNat) ⟨by simp, by simp only; omega, h1, by simp only; omega, by simp, by simp⟩ fun s hs => ?_) fun r hr => ?_
  · obtain ⟨out, i, q⟩ := s
    obtain ⟨g0, g1, g2, g3, g4, g5⟩ := hs
    simp only at g0 g1 g2 g3 g4 g5
    unfold spec_l93Random_b1
    dsimp only
    rw [hw, w64_up g0 (by omega)]
    refine .sel (fun h => ?_) fun h => .inr (show 0 ≤ q ∧ q ≤ m + 1 + 140 ∧ (out.length : Int) + 1 = n ∧ ∀ q ∈ out, QOk n q from ?_)
    · simp only [decide_eq_true_eq] at h
      refine .bind (quad_dr hb (by omega) (by omega) g2 g3 (by omega)) fun y hy => .bind (.app (l := out) (by simp; omega)) fun r hr => .inl ?_
      subst hr
      refine ⟨⟨by simp only; omega, by simp only; omega, hy.1, by have := hy.2.1; simp only; omega, by simp; omega, fun z hz => ?_⟩, by simp only; omega⟩
      simp only [List.mem_append, List.mem_singleton] at hz
      rcases hz with hz | rfl
      · exact g5 z hz
      · exact hy.2.2
    · simp only [decide_eq_false_iff_not] at h
      exact ⟨g2, by omega, by omega, g5⟩
  · obtain ⟨out, q⟩ := r
    obtain ⟨k0, k1, k2, k3⟩ := hr
    simp only at k0 k1 k2 k3
    have fin : ∀ z : Quad, QOk n z → (z.Op = 10 ∨ z.Op = 4) → COk (out ++ [z]) ∧ (out ++ [z]).length ≤ 14 := fun z hz ho => ⟨⟨by simp, by simp; omega, fun y hy => by
      have e : (((out ++ [z]).length : Nat) : Int) = n := by simp; omega
      rw [e]
      simp only [List.mem_append, List.mem_singleton] at hy
      rcases hy with hy | rfl
      · exact k3 y hy
      · exact hz, ⟨z, List.getLast?_concat, ho⟩⟩, by simp; omega⟩
    refine .bind (pick_dr hb k0 k1 (by omega) (by omega) (by omega)) fun y p2 hy h3 h4 => .sel (fun _ => ?_) fun _ => ?_
    · dsimp only
      rw [hw]
      refine .bind (pick_dr hb h3 h4 (by omega) (by omega) (by omega)) fun z p3 hz h5 h6 => .tot (.app (by simp; omega)) fun r hr => .pure ?_ h5 (by omega)
      subst hr
      exact fin _ (.inr (.inr (.inr (.inl ⟨rfl, rfl, rfl, rfl, hz.1, hz.2⟩)))) (.inr rfl)
    · refine .tot (.app (by simp; omega)) fun r hr => .pure ?_ h3 (by omega)
      subst hr
      exact fin _ (.inr (.inr (.inr (.inr (.inr (.inr (.inr (.inr ⟨.inr rfl, rfl, rfl, rfl, rfl⟩)))))))) (.inl rfl)
theorem good_dr (hb : By b) {k : Nat} (hk : 20 ≤ k) (h0 : 0 ≤ p) (hm : p ≤ m) (hp : m ≤ 900000) : Dr (spec_l93Good k ⟨b, p⟩) (m + 50000) fun c => COk c ∧ c.length ≤ 40 := by
  unfold spec_l93Good
  refine .bind (pick_dr hb h0 hm (by omega) (by omega) (by omega)) fun x p1 hx h1 h2 => .sel (fun _ => .bind (random_dr hb h1 h2 (by omega)) fun c p2 hc h3 h4 => .pure ⟨hc.1, by have := hc.2; simp only; omega⟩ h3 (by omega)) fun _ => .bind (stmts_dr hb (by omega) hk h1 h2 (by omega)) fun l p2 hl h3 h4 => .tot (compile_tot hk hl) fun r hr => .sel (fun _ => .bind (random_dr hb h3 h4 (by omega)) fun c p2 hc h3 h4 => .pure ⟨hc.1, by have := hc.2; simp only; omega⟩ h3 (by omega)) fun hle => .bind (pick_dr hb h3 h4 (by omega) (by omega) (by omega)) fun t p3 ht h5 h6 => ?_
  simp only [decide_eq_false_iff_not] at hle
  have h01 : 0 ≤ Int.tdiv t 2 ∧ Int.tdiv t 2 ≤ 1 := by
    rcases (show t = 0 ∨ t = 1 ∨ t = 2 by omega) with rfl | rfl | rfl <;> decide
  dsimp only
  rw [w64_s (by omega) (by omega)]
  exact .tot (optimize_tot hr.2 h01.1 (by omega)) fun o ho => .pure ⟨ho.1, by have := ho.2.2; omega⟩ h5 (by omega)
theorem code_dr (hb : By b) {k : Nat} (hk : 20 ≤ k) (h0 : 0 ≤ p) (hm : p ≤ m) (hp : m ≤ 900000) : Dr (spec_l93Code k ⟨b, p⟩) (m + 50001) fun c => c.length ≤ 41 := by
  unfold spec_l93Code
  refine .bind (good_dr hb hk h0 hm hp) fun c p1 hc h1 h2 => ?_
  have h1' := hc.1.one
  have h2' := hc.2
  refine .bind (pick_dr hb h1 h2 (by omega) (by omega) (by omega)) fun x p2 hx h3 h4 => .sel (fun _ => .tot (.nth (by omega) (by simp only; omega)) fun _ _ => .tot (.upd (by omega) (by simp only; omega)) fun r hr => .pure (by subst hr; simp; omega) h3 (by omega)) fun _ => .sel (fun _ => .tot (.app (by simp; omega)) fun r hr => .pure (by subst hr; simp; omega) h3 (by omega)) fun _ =>
    .sel (fun _ => .tot (.nth (by omega) (by simp only; omega)) fun _ _ => .tot (.upd (by omega) (by simp only; omega)) fun r hr => .pure (by subst hr; simp; omega) h3 (by omega)) fun _ => .sel (fun _ => .pure (by simp) h3 (by omega)) fun _ => .pure (by simp only; omega) h3 (by omega)
theorem drawTask_tot {k : Nat} (hk : 20 ≤ k) {code : List Int} (h : ∀ x ∈ code, 0 ≤ x ∧ x ≤ 255) : Tot (spec_DrawTaskInstrs k code) fun r => r.1.length ≤ 41 ∧ 0 ≤ r.2 ∧ r.2 ≤ 9 := by
  unfold spec_DrawTaskInstrs
  refine .bind (open_tot h) fun r ⟨hb, hp⟩ => .bind (P := fun z => 0 ≤ z.2 ∧ z.2 ≤ 100000 ∧ z.1.length ≤ 41) ?_ fun z hz => .bind (pick_dr (m := 100000) hb hz.1 hz.2.1 (by omega) (by omega) (by omega)) fun x hx => .sel (fun _ => .bind (pick_dr (m := 100001) hb hx.1 (by have := hx.2.1; omega) (by omega) (by omega) (by omega)) fun y hy => .bind (.nth hy.2.2.1 (by simpa using hy.2.2.2)) fun w ⟨_, hw⟩ => .pure ⟨hz.2.2, ?_⟩) fun _ => .bind (pick_dr (m := 100001) hb hx.1 (by have := hx.2.1; omega) (by omega) (by omega) (by omega)) fun y hy => .pure ⟨hz.2.2, ?_⟩
  · exact (code_dr (m := 0) hb hk (by rw [hp]; omega) (by rw [hp]; omega) (by omega)).mono (by omega) fun c hc => hc
  · simp at hw; simp only; omega
  · have : 0 ≤ y.1 ∧ y.1 < 8 := hy.2.2
    rw [w64_s (by omega) (by omega)]; simp only; omega
end Go.Proofs.YtjpbdpfkhdekpaaGreatDoor.N
