/- The program logic: regions whose order is drawn, the last operation apart. -/
import Derived.Test.YtjpbdpfkhdekpaaGreatDoorZ1
import Derived.Laws.Cover3
set_option linter.unusedVariables false
set_option linter.unusedSimpArgs false
namespace Go.Proofs.YtjpbdpfkhdekpaaGreatDoor.X
variable {P : Program} {n : Nat} {ops : Array Oper} {o : Oper} {rest : List Oper} {E E' : Env} {W W' w w0 : World} {a : Act} {v u v2 : Value} {K : Env → World → Prop} {R R' : Exit → Env → World → Prop} {M T S : Nat → Prop} {L L0 L1 : List Ent}
variable {Q : Exit → Act → World → Prop} {SW : World → Prop} {k : Nat}
/-- Whatever order is picked; SW holds behind each operation but the k-th. -/
def wpK (P : Program) (ops : Array Oper) (Q : Exit → Act → World → Prop) (SW : World → Prop) (k : Nat) : Nat → Array Bool → Act → World → Prop
  | 0, l, a, w => Region.ready .any ops l = [] ∧ Q .normal a w
  | f + 1, l, a, w => (Region.ready .any ops l = [] → Q .normal a w) ∧ ∀ i ∈ Region.ready .any ops l, wpOp P ops Q i (fun a' w' => (i ≠ k → SW w') ∧ wpK P ops Q SW k f (l.setIfInBounds i true) a' w') a w
theorem wpK_any : ∀ (f : Nat) (l : Array Bool) (a : Act) (w : World), wpK P ops Q SW k f l a w → wpAny P .any ops Q f l a w
  | 0, _, _, _, h => h
  | f + 1, _, _, _, h => ⟨h.1, fun i hi => wpOp_mono (fun a' w' h' => wpK_any f _ a' w' h'.2) (h.2 i hi)⟩
/-- Does the k-th operation wait for the i-th? -/
def waits (ops : Array Oper) (k i : Nat) : Bool := match ops[k]? with
  | none => true
  | some o => o.after.toList.any fun e => Region.binds .any e && Nat.beq e.on i
theorem waits_spec {i : Nat} {l : Array Bool} (h : waits ops k i = true) (h0 : l.getD i true = false) : k ∉ Region.ready .any ops l := by
  intro hk
  obtain ⟨_, o, ho, hall⟩ := mem_ready.1 hk
  simp only [waits, ho, List.any_eq_true, Bool.and_eq_true] at h
  obtain ⟨e, he, hb, hon⟩ := h
  have h1 := hall e (by simpa using he) hb
  rw [Nat.eq_of_beq_eq_true hon] at h1
  rcases Nat.lt_or_ge i l.size with h' | h'
  · simp [h'] at h0 h1; rw [h0] at h1; cases h1
  · simp [Array.getElem?_eq_none h'] at h1
/-- Who comes up while the i-th hasn't does not wait for it. -/
theorem ready_off {i j : Nat} {l : Array Bool} (h0 : l.getD i true = false) (hj : j ∈ Region.ready .any ops l) : waits ops j i = false := by
  cases h : waits ops j i
  · rfl
  · exact absurd hj (waits_spec h h0)
/-- All that haven't come up and don't wait for the i-th are apart from it. -/
def Lone (ops : Array Oper) (i : Nat) (oi : Oper) (l : Array Bool) : Prop :=
  ∀ j oj, ops[j]? = some oj → j ≠ i → l.getD j true = false → waits ops j i = false → oi.apart ops oj = true
theorem Lone.of {i : Nat} {oi : Oper} {l : Array Bool} (hi : ops[i]? = some oi) (h : Region.free .any ops l i = true) : Lone ops i oi l := fun j oj hj hne hl hw => by
  refine Region.free_spec hi h j oj hj hne hl fun e he hb heq => ?_
  simp only [waits, hj] at hw
  have := List.any_eq_false.1 hw e (by simpa using he)
  simp [hb, heq] at this
theorem Lone.set {i j : Nat} {oi : Oper} {l : Array Bool} (h : Lone ops i oi l) (hj : l.getD j true = false) : Lone ops i oi (l.setIfInBounds j true) := fun m om hm hne hl hw => by
  refine h m om hm hne ?_ hw
  by_cases e : j = m
  · exact e ▸ hj
  · rwa [getD_set_ne true e] at hl
/-- An operation that yields its value wherever SW holds may be taken first. -/
theorem wpK_first {i : Nat} {oi : Oper} {v : Value} (hi : ops[i]? = some oi) (hs : Region.noSelect ops = true) (hQ : ∀ c a w, Q (.panic c) (a.put oi.dst v) w → Q (.panic c) a w) (hw : waits ops k i = true) (hik : i ≠ k) :
    ∀ {f : Nat} {l : Array Bool} {a : Act} {w : World}, Lone ops i oi l → i ∈ Region.ready .any ops l → YieldsIf P ops SW oi v a → SW w → wpK P ops Q SW k f (l.setIfInBounds i true) (a.put oi.dst v) w → wpK P ops Q SW k (f + 1) l a w := by
  intro f
  induction f with
  | zero =>
    intro l a w hL hr hy hS H
    refine ⟨fun h => absurd (h ▸ hr) (by simp), fun j hj => ?_⟩
    rcases Nat.decEq j i with hji | hji
    · exact absurd (ready_mono hj hji) (by rw [H.1]; simp)
    · subst hji
      exact hy.wpOp hi hS ⟨fun _ => hS, H⟩
  | succ f ih =>
    intro l a w hL hr hy hS H
    have hl := (mem_ready.1 hr).1
    refine ⟨fun h => absurd (h ▸ hr) (by simp), fun j hj => ?_⟩
    rcases Nat.decEq j i with hji | hji
    · obtain ⟨hjl, oj, hoj, _⟩ := mem_ready.1 hj
      have hne : j ≠ k := fun h => waits_spec hw hl (h ▸ hj)
      have hsel := Region.noSelect_spec hs
      refine wpOp_mono (fun a' w' ⟨hy', hS', H'⟩ => ⟨hS', ih (hL.set hjl) (ready_mono hr fun h => hji h.symm) hy' (hS' hne) ?_⟩)
        (wpOp_putIf hoj (hL j oj hoj hji hjl (ready_off hl hj)) (fun cs b => hsel i oi cs b hi) (fun cs b => hsel j oj cs b hoj) hQ hy (H.2 j (ready_mono hj hji)))
      rwa [Array.setIfInBounds_comm _ _ hji]
    · subst hji
      exact hy.wpOp hi hS ⟨fun _ => hS, H⟩
/-- What is left of a region whose order is drawn, where these have come up. -/
def RK (P : Program) (n : Nat) (ops : Array Oper) (SW : World → Prop) (k : Nat) (f : Nat) (l : Array Bool) (E : Env) (W : World) (K : Env → World → Prop) : Prop :=
  ∀ a Q, Fits n E a → (∀ a' E' W', Fits n E' a' → K E' W' → Q .normal a' W') → wpK P ops (NoPanic Q) SW k f l a W
theorem CW.rk {id : Nat} (k : Nat) (hS : Sep M w0 W L) (is : List Nat) (hm : P.follows .mixedOrders = true) (h : ∀ W, Sep M w0 W L → RK P n ops (fun W => Sep M w0 W (X.pick L is)) k ops.size (Array.replicate ops.size false) E W (R .normal)) : CW P n (.region id ops true) E W R := by
  intro a ha
  refine wp_region_noPanic (wp_region_any hm (wpK_any _ _ _ _ (h _ (hS.drewN _) a _ ha fun a' E' W' ha' hr => ⟨E', ha', hr⟩)))
theorem RK.done {f : Nat} {l : Array Bool} (h : K E W) (hr : isNil (Region.ready .any ops l) = true) : RK P n ops SW k f l E W K := by
  intro a Q ha hk
  have h0 : Region.ready .any ops l = [] := by
    cases hq : Region.ready .any ops l with
    | nil => rfl
    | cons x y => rw [hq] at hr; cases hr
  have h1 : NoPanic Q .normal a W := hk _ _ _ ha h
  cases f with
  | zero => exact ⟨h0, h1⟩
  | succ f => exact ⟨fun _ => h1, by rw [h0]; simp⟩
/-- This one comes first: it yields a value, whatever the world, as long as SW holds there. -/
theorem RK.t1 {f : Nat} {l : Array Bool} (i : Nat) (ho : ops[i]? = some o) (hv : ∀ W, SW W → Runs P n E o W v W) (hS : SW W) (h : RK P n ops SW k f (l.setIfInBounds i true) (put E o.dst v) W K)
    (hs : (Region.noSelect ops && Region.free .any ops l i && (Region.ready .any ops l).contains i && waits ops k i && !(Nat.beq i k)) = true) (hg : o.guard = none) (hd : okD n o.dst = true) : RK P n ops SW k (f + 1) l E W K := by
  intro a Q ha hk
  simp only [Bool.and_eq_true, Bool.not_eq_true'] at hs
  obtain ⟨⟨⟨⟨h1, h2⟩, h3⟩, h4⟩, h5⟩ := hs
  exact wpK_first ho h1 (fun c a w h => h) h4 (by rintro rfl; rw [Nat.beq_refl] at h5; cases h5) (Lone.of ho h2) (by simpa using h3) (.inl ⟨by simp [Region.wanted, hg], fun w hw => hv w hw a ha⟩) hS (h _ Q (ha.put hd v) hk)
/-- One of these comes up, whichever. -/
def Each (p : Nat → Prop) : List Nat → Prop
  | [] => True
  | i :: r => p i ∧ Each p r
theorem Each.mem {p : Nat → Prop} : ∀ {l : List Nat}, Each p l → ∀ i ∈ l, p i
  | [], _, _, h => by simp at h
  | j :: r, ⟨h1, h2⟩, i, h => by
    rcases List.mem_cons.1 h with rfl | h
    · exact h1
    · exact h2.mem i h
def sameL : List Nat → List Nat → Bool
  | [], [] => true
  | i :: r, j :: q => Nat.beq i j && sameL r q
  | _, _ => false
theorem sameL_eq : ∀ {l q : List Nat}, sameL l q = true → l = q
  | [], [], _ => rfl
  | i :: r, j :: q, h => by
    simp only [sameL, Bool.and_eq_true] at h
    rw [Nat.eq_of_beq_eq_true h.1, sameL_eq h.2]
  | [], _ :: _, h => by cases h
  | _ :: _, [], h => by cases h
/-- The i-th is carried out, the rest follows. -/
def Step (P : Program) (n : Nat) (ops : Array Oper) (SW : World → Prop) (k f : Nat) (l : Array Bool) (E : Env) (W : World) (K : Env → World → Prop) (i : Nat) : Prop :=
  ∃ o, ops[i]? = some o ∧ OpW P n ops o E W fun E' W' => (i ≠ k → SW W') ∧ RK P n ops SW k f (l.setIfInBounds i true) E' W' K
theorem RK.by {f : Nat} {l : Array Bool} (is : List Nat) (h : Each (Step P n ops SW k f l E W K) is) (hr : sameL (Region.ready .any ops l) is = true) (hne : isNil is = false) : RK P n ops SW k (f + 1) l E W K := by
  intro a Q ha hk
  have hq := sameL_eq hr
  refine ⟨fun h0 => ?_, fun i hi => ?_⟩
  · rw [hq] at h0; subst h0; cases hne
  · rw [hq] at hi
    obtain ⟨o, ho, hop⟩ := h.mem i hi
    unfold wpOp
    simp only [ho]
    have := hop a (NoPanic Q) (fun a' w' => (i ≠ k → SW w') ∧ wpK P ops (NoPanic Q) SW k f (l.setIfInBounds i true) a' w') ha (fun a' E' W' ha' ⟨h1, h2⟩ => ⟨h1, h2 a' Q ha' hk⟩)
    split
    · rename_i hw
      rw [if_pos hw] at this
      exact .inl this
    · rename_i hw
      rw [if_neg hw] at this
      exact this
theorem RK.by1 {f : Nat} {l : Array Bool} (i : Nat) (ho : ops[i]? = some o) (h : OpW P n ops o E W fun E' W' => (i ≠ k → SW W') ∧ RK P n ops SW k f (l.setIfInBounds i true) E' W' K)
    (hr : sameL (Region.ready .any ops l) [i] = true) : RK P n ops SW k (f + 1) l E W K := .by [i] ⟨⟨o, ho, h⟩, trivial⟩ hr rfl

/-! ### nil -/
variable {t e : TypeId} {size : Nat} {α : Type} {enc : α → D} {l : List α}
def nilO : Option Addr → Bool
  | none => true
  | some _ => false
def nilV (h : Hd) : Bool := nilO h.A
theorem nilq {h : Hd} {p : Operand} {t' : TypeId} (hu : P.underlying t = some (.slice e)) (ho : o.op = .binOp .eql t p (.const (.slice none 0 0)) t') (hp : ev E p = some (sv h)) : Runs P n E o W (.bool (nilV h)) W := by
  intro a ha
  have h1 := run_equal_slice_nil (P := P) W t e h.A h.n h.c hu
  have h2 : h.A.isNone = nilV h := by unfold nilV nilO; cases h.A <;> rfl
  unfold execOp
  simp only [ho, ha.ev hp, Sem.run_bind]
  rw [h2] at h1
  have h3 : (eqGuard .eql t p (.const (.slice none 0 0)) (sv h) (Act.eval a (.const (.slice none 0 0)))).run P W = .ok () W := rfl
  simp only [h3, Result.andThen_ok]
  have h4 : (binOp .eql t (sv h) (Act.eval a (.const (.slice none 0 0)))).run P W = .ok (.bool (nilV h)) W := by
    show (binOp .eql t (.slice h.A h.n h.c) (.slice none 0 0)).run P W = _
    simp [binOp, h1]
  rw [h4]
  rfl
theorem RV.isnil {h : Hd} (hr : RV W T (sv h) e size enc l) (hb : nilV h = true) : l = [] := by
  obtain ⟨A, c, cs, e1, e2, e3, e4, e5, e6⟩ := hr
  rcases Decidable.em (l = []) with hl | hl
  · exact hl
  · obtain ⟨ad, rfl, _⟩ := e5 (by simpa using hl)
    simp only [sv, List.cons.injEq, Value.slice.injEq, and_true] at e1
    rw [nilV, e1.1] at hb
    cases hb
end Go.Proofs.YtjpbdpfkhdekpaaGreatDoor.X
