/- The program logic: endless repetition as a function, loops, joins, tests within a region, regions whose order is drawn. -/
import Derived.Test.YtjpbdpfkhdekpaaGreatDoorX7
import Derived.Deep.RegionHeld3
set_option linter.unusedVariables false
set_option linter.unusedSimpArgs false
namespace Go.Proofs.YtjpbdpfkhdekpaaGreatDoor.X
variable {P : Program} {n : Nat} {ops : Array Oper} {o : Oper} {rest : List Oper} {E E' : Env} {W W' w0 : World} {a : Act} {v u : Value} {K : Env → World → Prop} {M T S : Nat → Prop} {L L0 : List Ent} {c d : Code}
variable {R R' : Exit → Env → World → Prop}

/-! ### Repetition -/
def iterN {σ ρ : Type} (f : σ → Option (σ ⊕ ρ)) : Nat → σ → Option ρ
  | 0, _ => none
  | k + 1, s => match f s with
    | none => none
    | some (.inl s') => iterN f k s'
    | some (.inr r) => some r
theorem iterN_mono {σ ρ : Type} {f : σ → Option (σ ⊕ ρ)} {r : ρ} : ∀ {k m : Nat} {s : σ}, iterN f k s = some r → k ≤ m → iterN f m s = some r
  | 0, _, _, h, _ => by simp [iterN] at h
  | k + 1, 0, _, _, hm => by omega
  | k + 1, m + 1, s, h, hm => by
    simp only [iterN] at h ⊢
    cases hf : f s with
    | none => rw [hf] at h; cases h
    | some y =>
      cases y with
      | inl s' => rw [hf] at h; exact iterN_mono h (by omega)
      | inr r' => rw [hf] at h; exact h
open Classical in
/-- Repeat f until it answers. -/
noncomputable def iter {σ ρ : Type} (f : σ → Option (σ ⊕ ρ)) (s : σ) : Option ρ :=
  if h : ∃ k r, iterN f k s = some r then iterN f h.choose s else none
theorem iter_some {σ ρ : Type} {f : σ → Option (σ ⊕ ρ)} {s : σ} {r : ρ} : iter f s = some r ↔ ∃ k, iterN f k s = some r := by
  unfold iter
  constructor
  · intro h
    split at h
    · exact ⟨_, h⟩
    · cases h
  · rintro ⟨k, hk⟩
    have hex : ∃ k r, iterN f k s = some r := ⟨k, r, hk⟩
    rw [dif_pos hex]
    obtain ⟨r', hr'⟩ := hex.choose_spec
    rcases Nat.le_total k hex.choose with h | h
    · exact iterN_mono hk h
    · have := iterN_mono hr' h
      rw [hk] at this
      injection this with this
      subst this
      exact hr'
theorem iter_eq {σ ρ : Type} (f : σ → Option (σ ⊕ ρ)) (s : σ) : iter f s = match f s with
    | none => none
    | some (.inl s') => iter f s'
    | some (.inr r) => some r := by
  apply Option.ext
  intro r
  rw [iter_some]
  cases hf : f s with
  | none =>
    constructor
    · rintro ⟨k, hk⟩
      cases k <;> simp [iterN, hf] at hk
    · intro h; cases h
  | some y =>
    cases y with
    | inl s' =>
      simp only
      rw [iter_some]
      constructor
      · rintro ⟨k, hk⟩
        cases k with
        | zero => simp [iterN] at hk
        | succ k => exact ⟨k, by simpa [iterN, hf] using hk⟩
      · rintro ⟨k, hk⟩
        exact ⟨k + 1, by simpa [iterN, hf] using hk⟩
    | inr r' =>
      constructor
      · rintro ⟨k, hk⟩
        cases k with
        | zero => simp [iterN] at hk
        | succ k => simpa [iterN, hf] using hk
      · intro h
        exact ⟨1, by simpa [iterN, hf] using h⟩

theorem CW.mono (h : CW P n c E W R') (hr : ∀ x E' W', R' x E' W' → R x E' W') : CW P n c E W R :=
  fun a ha => Code.wp_mono (fun x a' W' ⟨E', ha', h'⟩ => ⟨E', ha', hr _ _ _ h'⟩) (h a ha)
/-- A loop is the repetition of its body's function. -/
theorem CW.iter {σ ρ : Type} {f : σ → Option (σ ⊕ ρ)} {s : σ} {r : ρ} (Inv : σ → Env → World → Prop) (Rx : ρ → Exit → Env → World → Prop) (h : X.iter f s = some r) (h0 : Inv s E W)
    (step : ∀ s y E W, f s = some y → Inv s E W → CW P n c E W fun x E' W' => match y with
      | .inl s' => x = .normal ∧ Inv s' E' W'
      | .inr r => x ≠ .normal ∧ Rx r x E' W') : CW P n (.loop c) E W (Rx r) := by
  obtain ⟨k, hk⟩ := iter_some.1 h
  intro a ha
  refine wp_loop_ghost (fun m a w => ∃ E s, iterN f m s = some r ∧ Inv s E w ∧ Fits n E a) k ⟨E, s, hk, h0, ha⟩ ?_
  rintro m a w ⟨E, s, hk, hI, hf⟩
  cases m with
  | zero => simp [iterN] at hk
  | succ k =>
    cases hfs : f s with
    | none => simp [iterN, hfs] at hk
    | some y =>
      refine Code.wp_mono ?_ (step s y E w hfs hI a hf)
      rintro x a' w' ⟨E', hf', hx⟩
      cases y with
      | inl s' =>
        obtain ⟨rfl, hI'⟩ := hx
        exact ⟨k, by omega, E', s', by simpa [iterN, hfs] using hk, hI', hf'⟩
      | inr r' =>
        obtain ⟨hne, hR⟩ := hx
        have : r' = r := by simpa [iterN, hfs] using hk
        subst this
        cases x <;> first | exact ⟨E', hf', hR⟩ | exact absurd rfl hne

/-! ### Fewer slots; parts of a region -/
theorem RG.sub {todo : List Oper} (hs : SubL E E') (h : RG P n ops todo E' W K) : RG P n ops todo E W K := fun a Q ha hk => h a Q (ha.sub hs.sub) hk
theorem wp_both {Q Q' : Exit → Act → World → Prop} {k k' : Act → World → Prop} (hk : ∀ a w, k a w → k' a w) (hq : ∀ x a w, x ≠ .normal → Q x a w → Q' x a w) (hh : o.wp P a W k Q) : o.wp P a W k' Q' := by
  unfold Oper.wp at *
  generalize (execOp a.eval o).run P W = r at *
  have hl : LetsOut Q → LetsOut Q' := fun ⟨a, w, h⟩ => ⟨a, w, hq _ _ _ (by simp) h⟩
  cases r with
  | ok n w' =>
    cases n <;> simp only [Oper.upon] at hh ⊢ <;>
      first
        | exact hk _ _ hh
        | exact Calls.mono hh (fun e w'' he => by cases e <;> first | exact hk _ _ he | exact hl he | exact hq _ _ _ (by simp) he)
        | exact Rows.mono hh (fun _ _ he => hk _ _ he)
  | halt x w' => cases x <;> simp only [Oper.upon] at hh ⊢ <;> exact hq _ _ _ (by simp) hh
theorem wpList_app {Q Q' : Exit → Act → World → Prop} {l2 : List Oper} (hn : ∀ a w, Q' .normal a w → wpList P ops Q l2 a w) (hq : ∀ x a w, x ≠ .normal → Q' x a w → Q x a w) : ∀ {l : List Oper} {a : Act} {w : World}, wpList P ops Q' l a w → wpList P ops Q (l ++ l2) a w := by
  intro l
  induction l with
  | nil => intro a w h; exact hn _ _ h
  | cons o l ih =>
    intro a w h
    simp only [List.cons_append]
    unfold wpList at h ⊢
    split
    · rename_i hw
      rw [if_pos hw] at h
      rcases h with h | ⟨h1, b, v, h2⟩
      · exact .inl (wp_both (fun a w => ih) hq h)
      · exact .inr ⟨h1, b, v, hq _ _ _ (by simp) h2⟩
    · rename_i hw
      rw [if_neg hw] at h
      exact ih h
/-- A region's first operations, as a piece. -/
theorem RG.cut {todo : List Oper} (m : Nat) (J : Env → World → Prop) (h1 : RG P n ops (todo.take m) E W J) (h2 : ∀ E' W', J E' W' → RG P n ops (todo.drop m) E' W' K) : RG P n ops todo E W K := by
  intro a Q ha hk
  have := wpList_app (P := P) (ops := ops) (Q := Q) (Q' := fun x a w => x = .normal ∧ wpList P ops Q (todo.drop m) a w) (l2 := todo.drop m) (fun a w h => h.2) (fun x a w hx h => absurd h.1 hx)
    (h1 a _ ha fun a' E' W' ha' hJ => ⟨rfl, h2 E' W' hJ a' Q ha' hk⟩)
  rwa [List.take_append_drop] at this
/-- The first k slots of E are no slots of what stands behind them. -/
def fresh : Nat → Env → Bool
  | 0, _ => true
  | _ + 1, [] => true
  | k + 1, (i, _) :: r => (look (r.drop k) i).isNone && fresh k r
theorem look_fresh : ∀ {k : Nat} {E : Env} {i : Nat} {v : Value}, fresh k E = true → look (E.drop k) i = some v → look E i = some v
  | 0, _, _, _, _, h => h
  | _ + 1, [], _, _, _, h => by simp [look] at h
  | k + 1, (j, u) :: r, i, v, hf, h => by
    simp only [fresh, Bool.and_eq_true] at hf
    simp only [List.drop_succ_cons] at h
    simp only [look]
    cases hb : Nat.beq j i
    · exact look_fresh hf.2 h
    · obtain rfl := Nat.eq_of_beq_eq_true hb
      rw [h] at hf
      simp at hf
/-- What a piece of a region that tests leaves: the test's answer. -/
def Ck (d : Nat) (c : Bool) (E : Env) (M : Nat → Prop) (w0 : World) (L : List Ent) (E' : Env) (W' : World) : Prop :=
  ∃ k, E'.drop k = E ∧ fresh k E' = true ∧ look E' d = some (.bool c) ∧ Sep M w0 W' L
theorem RG.chunk {todo : List Oper} (m d : Nat) (c : Bool) (hS : Sep M w0 W L) (h1 : RG P n ops (todo.take m) E W (Ck d c E M w0 L)) (h2 : ∀ W', Sep M w0 W' L → RG P n ops (todo.drop m) ((d, .bool c) :: E) W' K) : RG P n ops todo E W K := by
  refine .cut m _ h1 fun E' W' ⟨k, e1, e2, e3, hS⟩ => ?_
  intro a Q ha hk
  refine h2 W' hS a Q (ha.sub fun i v hi => ?_) hk
  simp only [look] at hi
  cases hb : Nat.beq d i
  · rw [hb] at hi
    subst e1
    exact look_fresh e2 hi
  · rw [hb] at hi
    obtain rfl := Nat.eq_of_beq_eq_true hb
    injection hi with hi
    subst hi
    exact e3
theorem ck (k : Nat) {d : Nat} {b c : Bool} (hS : Sep M w0 W L) (h3 : look E' d = some (.bool b)) (h4 : b = c) (h1 : E'.drop k = E) (h2 : fresh k E' = true) : Ck d c E M w0 L E' W := ⟨k, h1, h2, by rw [h3, h4], hS⟩

/-- The value on which an operation's guard looks, and what it should be. -/
def gdv (l : List Oper) (E : Env) : Option (Nat × Bool) → Option (Bool × Bool)
  | none => none
  | some (j, b) => match nth? l j with
    | some o => match o.dst with
      | some d => match look E d with
        | some (.bool c) => some (c, b)
        | _ => none
      | none => none
    | none => none
theorem gdv_spec {g : Option (Nat × Bool)} {c b : Bool} (h : gdv ops.toList E g = some (c, b)) : ∃ j d, g = some (j, b) ∧ (ops[j]?).bind (·.dst) = some d ∧ look E d = some (.bool c) := by
  cases g with
  | none => simp [gdv] at h
  | some p =>
    obtain ⟨j, b'⟩ := p
    simp only [gdv] at h
    cases h1 : nth? ops.toList j <;> simp only [h1] at h <;> try contradiction
    rename_i o
    cases h2 : o.dst <;> simp only [h2] at h <;> try contradiction
    rename_i d
    cases h3 : look E d <;> simp only [h3] at h <;> try contradiction
    rename_i z
    cases z <;> (try simp only at h) <;> try contradiction
    injection h with h
    simp only [Prod.mk.injEq] at h
    obtain ⟨rfl, rfl⟩ := h
    rw [nth?_eq] at h1
    exact ⟨j, d, rfl, by rw [show ops[j]? = some o by simpa using h1]; simpa using h2, h3⟩
/-- An operation under a guard is carried out. -/
theorem RG.g {c b : Bool} (hc : c = b) (h : RG P n ops ({ o with guard := none } :: rest) E W K) (hg : gdv ops.toList E o.guard = some (c, b)) : RG P n ops (o :: rest) E W K := by
  subst hc
  obtain ⟨j, d, h1, h2, h3⟩ := gdv_spec hg
  intro a Q ha hk
  have hw : Region.wanted o (yielded ops a.tmps) = true := by simp [Region.wanted, h1, yielded_of ha h2 h3]
  have := h a Q ha hk
  unfold wpList at this ⊢
  rw [if_pos (by simp [Region.wanted])] at this
  rw [if_pos hw]
  exact this
/-- An operation under a guard is not carried out. -/
theorem RG.x {c b : Bool} (hc : c = !b) (h : RG P n ops rest (put E o.dst undef) W K) (hg : gdv ops.toList E o.guard = some (c, b)) (hd : okD n o.dst = true) : RG P n ops (o :: rest) E W K := by
  subst hc
  obtain ⟨j, d, h1, h2, h3⟩ := gdv_spec hg
  intro a Q ha hk
  have hw : Region.wanted o (yielded ops a.tmps) = false := by simp [Region.wanted, h1, yielded_of ha h2 h3]
  unfold wpList
  rw [if_neg (by simp [hw])]
  exact h _ Q (ha.put hd _) hk
/-- Does the guard look on a slot in which no Boolean lies? -/
def gdu (l : List Oper) (E : Env) : Option (Nat × Bool) → Bool
  | none => false
  | some (j, _) => match nth? l j with
    | some o => match o.dst with
      | some d => match look E d with
        | some (.bool _) => false
        | some _ => true
        | none => false
      | none => false
    | none => false
/-- The operation on which the guard looks was itself not carried out. -/
theorem RG.xu (h : RG P n ops rest (put E o.dst undef) W K) (hg : gdu ops.toList E o.guard = true) (hd : okD n o.dst = true) : RG P n ops (o :: rest) E W K := by
  intro a Q ha hk
  have hw : Region.wanted o (yielded ops a.tmps) = false := by
    cases hq : o.guard with
    | none => rw [hq] at hg; simp [gdu] at hg
    | some p =>
      obtain ⟨j, b⟩ := p
      rw [hq] at hg
      simp only [gdu] at hg
      cases h1 : nth? ops.toList j <;> simp only [h1] at hg <;> try contradiction
      rename_i o'
      cases h2 : o'.dst <;> simp only [h2] at hg <;> try contradiction
      rename_i d
      cases h3 : look E d <;> simp only [h3] at hg <;> try contradiction
      rename_i z
      rw [nth?_eq] at h1
      have hj : ops[j]? = some o' := by simpa using h1
      have hd' := ha.h _ _ h3
      cases z <;> simp only at hg <;> first | contradiction | simp [Region.wanted, hq, yielded, hj, h2, hd']
  unfold wpList
  rw [if_neg (by simp [hw])]
  exact h _ Q (ha.put hd _) hk
theorem pk {x y z : Operand} {b : Bool} (ho : o.op = .pick x y z) (hx : ev E x = some (.bool b)) (hy : b = true → ev E y = some v) (hz : b = false → ev E z = some v) : Runs P n E o W v W := by
  intro a ha
  unfold execOp
  simp only [ho, ha.ev hx]
  cases b
  · simp [ha.ev (hz rfl), asBool]
  · simp [ha.ev (hy rfl), asBool]
theorem pkt {x y z : Operand} {b : Bool} (hb : b = true) (ho : o.op = .pick x y z) (hx : ev E x = some (.bool b)) (hy : ev E y = some v) : Runs P n E o W v W := pk ho hx (fun _ => hy) fun h => by rw [hb] at h; cases h
theorem pkf {x y z : Operand} {b : Bool} (hb : b = false) (ho : o.op = .pick x y z) (hx : ev E x = some (.bool b)) (hy : ev E z = some v) : Runs P n E o W v W := pk ho hx (fun h => by rw [hb] at h; cases h) fun _ => hy
theorem RG.both {todo : List Oper} (b : Bool) (ht : b = true → RG P n ops todo E W K) (hf : b = false → RG P n ops todo E W K) : RG P n ops todo E W K := by
  cases b
  · exact hf rfl
  · exact ht rfl
theorem and_t {b c : Bool} (h : b = true) : c = (b && c) := by subst h; rfl
theorem and_f {b c : Bool} (h : b = false) : false = (b && c) := by subst h; rfl
theorem or_t {b c : Bool} (h : b = true) : true = (b || c) := by subst h; rfl
theorem or_f {b c : Bool} (h : b = false) : c = (b || c) := by subst h; rfl

/-! ### What is owned, in another order -/
def pick : List Ent → List Nat → List Ent
  | _, [] => []
  | L, i :: is => match nth? L i with
    | some x => x :: pick (L.eraseIdx i) is
    | none => []
theorem Owns.pick : ∀ {is : List Nat} {L : List Ent} {Ok : Nat → Prop}, Owns W L Ok → Owns W (X.pick L is) Ok
  | [], _, _, _ => trivial
  | i :: is, L, Ok, h => by
    simp only [X.pick]
    cases hi : nth? L i with
    | none => exact trivial
    | some x =>
      rw [nth?_eq] at hi
      obtain ⟨S, h1, h2, h3⟩ := h.pull hi
      exact ⟨S, h1, h2, Owns.pick h3⟩
theorem Sep.pick (h : Sep M w0 W L) (is : List Nat) : Sep M w0 W (X.pick L is) := ⟨h.frame, h.own.pick⟩

/-! ### Regions whose order is drawn -/
/-- What is left of a region whose order is drawn, where these have come up. -/
def RD (P : Program) (n : Nat) (ops : Array Oper) (S : World → Prop) (f : Nat) (l : Array Bool) (E : Env) (W : World) (K : Env → World → Prop) : Prop :=
  ∀ a Q, Fits n E a → (∀ a' E' W', Fits n E' a' → K E' W' → Q .normal a' W') → wpAnyH P .any ops (NoPanic Q) S f l a W
theorem CW.regionD {id : Nat} (S : World → Prop) (hm : P.follows .mixedOrders = true) (h : RD P n ops S ops.size (Array.replicate ops.size false) E { W with drawn := W.drawn + 1 } (R .normal)) : CW P n (.region id ops true) E W R := by
  intro a ha
  exact wp_region_noPanic (wp_region_held (S := S) hm (h a _ ha fun a' E' W' ha' hr => ⟨E', ha', hr⟩))
def isNil (l : List Nat) : Bool := match l with
  | [] => true
  | _ => false
theorem RD.done {SW : World → Prop} {f : Nat} {l : Array Bool} (h : K E W) (hr : isNil (Region.ready .any ops l) = true) : RD P n ops SW f l E W K := by
  intro a Q ha hk
  refine wpAnyH_done ?_ (show NoPanic Q .normal a W from hk _ _ _ ha h) f
  cases hq : Region.ready .any ops l with
  | nil => rfl
  | cons x y => rw [hq] at hr; cases hr
/-- This one comes first: it yields a value, whatever the world, as long as S holds there. -/
theorem RD.t1 {SW : World → Prop} {f : Nat} {l : Array Bool} (i : Nat) (ho : ops[i]? = some o) (hv : ∀ W, SW W → Runs P n E o W v W) (hS : SW W) (h : RD P n ops SW f (l.setIfInBounds i true) (put E o.dst v) W K)
    (hs : Region.noSelect ops = true) (hf : Region.free .any ops l i = true) (hr : (Region.ready .any ops l).contains i = true) (hg : o.guard = none) (hd : okD n o.dst = true) : RD P n ops SW (f + 1) l E W K := by
  intro a Q ha hk
  exact wpAnyH_take ho hs hf hr (fun c a w h => h) (.inl ⟨by simp [Region.wanted, hg], fun w hw => hv w hw a ha⟩) hS (h _ Q (ha.put hd v) hk)
def isOne (l : List Nat) (i : Nat) : Bool := match l with
  | [j] => Nat.beq j i
  | _ => false
/-- This one alone may come up. -/
theorem RD.by1 {SW : World → Prop} {f : Nat} {l : Array Bool} (i : Nat) (ho : ops[i]? = some o) (h : OpW P n ops o E W fun E' W' => SW W' ∧ RD P n ops SW f (l.setIfInBounds i true) E' W' K)
    (hr : isOne (Region.ready .any ops l) i = true) : RD P n ops SW (f + 1) l E W K := by
  intro a Q ha hk
  have hq : Region.ready .any ops l = [i] := by
    match hq : Region.ready .any ops l with
    | [] => rw [hq] at hr; cases hr
    | [j] => rw [hq] at hr; rw [Nat.eq_of_beq_eq_true (show Nat.beq j i = true from hr)]
    | _ :: _ :: _ => rw [hq] at hr; cases hr
  refine wpAnyH_all hq (by simp) fun j hj => ?_
  obtain rfl : j = i := by simpa using hj
  unfold wpOp
  simp only [ho]
  have := h a (NoPanic Q) (fun a' w' => SW w' ∧ wpAnyH P .any ops (NoPanic Q) SW f (l.setIfInBounds j true) a' w') ha (fun a' E' W' ha' ⟨h1, h2⟩ => ⟨h1, h2 a' Q ha' hk⟩)
  split
  · rename_i hw
    rw [if_pos hw] at this
    exact .inl this
  · rename_i hw
    rw [if_neg hw] at this
    exact this
end Go.Proofs.YtjpbdpfkhdekpaaGreatDoor.X
