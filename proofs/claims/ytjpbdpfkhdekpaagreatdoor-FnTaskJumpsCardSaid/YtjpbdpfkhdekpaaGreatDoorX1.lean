/- A small program logic over the kit's walks: the environment of a call as a list, one rule an operation. -/
import Derived.Tactics
import Derived.Orders
import Derived.Laws.Sem
import Derived.Deep.LoopGhost
set_option linter.unusedVariables false
set_option linter.unusedSimpArgs false
namespace Go.Proofs.YtjpbdpfkhdekpaaGreatDoor.X

abbrev Env := List (Nat × Value)
def look : Env → Nat → Option Value
  | [], _ => none
  | (j, v) :: r, i => match Nat.beq j i with
    | true => some v
    | false => look r i
def ev (E : Env) : Operand → Option Value
  | .tmp t => look E t
  | .const v => some v
  | .global g => some (.pointer (some ⟨g, 0, none⟩))
  | .func f => some (.func (.func f) #[] #[])
def evs (E : Env) : List Operand → Option (List Value)
  | [] => some []
  | x :: r => match ev E x, evs E r with
    | some v, some vs => some (v :: vs)
    | _, _ => none

/-- The state 'a' of a call holds what the list says, in n temporaries. -/
structure Fits (n : Nat) (E : Env) (a : Act) : Prop where
  d : a.defers = []
  s : a.tmps.size = n
  h : ∀ i v, look E i = some v → a.tmps[i]? = some v

variable {P : Program} {n : Nat} {ops : Array Oper} {o : Oper} {E E' : Env} {W W' : World} {a : Act} {v u : Value}

theorem Fits.ev (h : Fits n E a) {x : Operand} (hx : ev E x = some v) : a.eval x = v := by
  cases x with
  | tmp t => have := h.h t v hx; simp [Act.eval, this]
  | const c => simpa [X.ev, Act.eval] using hx
  | global g => simpa [X.ev, Act.eval] using hx
  | func f => simpa [X.ev, Act.eval] using hx

theorem Fits.evs (h : Fits n E a) : ∀ {xs : List Operand} {vs : List Value}, evs E xs = some vs → xs.map a.eval = vs
  | [], vs, hx => by simp [X.evs] at hx; simp [hx]
  | x :: r, vs, hx => by
    simp only [X.evs] at hx
    cases h1 : X.ev E x <;> simp only [h1] at hx <;> try contradiction
    cases h2 : X.evs E r <;> simp only [h2] at hx <;> try contradiction
    injection hx with hx
    subst hx
    simp [h.ev h1, Fits.evs h h2]

def put (E : Env) : Option Nat → Value → Env
  | some d, v => (d, v) :: E
  | none, _ => E
def okD (n : Nat) : Option Nat → Bool
  | some d => Nat.blt d n
  | none => true

theorem Fits.put (h : Fits n E a) {d : Option Nat} (hd : okD n d = true) (v : Value) : Fits n (put E d v) (a.put d v) := by
  cases d with
  | none => exact h
  | some d =>
    have hd' : d < n := by simpa [okD, Nat.blt_eq] using hd
    refine ⟨h.d, by simp [Act.put, h.s], fun i u hi => ?_⟩
    simp only [X.put, look] at hi
    by_cases e : d = i
    · subst e
      simp only [Nat.beq_eq_true_eq, Nat.beq_refl] at hi
      injection hi with hi
      subst hi
      simp [Act.put, h.s, hd']
    · have : Nat.beq d i = false := by
        cases hb : Nat.beq d i
        · rfl
        · exact absurd (Nat.eq_of_beq_eq_true hb) e
      rw [this] at hi
      simp only [Act.put]
      rw [Array.getElem?_setIfInBounds_ne e]
      exact h.h i u hi

/-- One operation, executed at E and W, leads on to K. -/
def OpW (P : Program) (n : Nat) (ops : Array Oper) (o : Oper) (E : Env) (W : World) (K : Env → World → Prop) : Prop :=
  ∀ a Q Kc, Fits n E a → (∀ a' E' W', Fits n E' a' → K E' W' → Kc a' W') →
    (if Region.wanted o (yielded ops a.tmps) then o.wp P a W Kc Q else Kc (a.put o.dst undef) W)

/-- What is left of a region. -/
def RG (P : Program) (n : Nat) (ops : Array Oper) (todo : List Oper) (E : Env) (W : World) (K : Env → World → Prop) : Prop :=
  ∀ a Q, Fits n E a → (∀ a' E' W', Fits n E' a' → K E' W' → Q .normal a' W') → wpList P ops Q todo a W

variable {K : Env → World → Prop} {rest : List Oper}

theorem RG.nil (h : K E W) : RG P n ops [] E W K := fun a Q ha hk => hk _ _ _ ha h
theorem RG.c (h : OpW P n ops o E W fun E' W' => RG P n ops rest E' W' K) : RG P n ops (o :: rest) E W K := by
  intro a Q ha hk
  refine wpList_step fun Kc hKc => h a Q Kc ha fun a' E' W' ha' hr => hKc _ _ (hr a' Q ha' hk)

/-- An operation that yields a value. -/
theorem OpW.val (hg : o.guard = none) (hd : okD n o.dst = true) (hrun : ∀ a, Fits n E a → (execOp a.eval o).run P W = .ok (.value v) W')
    (hk : K (put E o.dst v) W') : OpW P n ops o E W K := by
  intro a Q Kc ha h
  rw [if_pos (by simp [Region.wanted, hg])]
  unfold Oper.wp
  rw [hrun a ha]
  exact h _ _ _ (ha.put hd v) hk
/-- An operation that yields none (a store). -/
theorem OpW.skip (hg : o.guard = none) (hd : o.dst = none) (hrun : ∀ a, Fits n E a → (execOp a.eval o).run P W = .ok .skip W')
    (hk : K E W') : OpW P n ops o E W K := by
  intro a Q Kc ha h
  rw [if_pos (by simp [Region.wanted, hg])]
  unfold Oper.wp
  rw [hrun a ha]
  show Kc (a.put o.dst undef) W'
  rw [hd]
  exact h _ _ _ ha hk
/-- A call of a Go function. -/
theorem OpW.enter (hg : o.guard = none) (hd : okD n o.dst = true) {f : FuncId} {args : Array Value} (hrun : ∀ a, Fits n E a → (execOp a.eval o).run P W = .ok (.enter f args) W)
    (hc : Calls P f args W fun e w' => ∃ v, e = .returned v ∧ K (put E o.dst v) w') : OpW P n ops o E W K := by
  intro a Q Kc ha h
  rw [if_pos (by simp [Region.wanted, hg])]
  unfold Oper.wp
  rw [hrun a ha, Oper.upon_enter]
  refine hc.mono fun e w'' ⟨v, he, hk⟩ => ?_
  subst he
  exact h _ _ _ (ha.put hd v) hk
theorem yielded_of {j : Nat} {d : Nat} {b : Bool} (ha : Fits n E a) (hj : (ops[j]?).bind (·.dst) = some d) (hv : look E d = some (.bool b)) : yielded ops a.tmps j = some b := by
  simp [yielded, hj, ha.h _ _ hv]
/-- A guard that lets the operation be carried out. -/
theorem OpW.on {j : Nat} {b : Bool} {d : Nat} (hg : o.guard = some (j, b)) (hj : (ops[j]?).bind (·.dst) = some d) (hv : look E d = some (.bool b))
    (h : OpW P n ops { o with guard := none } E W K) : OpW P n ops o E W K := by
  intro a Q Kc ha hk
  have := h a Q Kc ha hk
  rw [if_pos (by simp [Region.wanted])] at this
  rw [if_pos (by simp [Region.wanted, hg, yielded_of ha hj hv])]
  exact this
/-- A guard that doesn't. -/
theorem OpW.off {j : Nat} {b c : Bool} {d : Nat} (hg : o.guard = some (j, b)) (hj : (ops[j]?).bind (·.dst) = some d) (hv : look E d = some (.bool c)) (hne : (c == b) = false)
    (hd : okD n o.dst = true) (hk : K (put E o.dst undef) W) : OpW P n ops o E W K := by
  intro a Q Kc ha h
  have hne' : c ≠ b := by simpa using hne
  rw [if_neg (by simp [Region.wanted, hg, yielded_of ha hj hv]; exact hne')]
  exact h _ _ _ (ha.put hd _) hk

/-! ### Pure operations: what they yield is reckoned. -/
def w64 (x : Int) : Int := IntKind.i64.wrap x
def kwrap : IntKind → Int → Int
  | .i64, x => w64 x
  | k, x => k.wrap x
theorem kwrap_eq (k : IntKind) (x : Int) : kwrap k x = k.wrap x := by cases k <;> rfl
def sameK : IntKind → IntKind → Bool
  | .i8, .i8 | .i16, .i16 | .i32, .i32 | .i64, .i64 | .u8, .u8 | .u16, .u16 | .u32, .u32 | .u64, .u64 => true
  | _, _ => false
theorem sameK_eq {j k : IntKind} (h : sameK j k = true) : j = k := by cases j <;> cases k <;> first | rfl | cases h
def isZ : Int → Bool
  | .ofNat 0 => true
  | .ofNat (_ + 1) => false
  | .negSucc _ => false
theorem isZ_ne {y : Int} (h : isZ y = false) : y ≠ 0 := by rintro rfl; exact absurd h (by decide)
def shI (op : BinOp) (k : IntKind) (x y : Int) : Option Value := match y with
  | .ofNat m => match op with
    | .shl => some (.int k (kwrap k (x * 2 ^ (min m k.bits))))
    | .shr => some (.int k (x.fdiv (2 ^ (min m k.bits))))
    | _ => none
  | .negSucc _ => none
def bitsI (op : BinOp) (k : IntKind) (x y : Int) : Int :=
  let a := BitVec.ofInt k.bits x
  let b := BitVec.ofInt k.bits y
  match op with
  | .and => k.wrap (a &&& b).toNat
  | .or => k.wrap (a ||| b).toNat
  | .xor => k.wrap (a ^^^ b).toNat
  | .andNot => k.wrap (a &&& ~~~b).toNat
  | _ => 0
def binI (op : BinOp) (k : IntKind) (x y : Int) : Option Value :=
  match op with
  | .add => some (.int k (kwrap k (x + y)))
  | .sub => some (.int k (kwrap k (x - y)))
  | .mul => some (.int k (kwrap k (x * y)))
  | .eql => some (.bool (x == y))
  | .neq => some (.bool (x != y))
  | .lss => some (.bool (decide (x < y)))
  | .leq => some (.bool (decide (x ≤ y)))
  | .gtr => some (.bool (decide (x > y)))
  | .geq => some (.bool (decide (x ≥ y)))
  | .and => some (.int k (bitsI .and k x y))
  | .or => some (.int k (bitsI .or k x y))
  | .xor => some (.int k (bitsI .xor k x y))
  | .andNot => some (.int k (bitsI .andNot k x y))
  | .quo => match isZ y with
    | true => none
    | false => some (.int k (kwrap k (x.tdiv y)))
  | .rem => match isZ y with
    | true => none
    | false => some (.int k (x.tmod y))
  | _ => none
def binS (op : BinOp) (x y : ByteArray) : Option Value :=
  match op with
  | .eql => some (.bool (x.toList == y.toList))
  | .neq => some (.bool (!(x.toList == y.toList)))
  | .lss => some (.bool (Op.bytesLess x.toList y.toList))
  | .leq => some (.bool (Op.bytesLess x.toList y.toList || x.toList == y.toList))
  | .gtr => some (.bool (!(Op.bytesLess x.toList y.toList || x.toList == y.toList)))
  | .geq => some (.bool (!(Op.bytesLess x.toList y.toList)))
  | _ => none
def binB (op : BinOp) (x y : Bool) : Option Value :=
  match op with
  | .eql => some (.bool (x == y))
  | .neq => some (.bool (x != y))
  | _ => none
def isSh : BinOp → Bool
  | .shl | .shr => true
  | _ => false
def binV (op : BinOp) : Value → Value → Option Value
  | .int j x, .int k y => match isSh op with
    | true => shI op j x y
    | false => match sameK j k with
      | true => binI op j x y
      | false => none
  | .string x, .string y => binS op x y
  | _, _ => none
/-- Booleans are compared. -/
def binT (P : Program) (op : BinOp) (t : TypeId) : Value → Value → Option Value
  | .bool x, .bool y => match P.underlying t with
    | some .bool => binB op x y
    | _ => none
  | _, _ => none
def pv (ρ : Operand → Option Value) : Op → Option Value
  | .move x => ρ x
  | .assign x => ρ x
  | .binOp op _ x y _ => match ρ x, ρ y with
    | some u, some v => binV op u v
    | _, _ => none
  | .unOp .not _ x => match ρ x with
    | some (.bool b) => some (.bool (!b))
    | _ => none
  | .unOp .neg _ x => match ρ x with
    | some (.int k m) => some (.int k (kwrap k (0 - m)))
    | _ => none
  | .extract x i => match ρ x with
    | some (.tuple vs) => vs[i]?
    | _ => none
  | .nilCheck x => match ρ x with
    | some (.pointer (some p)) => some (.pointer (some p))
    | _ => none
  | _ => none

theorem binI_run {op : BinOp} {k : IntKind} {x y : Int} {t : TypeId} (h : binI op k x y = some v) : (binOp op t (.int k x) (.int k y)).run P W = .ok v W := by
  cases op <;> simp only [binI] at h <;> first | cases h | skip
  case quo | rem =>
    cases hz : isZ y <;> simp only [hz] at h <;> try contradiction
    injection h with h
    subst h
    simp [binOp, Op.intDiv, isZ_ne hz, kwrap_eq]
  all_goals (simp [binOp, Op.intArith, Op.intCmp, Op.intBits, bitsI, kwrap_eq])
theorem shI_run {op : BinOp} {j k : IntKind} {x y : Int} {t : TypeId} (h : shI op j x y = some v) : (binOp op t (.int j x) (.int k y)).run P W = .ok v W := by
  unfold shI at h
  split at h
  · rename_i m
    split at h <;> try contradiction
    all_goals
      injection h with h
      subst h
      have : ¬ ((m : Int) < 0) := by omega
      simp [binOp, Op.shift, this, kwrap_eq]
  · cases h

theorem eqGuard_run_int (op : BinOp) (t : TypeId) (p q : Operand) (k j : IntKind) (x y : Int) : (eqGuard op t p q (.int k x) (.int j y)).run P W = .ok () W := by
  unfold eqGuard
  cases op <;> rfl
theorem eqGuard_run_str (op : BinOp) (t : TypeId) (p q : Operand) (x y : ByteArray) : (eqGuard op t p q (.string x) (.string y)).run P W = .ok () W := by
  unfold eqGuard
  cases op <;> rfl

theorem binV_run {op : BinOp} {x y : Value} {t : TypeId} {p q : Operand} (h : binV op x y = some v) :
    (eqGuard op t p q x y).run P W = .ok () W ∧ (binOp op t x y).run P W = .ok v W := by
  unfold binV at h
  split at h
  · rename_i j m k m'
    cases hsh : isSh op <;> simp only [hsh] at h
    · cases hs : sameK j k <;> simp only [hs] at h <;> try contradiction
      obtain rfl := sameK_eq hs
      exact ⟨eqGuard_run_int .., binI_run h⟩
    · exact ⟨eqGuard_run_int .., shI_run h⟩
  · refine ⟨eqGuard_run_str .., ?_⟩
    cases op <;> simp only [binS] at h <;> first | cases h | skip
    all_goals (simp [binOp, Op.stringOp])
  · cases h

theorem pv_run {ρ : Operand → Option Value} (ha : Fits n E a) (h : pv (ev E) o.op = some v) : (execOp a.eval o).run P W = .ok (.value v) W := by
  obtain ⟨dst, op, ty, pos, after, guard⟩ := o
  cases op <;> simp only [pv] at h <;> try contradiction
  case move x => simp [execOp, ha.ev h]
  case assign x => simp [execOp, ha.ev h]
  case binOp op t x y t' =>
    cases hx : ev E x <;> simp only [hx] at h <;> try contradiction
    cases hy : ev E y <;> simp only [hy] at h <;> try contradiction
    have := binV_run (P := P) (W := W) (t := t) (p := x) (q := y) h
    simp [execOp, ha.ev hx, ha.ev hy, this.1, this.2]
  case unOp op t x =>
    cases op <;> simp only [pv] at h <;> try contradiction
    all_goals
      cases hx : ev E x <;> simp only [hx] at h <;> try contradiction
      rename_i z
      cases z <;> (try simp only at h) <;> try contradiction
      injection h with h
      subst h
      simp [execOp, ha.ev hx, Op.unary, Op.intArith, kwrap_eq]
  case extract x i =>
    cases hx : ev E x <;> simp only [hx] at h <;> try contradiction
    rename_i z
    cases z <;> (try simp only at h) <;> try contradiction
    simp [execOp, ha.ev hx, Instr.extract, h]
  case nilCheck x =>
    cases hx : ev E x <;> simp only [hx] at h <;> try contradiction
    rename_i z
    cases z <;> (try simp only at h) <;> try contradiction
    rename_i q
    cases q <;> (try simp only at h) <;> try contradiction
    injection h with h
    subst h
    simp [execOp, ha.ev hx]

/-- A pure operation. -/
theorem RG.p (hv : pv (ev E) o.op = some v) (hg : o.guard = none) (hd : okD n o.dst = true)
    (h : RG P n ops rest (put E o.dst v) W K) : RG P n ops (o :: rest) E W K :=
  RG.c (OpW.val hg hd (fun a ha => pv_run (ρ := ev E) ha hv) h)

/-! ### Code -/
def CW (P : Program) (n : Nat) (c : Code) (E : Env) (W : World) (R : Exit → Env → World → Prop) : Prop :=
  ∀ a, Fits n E a → c.wp P (fun x a' W' => ∃ E', Fits n E' a' ∧ R x E' W') a W
variable {R : Exit → Env → World → Prop} {c d : Code}
def andThen (K : Env → World → Prop) (R : Exit → Env → World → Prop) : Exit → Env → World → Prop
  | .normal => K
  | x => R x
theorem CW.seq (h : CW P n c E W (andThen (fun E' W' => CW P n d E' W' R) R)) : CW P n (.seq c d) E W R := by
  intro a ha
  refine wp_seq (Code.wp_mono ?_ (h a ha))
  rintro x a' W' ⟨E', ha', hr⟩
  cases x with
  | normal => exact hr a' ha'
  | _ => exact ⟨E', ha', hr⟩
theorem CW.skip (h : R .normal E W) : CW P n .skip E W R := fun a ha => wp_skip ⟨E, ha, h⟩
theorem CW.ret (h : R .ret E W) : CW P n .ret E W R := fun a ha => wp_ret ⟨E, ha, h⟩
theorem CW.exit {id : Nat} (h : R (.exit id) E W) : CW P n (.exit id) E W R := fun a ha => wp_exit ⟨E, ha, h⟩
theorem CW.region {id : Nat} (h : RG P n ops ops.toList E W (R .normal)) : CW P n (.region id ops false) E W R := by
  intro a ha
  exact wp_region_list (h a _ ha fun a' E' W' ha' hr => ⟨E', ha', hr⟩)
theorem CW.cond {x : Operand} {b : Bool} (hx : ev E x = some (.bool b)) (ht : b = true → CW P n c E W R) (hf : b = false → CW P n d E W R) : CW P n (.cond x c d) E W R := by
  intro a ha
  exact wp_cond_split (ha.ev hx) (fun h => ht h a ha) (fun h => hf h a ha)
def inBlock (id : Nat) (R : Exit → Env → World → Prop) : Exit → Env → World → Prop
  | .exit j => match Nat.beq j id with
    | true => R .normal
    | false => R (.exit j)
  | x => R x
theorem CW.block {id : Nat} (h : CW P n c E W (inBlock id R)) : CW P n (.block id c) E W R := by
  intro a ha
  refine wp_block (Code.wp_mono ?_ (h a ha))
  rintro x a' W' ⟨E', ha', hr⟩
  cases x with
  | exit j =>
    simp only [Exit.inBlock]
    by_cases e : j = id
    · subst e
      simp only [inBlock, Nat.beq_refl] at hr
      rw [if_pos rfl]
      exact ⟨E', ha', hr⟩
    · have : Nat.beq j id = false := by
        cases hb : Nat.beq j id
        · rfl
        · exact absurd (Nat.eq_of_beq_eq_true hb) e
      simp only [inBlock, this] at hr
      rw [if_neg e]
      exact ⟨E', ha', hr⟩
  | _ => exact ⟨E', ha', hr⟩
/-- Fewer slots. -/
def Sub (E' E : Env) : Prop := ∀ p ∈ E', look E p.1 = some p.2
theorem Fits.sub (h : Fits n E a) (hs : ∀ i v, look E' i = some v → look E i = some v) : Fits n E' a := ⟨h.d, h.s, fun i v hi => h.h i v (hs i v hi)⟩
def SubL (E : Env) : Env → Prop
  | [] => True
  | (i, v) :: r => look E i = some v ∧ SubL E r
theorem SubL.sub : ∀ {E' : Env}, SubL E E' → ∀ i v, look E' i = some v → look E i = some v
  | [], _, i, v, hi => by cases hi
  | (j, u) :: r, ⟨h1, h2⟩, i, v, hi => by
    simp only [look] at hi
    cases hb : Nat.beq j i
    · rw [hb] at hi
      exact SubL.sub h2 i v hi
    · rw [hb] at hi
      obtain rfl := Nat.eq_of_beq_eq_true hb
      injection hi with hi
      subst hi
      exact h1
theorem CW.sub (hs : SubL E E') (h : CW P n c E' W R) : CW P n c E W R := fun a ha => h a (ha.sub hs.sub)
/-- A loop: an invariant with a number that falls. -/
theorem CW.loop (Inv : Nat → Env → World → Prop) (k : Nat) (E0 : Env) (h0 : Inv k E0 W) (hs : SubL E E0)
    (step : ∀ k E W, Inv k E W → CW P n c E W (fun x E' W' => match x with
      | .normal => ∃ k' E'', k' < k ∧ SubL E' E'' ∧ Inv k' E'' W'
      | x => R x E' W')) : CW P n (.loop c) E W R := by
  intro a ha
  have ha0 := ha.sub hs.sub
  clear ha hs
  refine wp_loop_ghost (fun m a w => ∃ E, Inv m E w ∧ Fits n E a) k ⟨E0, h0, ha0⟩ ?_
  rintro m a w ⟨E, hI, hf⟩
  refine Code.wp_mono ?_ (step m E w hI a hf)
  rintro x a' w' ⟨E', hf', hr⟩
  cases x with
  | normal =>
    obtain ⟨k', E'', hlt, hsub, hI'⟩ := hr
    exact ⟨k', hlt, E'', hI', hf'.sub hsub.sub⟩
  | _ => exact ⟨E', hf', hr⟩
end Go.Proofs.YtjpbdpfkhdekpaaGreatDoor.X
