/- The program logic: a function's begin and end, calls and their contracts, lengths, numbers, strings. -/
import Derived.Test.YtjpbdpfkhdekpaaGreatDoorX6
set_option linter.unusedVariables false
set_option linter.unusedSimpArgs false
namespace Go.Proofs.YtjpbdpfkhdekpaaGreatDoor.X
variable {P : Program} {n : Nat} {ops : Array Oper} {o : Oper} {rest : List Oper} {E E' : Env} {W W' w0 : World} {a : Act} {v u : Value} {K : Env → World → Prop} {M T S : Nat → Prop} {L L0 : List Ent}
variable {t e : TypeId} {ag : Bool} {z : Option Value} {zv : Value} {size bytes : Nat} {A A2 : Option Addr} {m c c2 : Nat} {α : Type} {enc : α → D} {l l2 r : List α} {i : Int} {x y : α}

/-! ### What may be read -/
def Old (M : Nat → Prop) (W : World) (b : Nat) : Prop := b < W.heap.size ∧ ¬ M b
abbrev No : Nat → Prop := fun _ => False
theorem Sep.keep {d : D} {cs : List Value} (h : Sep M w0 W L) (hr : D.rd w0 d (Old M w0) cs) : D.rd W d (Old No W) cs :=
  D.rd_mono (D.rd_agree hr h.agree) fun b hb => ⟨Nat.lt_of_lt_of_le hb.1 h.frame.size, id⟩
theorem Sep.lend (h : Sep M w0 W (rowE A c e size enc l :: L)) : Rd W (Old No W) A c e size enc l := by
  obtain ⟨S, h1, h2⟩ := h.own_rd
  have := D.rd_mono h2 (T' := Old No W) fun b hb => ⟨(h1 b hb).2, id⟩
  exact this
theorem Sep.keepS {d : D} {cs : List Value} (h : Sep M w0 W L) (hr : D.rd w0 d (Old M w0) cs) (hS : ∀ b, S b → OkS M w0 W b) : D.rd W d (Old S W) cs :=
  D.rd_mono (D.rd_agree hr h.agree) fun b hb => ⟨Nat.lt_of_lt_of_le hb.1 h.frame.size, fun hs => (hS b hs).1.elim (fun h1 => by have := hb.1; omega) hb.2⟩

/-! ### A function's begin and end -/
/-- What a call leaves: the value, and what it hands over; else only blocks of M have turned. -/
def Ret {σ : Type} (M : Nat → Prop) (W : World) (v : σ → Value) (L : σ → List Ent) : Ending → World → Prop := fun x W' => ∃ s, x = .returned (v s) ∧ Sep M W W' (L s)
abbrev SV := Option Addr × Nat
/-- The results' values. -/
def ResR (P : Program) (W : World) (E : Env) : List ResultVar → List Value → Prop
  | [], [] => True
  | .tmp d :: r, v :: vs => look E d = some v ∧ ResR P W E r vs
  | .cell d t :: r, v :: vs => (∃ ad, look E d = some (.pointer (some ad)) ∧ (loadVar t ad).run P W = .ok v W) ∧ ResR P W E r vs
  | _, _ => False
def one : List Value → Value
  | [v] => v
  | vs => .tuple vs.toArray
theorem run_results {fn : Func} (ha : Fits n E a) {vs : List Value} (h : ResR P W E fn.results.toList vs) : (results fn a.tmps).run P W = .ok (one vs) W := by
  have key : ∀ (l : List ResultVar) (vs : List Value), ResR P W E l vs → (l.mapM fun (x : ResultVar) => match x with
      | .tmp t => (pure (a.tmps.getD t undef) : Sem Value)
      | .cell p t => do loadVar t (← asAddr (a.tmps.getD p undef))).run P W = .ok vs W := by
    intro l
    induction l with
    | nil => intro vs h; cases vs <;> simp [ResR] at h ⊢
    | cons x l ih =>
      intro vs h
      cases vs with
      | nil => cases x <;> simp [ResR] at h
      | cons v vs =>
        cases x with
        | cell p t =>
          obtain ⟨⟨ad, h1, h2⟩, h3⟩ := h
          have := ih _ h3
          have hp : a.tmps.getD p undef = .pointer (some ad) := by simp [ha.h p _ h1]
          have hq : (asAddr (.pointer (some ad))).run P W = .ok ad W := rfl
          simp only [List.mapM_cons, Sem.run_bind, hp, hq, Sem.run_pure, Result.andThen_ok, h2]
          rw [this]
          rfl
        | tmp d =>
          obtain ⟨h1, h2⟩ := h
          have := ih _ h2
          simp only [List.mapM_cons, Sem.run_bind, Sem.run_pure, Result.andThen_ok, this]
          simp [ha.h d _ h1]
  have h1 := key _ _ h
  unfold results
  rw [Sem.run_bind, Array.mapM_eq_mapM_toList]
  simp only [Sem.run_map]
  erw [h1]
  match vs with
  | [] => simp [one]
  | [v] => simp [one]
  | v :: w :: r => simp [one]
/-- A result that lies in a variable. -/
theorem Sep.res {g : Nat} {te : TypeId} {cs : List Value} (hS : Sep M w0 W (.box g te cs :: L)) (ht : tinfo P t = some (ag, z, size, bytes)) (hl : cs.length = size) (h2 : (ag || Nat.beq size 1) = true) : (loadVar t ⟨g, 0, none⟩).run P W = .ok (ofCells ag cs) W := by
  refine run_loadVar ht hl (fun e => by subst e; simpa using h2) fun j u hj => ?_
  have hadd : (⟨g, 0, none⟩ : Addr).add j = ⟨g, j, none⟩ := by unfold Addr.add; split <;> simp_all
  rw [hadd, cell_of_row W g j _ te (0, 0) hS.box_cells]
  simpa using hj
def initE : Nat → List Value → Env
  | _, [] => []
  | k, v :: vs => (k, v) :: initE (k + 1) vs
theorem look_initE : ∀ {vs : List Value} {k i : Nat} {v : Value}, look (initE k vs) i = some v → k ≤ i ∧ vs[i - k]? = some v
  | [], _, _, _, h => by simp [initE, look] at h
  | u :: vs, k, i, v, h => by
    simp only [initE, look] at h
    cases hb : Nat.beq k i
    · rw [hb] at h
      have hne : k ≠ i := fun e => by subst e; simp at hb
      obtain ⟨h1, h2⟩ := look_initE h
      refine ⟨by omega, ?_⟩
      rw [show i - k = (i - (k + 1)) + 1 by omega]
      simpa using h2
    · rw [hb] at h
      obtain rfl := Nat.eq_of_beq_eq_true hb
      injection h with h
      subst h
      simp
/-- How a function's body ends. -/
def Fin {σ : Type} (P : Program) (fn : Func) (M : Nat → Prop) (w : World) (v : σ → Value) (L : σ → List Ent) : Exit → Env → World → Prop
  | .normal, E, W | .ret, E, W => ∃ s vs, ResR P W E fn.results.toList vs ∧ one vs = v s ∧ Sep M w W (L s)
  | _, _, _ => False
theorem enter {σ : Type} {f : FuncId} {fn : Func} {c : Code} {args : Array Value} {w : World} {v : σ → Value} {L : σ → List Ent} (hf : P.funcs[f]? = some fn) (hb : fn.body = some c) (hn : Nat.ble args.size fn.ntmps = true)
    (h : CW P fn.ntmps c (initE 0 args.toList) w (Fin P fn M w v L)) : Calls P f args w (Ret M w v L) := by
  refine calls_of_wp hf hb (Code.wp_mono ?_ (h _ ⟨rfl, ?_, fun i v hi => ?_⟩))
  · rintro x a' W' ⟨E', ha', hr⟩
    cases x with
    | normal =>
      obtain ⟨s, vs, h1, h2, h3⟩ := hr
      exact ⟨ha'.d, _, run_results ha' h1, s, by rw [h2], h3⟩
    | ret =>
      obtain ⟨s, vs, h1, h2, h3⟩ := hr
      exact ⟨ha'.d, _, run_results ha' h1, s, by rw [h2], h3⟩
    | _ => exact hr.elim
  · have := Nat.le_of_ble_eq_true hn
    simp
    omega
  · obtain ⟨_, h2⟩ := look_initE hi
    simp only [Nat.sub_zero] at h2
    have hlt : i < args.toList.length := by
      rcases Nat.lt_or_ge i args.toList.length with h3 | h3
      · exact h3
      · rw [List.getElem?_eq_none h3] at h2; cases h2
    rw [Array.getElem?_append_left (by simpa using hlt)]
    simpa using h2
/-- The end. -/
theorem fin_ret {σ : Type} {fn : Func} {w : World} {v : σ → Value} {L : σ → List Ent} {vs : List Value} (s : σ) (h1 : ResR P W E fn.results.toList vs) (h2 : one vs = v s) (h3 : Sep M w W (L s)) : Fin P fn M w v L .ret E W := ⟨s, vs, h1, h2, h3⟩
theorem fin_end {σ : Type} {fn : Func} {w : World} {v : σ → Value} {L : σ → List Ent} {vs : List Value} (s : σ) (h1 : ResR P W E fn.results.toList vs) (h2 : one vs = v s) (h3 : Sep M w W (L s)) : Fin P fn M w v L .normal E W := ⟨s, vs, h1, h2, h3⟩

/-! ### Calls -/
theorem run_call {f : FuncId} {fn : Func} {as : Array Operand} {ts : Array TypeId} {vs : List Value} (hf : P.funcs[f]? = some fn) (hb : fn.body.isSome = true) (hn : (fn.name == "runtime.NumGoroutine") = false)
    (ho : o.op = .call { callee := .value (.func f), args := as, argTypes := ts }) (hv : evs E as.toList = some vs) : ∀ a, Fits n E a → (execOp a.eval o).run P W = .ok (.enter f vs.toArray) W := by
  intro a ha
  have h1 := ha.evs hv
  have h2 : as.map a.eval = vs.toArray := by rw [← h1]; apply Array.ext'; simp
  have h3 : fn.name ≠ "runtime.NumGoroutine" := by simpa using hn
  obtain ⟨cb, hcb⟩ := Option.isSome_iff_exists.1 hb
  unfold execOp
  simp [ho, resolve, Deferred.ofValue, invoke, Act.eval, h2, callFunc, hf, h3, hcb]
/-- A call of a function that only makes. -/
theorem OpW.call {σ : Type} {f : FuncId} {fn : Func} {as : Array Operand} {ts : Array TypeId} {vs : List Value} {v : σ → Value} {L' : σ → List Ent} (hS : Sep M w0 W L) (hf : P.funcs[f]? = some fn) (hc : Calls P f vs.toArray W (Ret No W v L'))
    (ho : o.op = .call { callee := .value (.func f), args := as, argTypes := ts }) (hv : evs E as.toList = some vs)
    (k : ∀ s W', Sep M w0 W' (L' s ++ L) → K (put E o.dst (v s)) W') (hb : fn.body.isSome = true) (hn : (fn.name == "runtime.NumGoroutine") = false) (hg : o.guard = none) (hd : okD n o.dst = true) : OpW P n ops o E W K := by
  refine .enter hg hd (run_call hf hb hn ho hv) (hc.mono ?_)
  rintro x W' ⟨s, rfl, hs⟩
  refine ⟨_, rfl, k s W' (hS.new hs.frame (hs.own.mono fun b hb => ⟨?_, hb.2⟩))⟩
  exact hb.1.elim id False.elim
/-- A call of a function that is lent what it may change. -/
theorem OpW.callM {σ : Type} {f : FuncId} {fn : Func} {as : Array Operand} {ts : Array TypeId} {vs : List Value} {v : σ → Value} {L' : σ → List Ent} (hS : Sep M w0 W (L0 ++ L)) (hf : P.funcs[f]? = some fn)
    (hc : ∀ S : Nat → Prop, (∀ b, S b → OkS M w0 W b) → Owns W L0 S → Calls P f vs.toArray W (Ret S W v L'))
    (ho : o.op = .call { callee := .value (.func f), args := as, argTypes := ts }) (hv : evs E as.toList = some vs)
    (k : ∀ s W', Sep M w0 W' (L' s ++ L) → K (put E o.dst (v s)) W') (hb : fn.body.isSome = true) (hn : (fn.name == "runtime.NumGoroutine") = false) (hg : o.guard = none) (hd : okD n o.dst = true) : OpW P n ops o E W K := by
  obtain ⟨S, h1, h2, h3⟩ := hS.own.split
  refine .enter hg hd (run_call hf hb hn ho hv) ((hc S h1 h2).mono ?_)
  rintro x W' ⟨s, rfl, hs⟩
  refine ⟨_, rfl, k s W' (Sep.of_parts hS.frame h1 h3 hs.frame (hs.own.mono fun b hb => ?_))⟩
  exact hb.1.elim (fun h => .inr ⟨h, hb.2⟩) .inl

/-! ### Binds and tests in the functions' own words -/
theorem bnd {α β : Type} {x : Option α} {f : α → Option β} {r : β} (h : x.bind f = some r) : ∃ t, x = some t ∧ f t = some r := Option.bind_eq_some_iff.1 h
theorem ite_t {α : Type} {b : Bool} {x y : Option α} {r : α} (hb : b = true) (h : (match b with | true => x | false => y) = some r) : x = some r := by subst hb; exact h
theorem ite_f {α : Type} {b : Bool} {x y : Option α} {r : α} (hb : b = false) (h : (match b with | true => x | false => y) = some r) : y = some r := by subst hb; exact h

/-! ### Lengths, numbers, strings -/
theorem len {p : Operand} (hu : P.underlying t = some (.slice e)) (ho : o.op = .call { callee := .builtin .len, args := #[p], argTypes := #[t] }) (hp : ev E p = some (.slice A m c)) : Runs P n E o W (.int .i64 m) W := by
  intro a ha
  unfold execOp
  simp only [ho, resolve, Deferred.ofValue, invoke, builtin, Sem.run_bind, Sem.run_pure, Result.andThen_ok]
  simp [ha.ev hp, Builtin.len_, run_underlying hu, goInt]
theorem lens {p : Operand} {s : ByteArray} (hu : P.underlying t = some .string) (ho : o.op = .call { callee := .builtin .len, args := #[p], argTypes := #[t] }) (hp : ev E p = some (.string s)) : Runs P n E o W (.int .i64 s.size) W := by
  intro a ha
  unfold execOp
  simp only [ho, resolve, Deferred.ofValue, invoke, builtin, Sem.run_bind, Sem.run_pure, Result.andThen_ok]
  simp [ha.ev hp, Builtin.len_, run_underlying hu, goInt]
theorem cv {p : Operand} {k j : IntKind} {q : Int} {s : TypeId} {d : TypeDesc} (hs : P.underlying s = some d) (hu : P.underlying t = some (.int k)) (ho : o.op = .convert s t p) (hp : ev E p = some (.int j q)) : Runs P n E o W (.int k (kwrap k q)) W := by
  intro a ha
  unfold execOp
  cases d <;> simp [ho, ha.ev hp, convert, run_underlying hs, run_underlying hu, Conv.intToInt, kwrap_eq]
end Go.Proofs.YtjpbdpfkhdekpaaGreatDoor.X
