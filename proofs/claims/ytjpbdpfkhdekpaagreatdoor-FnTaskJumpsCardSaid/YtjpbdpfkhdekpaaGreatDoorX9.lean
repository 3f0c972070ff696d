/- The program logic: the words that the printed proofs use. -/
import Derived.Test.YtjpbdpfkhdekpaaGreatDoorX8
import Derived.Laws.StructEq
import Derived.Below
set_option linter.unusedVariables false
set_option linter.unusedSimpArgs false
namespace Go.Proofs.YtjpbdpfkhdekpaaGreatDoor.X
variable {P : Program} {n : Nat} {ops : Array Oper} {o : Oper} {rest : List Oper} {E E' : Env} {W W' w w0 : World} {a : Act} {v u : Value} {K : Env → World → Prop} {M T S : Nat → Prop} {L L0 : List Ent} {c d : Code}
variable {R R' : Exit → Env → World → Prop} {t e : TypeId} {ag : Bool} {z : Option Value} {zv : Value} {size bytes : Nat} {A A2 : Option Addr} {m k c1 c2 : Nat} {α : Type} {enc : α → D} {l l2 r : List α} {i : Int} {x y : α}
variable {e1 e2 e3 e4 e5 e6 e7 e8 e9 e10 e11 e12 : Ent}

/-- if, in the functions' own words -/
def sel {α : Type} (b : Bool) (x y : α) : α := match b with
  | true => x
  | false => y
theorem sel_t {b : Bool} {α : Type} {x y : Option α} {r : α} (hb : b = true) (h : sel b x y = some r) : x = some r := by subst hb; exact h
theorem sel_f {b : Bool} {α : Type} {x y : Option α} {r : α} (hb : b = false) (h : sel b x y = some r) : y = some r := by subst hb; exact h
def both {α β γ : Type} (s : α ⊕ β) (f : α → γ) (g : β → γ) : γ := match s with
  | .inl x => f x
  | .inr y => g y

/-! ### Slots that are kept -/
def looks (E : Env) : Env → Option (List Value)
  | [] => some []
  | (i, _) :: r => match look E i, looks E r with
    | some v, some vs => some (v :: vs)
    | _, _ => none
def vals : Env → List Value
  | [] => []
  | (_, v) :: r => v :: vals r
theorem sb : ∀ {X : Env}, looks E X = some (vals X) → SubL E X
  | [], _ => trivial
  | (i, v) :: r, h => by
    simp only [looks, vals] at h
    cases h1 : look E i <;> simp only [h1] at h <;> try contradiction
    cases h2 : looks E r <;> simp only [h2] at h <;> try contradiction
    injection h with h
    simp only [List.cons.injEq] at h
    obtain ⟨rfl, rfl⟩ := h
    exact ⟨h1, sb h2⟩

/-! ### What is owned: one to the front -/
theorem Sep.p1 (h : Sep M w0 W (e1 :: e2 :: L)) : Sep M w0 W (e2 :: e1 :: L) := h.swap
theorem Sep.p2 (h : Sep M w0 W (e1 :: e2 :: e3 :: L)) : Sep M w0 W (e3 :: e1 :: e2 :: L) := h.pull (i := 2) rfl
theorem Sep.p3 (h : Sep M w0 W (e1 :: e2 :: e3 :: e4 :: L)) : Sep M w0 W (e4 :: e1 :: e2 :: e3 :: L) := h.pull (i := 3) rfl
theorem Sep.p4 (h : Sep M w0 W (e1 :: e2 :: e3 :: e4 :: e5 :: L)) : Sep M w0 W (e5 :: e1 :: e2 :: e3 :: e4 :: L) := h.pull (i := 4) rfl
theorem Sep.p5 (h : Sep M w0 W (e1 :: e2 :: e3 :: e4 :: e5 :: e6 :: L)) : Sep M w0 W (e6 :: e1 :: e2 :: e3 :: e4 :: e5 :: L) := h.pull (i := 5) rfl
theorem Sep.p6 (h : Sep M w0 W (e1 :: e2 :: e3 :: e4 :: e5 :: e6 :: e7 :: L)) : Sep M w0 W (e7 :: e1 :: e2 :: e3 :: e4 :: e5 :: e6 :: L) := h.pull (i := 6) rfl
theorem Sep.p7 (h : Sep M w0 W (e1 :: e2 :: e3 :: e4 :: e5 :: e6 :: e7 :: e8 :: L)) : Sep M w0 W (e8 :: e1 :: e2 :: e3 :: e4 :: e5 :: e6 :: e7 :: L) := h.pull (i := 7) rfl
theorem Sep.p8 (h : Sep M w0 W (e1 :: e2 :: e3 :: e4 :: e5 :: e6 :: e7 :: e8 :: e9 :: L)) : Sep M w0 W (e9 :: e1 :: e2 :: e3 :: e4 :: e5 :: e6 :: e7 :: e8 :: L) := h.pull (i := 8) rfl
theorem Sep.p9 (h : Sep M w0 W (e1 :: e2 :: e3 :: e4 :: e5 :: e6 :: e7 :: e8 :: e9 :: e10 :: L)) : Sep M w0 W (e10 :: e1 :: e2 :: e3 :: e4 :: e5 :: e6 :: e7 :: e8 :: e9 :: L) := h.pull (i := 9) rfl
theorem Sep.p10 (h : Sep M w0 W (e1 :: e2 :: e3 :: e4 :: e5 :: e6 :: e7 :: e8 :: e9 :: e10 :: e11 :: L)) : Sep M w0 W (e11 :: e1 :: e2 :: e3 :: e4 :: e5 :: e6 :: e7 :: e8 :: e9 :: e10 :: L) := h.pull (i := 10) rfl
theorem Sep.p11 (h : Sep M w0 W (e1 :: e2 :: e3 :: e4 :: e5 :: e6 :: e7 :: e8 :: e9 :: e10 :: e11 :: e12 :: L)) : Sep M w0 W (e12 :: e1 :: e2 :: e3 :: e4 :: e5 :: e6 :: e7 :: e8 :: e9 :: e10 :: e11 :: L) := h.pull (i := 11) rfl
theorem Sep.to {L' : List Ent} (h : Sep M w0 W L) (is : List Nat) (hL : X.pick L is = L') : Sep M w0 W L' := hL ▸ h.pick is

theorem CW.via (h : CW P n c E W R') (hr : ∀ x E' W', R' x E' W' → ∃ E'', (∀ i v, look E'' i = some v → look E' i = some v) ∧ R x E'' W') : CW P n c E W R :=
  fun a ha => Code.wp_mono (fun x a' W' ⟨E', ha', h'⟩ => let ⟨E'', h1, h2⟩ := hr _ _ _ h'; ⟨E'', ha'.sub h1, h2⟩) (h a ha)
theorem Rd.nil (W : World) (T : Nat → Prop) (e size : Nat) (enc : α → D) : Rd W T none 0 e size enc ([] : List α) := ⟨none, 0, [], rfl, Nat.le_refl _, Nat.zero_le _, by simp, fun h => absurd rfl h, rfl⟩
/-! ### Results -/
theorem rn : ResR P W E [] [] := trivial
theorem rt {d : Nat} {rs : List ResultVar} {vs : List Value} (h : look E d = some v) (r : ResR P W E rs vs) : ResR P W E (.tmp d :: rs) (v :: vs) := ⟨h, r⟩
theorem rc {d g : Nat} {te : TypeId} {cs : List Value} {rs : List ResultVar} {vs : List Value} (hS : Sep M w0 W (.box g te cs :: L)) (ht : tinfo P t = some (ag, z, size, bytes)) (h : look E d = some (.pointer (some ⟨g, 0, none⟩))) (r : ResR P W E rs vs)
    (hl : cs.length = size) (h2 : (ag || Nat.beq size 1) = true) : ResR P W E (.cell d t :: rs) (ofCells ag cs :: vs) := ⟨⟨_, h, hS.res ht hl h2⟩, r⟩

/-! ### Structs and rows out of parts -/
def bparts (places : List (Nat × Nat)) (zc : List Value) (E : Env) (ps : List (Nat × Operand)) : Option (List Value) := match zipV ps E with
  | some vs => bfill (nth? places) zc vs
  | none => none
theorem bs {parts : Array (Nat × Operand)} {places : List (Nat × Nat)} {zc cs : List Value} (h : sinfo P t = some (places, zc)) (ho : o.op = .build t parts) (hp : bparts places zc E parts.toList = some cs) : Runs P n E o W (.agg cs.toArray) W := by
  unfold bparts at hp
  split at hp
  · rename_i vs hz
    exact bd h ho hz hp
  · cases hp
def flatL (enc : α → D) : List α → Option (List (List Value))
  | [] => some []
  | x :: l => match flat (enc x), flatL enc l with
    | some c, some cs => some (c :: cs)
    | _, _ => none
def cellsL : List Value → List (List Value)
  | [] => []
  | v :: r => v.cells.toList :: cellsL r
theorem flatL_V : ∀ {l : List α} {vs : List Value}, flatL enc l = some (cellsL vs) → flatV enc l vs true
  | [], [], _ => trivial
  | [], _ :: _, h => by simp [flatL, cellsL] at h
  | x :: l, vs, h => by
    simp only [flatL] at h
    cases h1 : flat (enc x) <;> simp only [h1] at h <;> try contradiction
    cases h2 : flatL enc l <;> simp only [h2] at h <;> try contradiction
    cases vs with
    | nil => simp [cellsL] at h
    | cons v vs =>
      simp only [cellsL, Option.some.injEq, List.cons.injEq] at h
      obtain ⟨rfl, rfl⟩ := h
      exact ⟨h1, flatL_V h2⟩
theorem OpW.li {k : Nat} {parts : Array (Nat × Operand)} {vs : List Value} (l : List α) (enc : α → D) (hu : P.underlying t = some (.slice e)) (ht : tinfo P e = some (ag, some zv, size, bytes)) (hS : Sep M w0 W L) (ho : o.op = .buildSlice t k parts)
    (hp : zipRow 0 parts.toList E = some vs) (hk : vs.length = k) (hf : flatL enc l = some (cellsL vs)) 
    (h : ∀ A c W', Sep M w0 W' (rowE A c e size enc l :: L) → K (put E o.dst (.slice A l.length c)) W') (hl : k = l.length) (hsz : ∀ x : α, (enc x).sz = size) (hle : Nat.ble (k * size) 16777216 = true) (h0 : Nat.blt 0 size = true) (hg : o.guard = none) (hd : okD n o.dst = true) : OpW P n ops o E W K :=
  .lit l enc hu ht hS ho hp hk hl (flatL_V hf) (fun x _ => hsz x) h hle h0 hg hd

/-! ### Calls with no row, with one -/
theorem OpW.call0 {f : FuncId} {fn : Func} {as : Array Operand} {ts : Array TypeId} {vs : List Value} {v : Value} (hS : Sep M w0 W L) (hf : P.funcs[f]? = some fn) (hc : Calls P f vs.toArray W (Ret No W (fun _ : Unit => v) fun _ => []))
    (ho : o.op = .call { callee := .value (.func f), args := as, argTypes := ts }) (hv : evs E as.toList = some vs)
    (k : ∀ W', Sep M w0 W' L → K (put E o.dst v) W') (hb : fn.body.isSome = true) (hn : (fn.name == "runtime.NumGoroutine") = false) (hg : o.guard = none) (hd : okD n o.dst = true) : OpW P n ops o E W K :=
  .call hS hf hc ho hv (fun s W' h => k W' (by simpa using h)) hb hn hg hd
theorem OpW.call1 {f : FuncId} {fn : Func} {as : Array Operand} {ts : Array TypeId} {vs : List Value} {v : SV → Value} {x : SV → Ent} (hS : Sep M w0 W L) (hf : P.funcs[f]? = some fn) (hc : Calls P f vs.toArray W (Ret No W v fun s => [x s]))
    (ho : o.op = .call { callee := .value (.func f), args := as, argTypes := ts }) (hv : evs E as.toList = some vs)
    (k : ∀ A c W', Sep M w0 W' (x (A, c) :: L) → K (put E o.dst (v (A, c))) W') (hb : fn.body.isSome = true) (hn : (fn.name == "runtime.NumGoroutine") = false) (hg : o.guard = none) (hd : okD n o.dst = true) : OpW P n ops o E W K :=
  .call hS hf hc ho hv (fun s W' h => k s.1 s.2 W' (by simpa using h)) hb hn hg hd

/-! ### Pure operations in a drawn order; elements -/
theorem pr (hv : pv (ev E) o.op = some v) : Runs P n E o W v W := fun a ha => pv_run (ρ := ev E) ha hv
theorem Rd.flat {cs : List Value} (h : Rd W T A k e size enc l) (hx : nth l i = Option.some x) (hf : X.flat (enc x) = Option.some cs) : ∀ j u, cs[j]? = Option.some u → W.cell? (elemA A (i.toNat * size + j)) = Option.some u := by
  obtain ⟨cs', h1, h2, h3⟩ := h.elt hx
  rw [flat_rd hf h1] at h3
  exact h3
theorem CW.rs {id : Nat} (hS : Sep M w0 W L) (is : List Nat) (hm : P.follows .mixedOrders = true) (h : ∀ W, Sep M w0 W L → RD P n ops (fun W => Sep M w0 W (X.pick L is)) ops.size (Array.replicate ops.size false) E W (R .normal)) : CW P n (.region id ops true) E W R :=
  .regionD _ hm (h _ (hS.drewN _))

/-! ### Arrays as values -/
theorem part_cells {cs : List Value} {off : Nat} (ht : tinfo P e = some (ag, z, size, bytes)) (hl : (seg cs off size).length = size) (h2 : (ag || Nat.beq size 1) = true) : (part e cs.toArray off).run P W = .ok (ofCells ag (seg cs off size)) W := by
  obtain ⟨ii, d, hi, hd, f1, f2, f3, f4⟩ := tinfo_spec ht
  have hagg : (isAgg e).run P W = .ok ag W := by rw [run_isAgg hd, f1]
  unfold part
  simp only [Sem.run_bind, hagg, Result.andThen_ok]
  cases ag with
  | true =>
    simp only [if_true, Sem.run_bind, run_sizeOf ht, Result.andThen_ok, Sem.run_pure]
    simp only [ofCells, seg]
    congr 2
    apply Array.ext'
    simp [List.take_drop]
  | false =>
    have hs : size = 1 := by simpa using h2
    subst hs
    match hq : seg cs off 1, hl with
    | [y], _ =>
      have h6 : cs[off]? = some y := by
        have : (seg cs off 1)[0]? = some y := by rw [hq]; rfl
        simp only [seg, List.getElem?_take, List.getElem?_drop] at this
        simpa using this
      simp [h6, ofCells]
/-- An element, one cell long, of an array that is a value. -/
theorem iv {N : Nat} {f : α → Value} {j : IntKind} {p q : Operand} (hx : nth l i = some x) (hu : P.underlying t = some (.array N e)) (ht : tinfo P e = some (false, z, 1, bytes)) (ho : o.op = .index t p q)
    (hp : ev E p = some (.agg (l.map f).toArray)) (hq : ev E q = some (.int j i)) (hN : l.length = N) : Runs P n E o W (f x) W := by
  intro a ha
  obtain ⟨h0, h1, h2⟩ := nth_some hx
  have hlen : (seg (l.map f) (i.toNat * 1) 1) = [f x] := by
    simp only [seg, Nat.mul_one]
    rw [List.drop_eq_getElem_cons (by simpa using h1)]
    simp only [List.take_succ_cons, List.take_zero, List.getElem_map, List.cons.injEq, and_true]
    rw [List.getElem?_eq_getElem h1] at h2
    injection h2 with h2
    rw [h2]
  have hpt := part_cells (P := P) (W := W) (cs := l.map f) (off := i.toNat * 1) ht (by rw [hlen]; rfl) rfl
  rw [hlen] at hpt
  have hcond : 0 ≤ i ∧ i < (N : Int) := ⟨h0, by omega⟩
  unfold execOp
  simp only [ho, ha.ev hp, ha.ev hq, Sem.run_bind, Instr.index, asIntOf, Sem.run_pure, Result.andThen_ok, run_underlying hu]
  rw [if_pos hcond]
  simp only [Sem.run_bind, run_sizeOf ht, Result.andThen_ok, hpt]
  rfl

/-! ### Structs, Booleans are compared -/
def feq : Value → Value → Option Bool
  | .int j x, .int k y => match sameK j k with
    | true => some (x == y)
    | false => none
  | .bool x, .bool y => some (x == y)
  | .string x, .string y => some (x.toList == y.toList)
  | _, _ => none
def isFlat : TypeDesc → Value → Bool
  | .int _, .int _ _ => true
  | .bool, .bool _ => true
  | .string, .string _ => true
  | _, _ => false
/-- The offsets of a struct's fields, all of them numbers, Booleans or strings. -/
def einfo (P : Program) (t : TypeId) : Option (List (Nat × TypeDesc)) := match P.underlying t with
  | some (.struct fs) => match !P.stoodInHeld t && !P.eqGuardType P.depth t with
    | true => fs.toList.mapM fun f => match f.name == "_", tinfo P f.type, P.underlying f.type with
      | false, some (false, _, 1, _), some d => some (f.offset, d)
      | _, _, _ => none
    | false => none
  | _ => none
def eqOff (xs ys : List Value) : List (Nat × TypeDesc) → Option Bool
  | [] => some true
  | (i, d) :: r => match nth? xs i, nth? ys i with
    | some u, some v => match isFlat d u, isFlat d v, feq u v, eqOff xs ys r with
      | true, true, some b, some c => some (b && c)
      | _, _, _, _ => none
    | _, _ => none
theorem feq_run {d : Nat} {t : TypeId} {td : TypeDesc} {b : Bool} (hu : P.underlying t = some td) (h1 : isFlat td u = true) (h2 : isFlat td v = true) (h : feq u v = some b) : (Op.equalIn (d + 1) t u v).run P W = .ok b W := by
  cases td <;> cases u <;> simp only [isFlat] at h1 <;> try contradiction
  all_goals (cases v <;> simp only [isFlat] at h2 <;> try contradiction)
  · simp only [feq, Option.some.injEq] at h
    subst h
    exact run_equalIn_bool W d t _ _ hu
  · simp only [feq] at h
    split at h
    · rename_i hs
      obtain rfl := sameK_eq hs
      injection h with h
      subst h
      exact run_equalIn_int W d t _ _ _ _ hu
    · cases h
  · simp only [feq, Option.some.injEq] at h
    subst h
    exact run_equalIn_string W d t _ _ hu
theorem eqOff_run {d : Nat} {xs ys : List Value} : ∀ {fs : List Field} {offs : List (Nat × TypeDesc)} {b : Bool},
    (fs.mapM fun f => match f.name == "_", tinfo P f.type, P.underlying f.type with
      | false, some (false, _, 1, _), some d => some (f.offset, d)
      | _, _, _ => none) = some offs → eqOff xs ys offs = some b → (Op.eqFields (d + 1) xs.toArray ys.toArray fs).run P W = .ok b W
  | [], offs, b, h, hb => by
    simp only [List.mapM_nil, Option.pure_def, Option.some.injEq] at h
    subst h
    simp only [eqOff, Option.some.injEq] at hb
    subst hb
    rfl
  | f :: fs, offs, b, h, hb => by
    simp only [List.mapM_cons, Option.pure_def, Option.bind_eq_bind] at h
    obtain ⟨od, h1, h⟩ := Option.bind_eq_some_iff.1 h
    obtain ⟨r, h2, h⟩ := Option.bind_eq_some_iff.1 h
    injection h with h
    subst h
    split at h1 <;> try contradiction
    rename_i zz by' td hn ht hu
    injection h1 with h1
    subst h1
    simp only [eqOff] at hb
    cases hx : nth? xs f.offset <;> simp only [hx] at hb <;> try contradiction
    rename_i uu
    cases hy : nth? ys f.offset <;> simp only [hy] at hb <;> try contradiction
    rename_i vv
    split at hb <;> try contradiction
    rename_i b1 b2 k1 k2 k3 k4
    injection hb with hb
    subst hb
    have hs : ∀ {zs : List Value} {q : Value}, nth? zs f.offset = some q → (part f.type zs.toArray f.offset).run P W = .ok q W := fun {zs q} hq => by
      rw [nth?_eq] at hq
      have hlt : f.offset < zs.length := by
        rcases Nat.lt_or_ge f.offset zs.length with h1 | h1
        · exact h1
        · rw [List.getElem?_eq_none h1] at hq; cases hq
      have hseg : seg zs f.offset 1 = [q] := by
        simp only [seg]
        rw [List.drop_eq_getElem_cons hlt]
        rw [List.getElem?_eq_getElem hlt] at hq
        injection hq with hq
        simp [hq]
      have := part_cells (P := P) (W := W) (cs := zs) (off := f.offset) ht (by rw [hseg]; rfl) rfl
      rw [hseg] at this
      exact this
    have hn' : f.name ≠ "_" := by simpa using hn
    have he := feq_run (P := P) (W := W) (d := d) hu k1 k2 k3
    have ih := eqOff_run (d := d) h2 k4
    rw [Op.eqFields]
    simp only [if_pos hn', Sem.run_bind, hs hx, hs hy, he, Result.andThen_ok]
    cases b1
    · simp
    · simpa using ih
theorem einfo_spec {offs : List (Nat × TypeDesc)} (h : einfo P t = some offs) : ∃ fs, P.underlying t = some (.struct fs) ∧ P.stoodInHeld t = false ∧ P.eqGuardType P.depth t = false ∧ (fs.toList.mapM fun f => match f.name == "_", tinfo P f.type, P.underlying f.type with
      | false, some (false, _, 1, _), some d => some (f.offset, d)
      | _, _, _ => none) = some offs := by
  unfold einfo at h
  split at h <;> try contradiction
  rename_i fs hu
  split at h <;> try contradiction
  rename_i hc
  simp only [Bool.and_eq_true, Bool.not_eq_true'] at hc
  exact ⟨fs, hu, hc.1, hc.2, h⟩
theorem eqs_run {offs : List (Nat × TypeDesc)} {xs ys : List Value} {b : Bool} (h : einfo P t = some offs) (hv : eqOff xs ys offs = some b) : (Op.equalIn 10000 t (.agg xs.toArray) (.agg ys.toArray)).run P W = .ok b W := by
  obtain ⟨fs, h1, h2, h3, h4⟩ := einfo_spec h
  have hf : P.fieldsOf t = fs := by simp [Program.fieldsOf, h1]
  rw [run_equalIn_struct (P := P) W 9999 t _ _ (by rw [hf]; exact h1) h2, hf]
  exact eqOff_run (d := 9998) h4 hv
theorem eqGuard_agg {op : BinOp} {p q : Operand} {xs ys : Array Value} {offs : List (Nat × TypeDesc)} (h : einfo P t = some offs) : (eqGuard op t p q (.agg xs) (.agg ys)).run P W = .ok () W := by
  obtain ⟨fs, h1, h2, h3, h4⟩ := einfo_spec h
  unfold eqGuard
  cases op <;> first | rfl | simp [run_program, h3]
/-- == of structs -/
theorem eqs {p q : Operand} {t' : TypeId} {offs : List (Nat × TypeDesc)} {xs ys : List Value} {b : Bool} (h : einfo P t = some offs) (ho : o.op = .binOp .eql t p q t') (hp : ev E p = some (.agg xs.toArray)) (hq : ev E q = some (.agg ys.toArray)) (hv : eqOff xs ys offs = some b) : Runs P n E o W (.bool b) W := by
  intro a ha
  unfold execOp
  simp only [ho, ha.ev hp, ha.ev hq, Sem.run_bind, eqGuard_agg h, Result.andThen_ok, run_eql_struct, eqs_run h hv]
  rfl
theorem nes {p q : Operand} {t' : TypeId} {offs : List (Nat × TypeDesc)} {xs ys : List Value} {b : Bool} (h : einfo P t = some offs) (ho : o.op = .binOp .neq t p q t') (hp : ev E p = some (.agg xs.toArray)) (hq : ev E q = some (.agg ys.toArray)) (hv : eqOff xs ys offs = some b) : Runs P n E o W (.bool (!b)) W := by
  intro a ha
  unfold execOp
  simp only [ho, ha.ev hp, ha.ev hq, Sem.run_bind, eqGuard_agg h, Result.andThen_ok, run_neq_struct, eqs_run h hv]
  rfl
/-- == of Booleans -/
theorem eqb {p q : Operand} {t' : TypeId} {x y : Bool} (hu : P.underlying t = some .bool) (ho : o.op = .binOp .eql t p q t') (hp : ev E p = some (.bool x)) (hq : ev E q = some (.bool y)) : Runs P n E o W (.bool (x == y)) W := by
  intro a ha
  unfold execOp
  simp [ho, ha.ev hp, ha.ev hq, eqGuard, binOp, Op.equal, Op.maxDepth, run_equalIn_bool W 9999 t x y hu]
theorem neb {p q : Operand} {t' : TypeId} {x y : Bool} (hu : P.underlying t = some .bool) (ho : o.op = .binOp .neq t p q t') (hp : ev E p = some (.bool x)) (hq : ev E q = some (.bool y)) : Runs P n E o W (.bool (x != y)) W := by
  intro a ha
  unfold execOp
  simp [ho, ha.ev hp, ha.ev hq, eqGuard, binOp, Op.equal, Op.maxDepth, run_equalIn_bool W 9999 t x y hu, bne]

/-! ### Package-level variables -/
/-- The variable g holds these cells. -/
def Glob (g : Nat) (cs : List Value) (w : World) : Prop := ∀ j u, cs[j]? = some u → w.cell? ⟨g, j, none⟩ = some u
theorem Glob.at {g : Nat} {c : Value} {cs : List Value} (h : Glob g (c :: cs) w) (hS : Sep M w W L) (hM : ¬ M g) : Glob g (c :: cs) W := by
  intro j u hj
  have h0 := h 0 c rfl
  have hlt : g < w.heap.size := by
    rcases Nat.lt_or_ge g w.heap.size with h1 | h1
    · exact h1
    · simp [World.cell?, Array.getElem?_eq_none h1] at h0
  rw [World.cell?_of_block (w := w) (hS.frame.block g hlt hM)]
  exact h j u hj
/-- A package-level variable is loaded. -/
theorem lg {g : Nat} {cs : List Value} {x : Operand} (ht : tinfo P t = some (ag, z, size, bytes)) (hb : Glob g cs W) (ho : o.op = .load t x) (hx : ev E x = some (.pointer (some ⟨g, 0, none⟩)))
    (hv : ofCells ag cs = v) (hl : cs.length = size) (h2 : (ag || Nat.beq size 1) = true) : Runs P n E o W v W := by
  intro a ha
  have hr := run_loadVar (P := P) (W := W) (ad := ⟨g, 0, none⟩) (cs := cs) ht hl (fun e => by subst e; simpa using h2) (fun i u hu => by
    have hadd : (⟨g, 0, none⟩ : Addr).add i = ⟨g, i, none⟩ := by unfold Addr.add; split <;> simp_all
    rw [hadd]
    exact hb i u hu)
  unfold execOp
  simp only [ho, ha.ev hx, Instr.loadAt, Instr.sureAddr, Sem.run_bind, Sem.run_pure, Result.andThen_ok, hr, hv]
theorem Sep.below (h : Sep No w W L) : Go.RowKit.Below w.heap.size w W := ⟨h.frame.os, h.frame.tape, h.frame.output, h.frame.size, fun k hk => h.frame.block k hk id⟩
/-! Values of the repetition. -/
theorem bind_to {α β : Type} {x : Option α} {y : α} {f : α → Option β} {r : β} (h : x = some y) (k : f y = some r) : x.bind f = some r := by rw [h]; exact k
theorem iter_k {σ ρ : Type} {f : σ → Option (σ ⊕ ρ)} {s : σ} {r : ρ} (k : Nat) (h : iterN f k s = some r) : iter f s = some r := iter_some.2 ⟨k, h⟩
theorem Sep.old {g : Nat} {x : Obj} (h : Sep M w W L) (hb : w.heap[g]? = some x) (hM : ¬ M g) : W.heap[g]? = some x := by
  refine (h.frame.block g ?_ hM).trans hb
  rcases Nat.lt_or_ge g w.heap.size with h1 | h1
  · exact h1
  · rw [Array.getElem?_eq_none h1] at hb; cases hb

/-! ### What is lent: a call may change it -/
theorem Sep.startM {S : Nat → Prop} (hO : Owns w L S) (hS : ∀ b, S b → b < w.heap.size) : Sep S w w L := ⟨.refl _ _, hO.mono fun b hb => ⟨.inr hb, hS b hb⟩⟩
theorem OpW.callS {σ : Type} {f : FuncId} {fn : Func} {as : Array Operand} {ts : Array TypeId} {vs : List Value} {v : σ → Value} {L' : σ → List Ent} (hS : Sep M w0 W (L0 ++ L)) (hf : P.funcs[f]? = some fn)
    (hc : ∀ S : Nat → Prop, (∀ b, S b → OkS M w0 W b) → Owns W L0 S → Calls P f vs.toArray W (Ret S W v L'))
    (ho : o.op = .call { callee := .value (.func f), args := as, argTypes := ts }) (hv : evs E as.toList = some vs)
    (k : ∀ s W', Sep M w0 W' (L' s ++ L) → K (put E o.dst (v s)) W') (hb : fn.body.isSome = true) (hn : (fn.name == "runtime.NumGoroutine") = false) (hg : o.guard = none) (hd : okD n o.dst = true) : OpW P n ops o E W K :=
  .callM hS hf hc ho hv k hb hn hg hd

/-! ### Cuts -/
theorem cut_rd {lo hi : Int} {A' : Option Addr} {c' : Nat} (h : cut l lo hi = some r) (hr : Rd W T A c1 e size enc l) (hc' : r.length ≤ c') (hA : r ≠ [] → A' = A.map (·.add (lo.toNat * size))) : Rd W T A' c' e size enc r := by
  obtain ⟨hrr, h0, h1, h2⟩ := cut_some h
  obtain ⟨A0, cap, cs, e1, e2, e3, e4, e5, e6⟩ := hr
  simp only [List.cons.injEq, and_true, Value.slice.injEq] at e1
  obtain ⟨rfl, _, rfl⟩ := e1
  have hrl : r.length = hi.toNat - lo.toNat := by rw [hrr]; simp; omega
  have key : ∀ {xs : List D} {cs : List Value}, D.rds W xs T cs → (∀ x ∈ xs, x.sz = size) → ∀ k, D.rds W (xs.drop k) T (cs.drop (k * size)) ∧ D.rds W (xs.take k) T (cs.take (k * size)) := by
    intro xs
    induction xs with
    | nil => intro cs hcs _ k; have : cs = [] := hcs; subst this; simp [D.rds]
    | cons x xs ih =>
      intro cs hcs hs k
      obtain ⟨d1, d2, f1, f2, f3, f4⟩ := hcs
      have hx := hs x (by simp)
      cases k with
      | zero => simp only [Nat.zero_mul, List.drop_zero, List.take_zero]; exact ⟨⟨d1, d2, f1, f2, f3, f4⟩, rfl⟩
      | succ k =>
        have ih' := ih f4 (fun y hy => hs y (by simp [hy])) k
        have hd1 : d1.length = size := by omega
        have e : (k + 1) * size = d1.length + k * size := by rw [hd1, Nat.add_mul]; omega
        have g1 : List.drop (d1.length + k * size) d1 = [] := List.drop_eq_nil_of_le (by omega)
        have g2 : List.take (d1.length + k * size) d1 = d1 := List.take_of_length_le (by omega)
        have g3 : d1.length + k * size - d1.length = k * size := by omega
        rw [f1, e, List.drop_append, List.take_append, g1, g2, g3]
        exact ⟨ih'.1, d1, _, rfl, f2, f3, ih'.2⟩
  have k1 := (key e6 e4 hi.toNat).2
  have e4' : ∀ x ∈ (l.map enc).take hi.toNat, x.sz = size := fun x hx => e4 x (List.mem_of_mem_take hx)
  have k2 := (key k1 e4' lo.toNat).1
  refine ⟨A', c', (cs.take (hi.toNat * size)).drop (lo.toNat * size), by simp [List.length_map], by simpa using hc', ?_, fun x hx => ?_, fun hne => ?_, ?_⟩
  · simp only [List.length_map] at e3 ⊢; omega
  · rw [hrr, List.map_drop, List.map_take] at hx
    exact e4' x (List.mem_of_mem_drop hx)
  · have hner : r ≠ [] := fun hn => hne (by rw [hn]; rfl)
    have hne' : l.map enc ≠ [] := by
      intro hn
      rw [List.map_eq_nil_iff] at hn
      subst hn
      apply hner
      rw [hrr]
      simp
    obtain ⟨ad, rfl, f2, f3⟩ := e5 hne'
    refine ⟨ad.add (lo.toNat * size), hA hner, ?_, fun j u hj => ?_⟩
    · have : (ad.add (lo.toNat * size)).block = ad.block := by unfold Addr.add; split <;> rfl
      rw [this]; exact f2
    · have hj' : cs[lo.toNat * size + j]? = some u := by
        rw [List.getElem?_drop, List.getElem?_take] at hj
        split at hj
        · exact hj
        · cases hj
      rw [Addr.add_add]; exact f3 _ _ hj'
  · rw [hrr, List.map_drop, List.map_take]; exact k2
/-- A bound of a cut: a number, or what stands for it where there is none. -/
def evI (E : Env) (d : Int) : Option Operand → Option Int
  | none => some d
  | some x => match ev E x with
    | some (.int _ i) => some i
    | _ => none
def cutA (A : Option Addr) (c1 lo size : Nat) : Option Addr := if c1 = lo then A else A.map (·.add (lo * size))
theorem sliceBound_run {k : IntKind} {i : Int} {y : Nat} {code : BoundsCode} (h0 : 0 ≤ i) (h1 : i ≤ y) : (Instr.sliceBound (.int k i) y code).run P W = .ok i.toNat W := by
  simp [Instr.sliceBound, asIntOf, h0, h1]
/-- l[lo:hi] -/
theorem sl {lo hi : Int} {p : Operand} {x y : Option Operand} (h : cut l lo hi = some r) (hcap : l.length ≤ c1) (hu : P.underlying t = some (.slice e)) (ht : tinfo P e = some (ag, z, size, bytes)) (ho : o.op = .slice t p x y none)
    (hp : ev E p = some (.slice A l.length c1)) (hx : evI E 0 x = some lo) (hy : evI E l.length y = some hi) : Runs P n E o W (.slice (cutA A c1 lo.toNat size) r.length (c1 - lo.toNat)) W := by
  intro a ha
  obtain ⟨hrr, h0, h1, h2⟩ := cut_some h
  have hrl : r.length = hi.toNat - lo.toNat := by rw [hrr]; simp; omega
  have hlo : ∀ (hn : Nat), hi.toNat = hn → (match x.map a.eval with
    | some v => Instr.sliceBound v hn (if (none : Option Value).isSome = true then BoundsCode.slice3C else BoundsCode.sliceB)
    | none => pure 0 : Sem Nat).run P W = .ok lo.toNat W := by
    intro hn hhn
    cases x with
    | none => simp only [evI, Option.some.injEq] at hx; subst hx; rfl
    | some q =>
      simp only [evI] at hx
      split at hx
      · rename_i k i hq
        injection hx with hx
        subst hx
        simp only [Option.map_some, ha.ev hq]
        exact sliceBound_run h0 (by omega)
      · cases hx
  have hhi : (match y.map a.eval with
    | some v => Instr.sliceBound v c1 BoundsCode.sliceAcap
    | none => pure l.length : Sem Nat).run P W = .ok hi.toNat W := by
    cases y with
    | none => simp only [evI, Option.some.injEq] at hy; subst hy; simp
    | some q =>
      simp only [evI] at hy
      split at hy
      · rename_i k i hq
        injection hy with hy
        subst hy
        simp only [Option.map_some, ha.ev hq]
        exact sliceBound_run (by omega) (by omega)
      · cases hy
  unfold execOp
  have hb : (Instr.sliceBounds true l.length c1 (x.map a.eval) (y.map a.eval) none).run P W = .ok (lo.toNat, hi.toNat, c1) W := by
    unfold Instr.sliceBounds
    simp only [Sem.run_bind, Sem.run_pure, Result.andThen_ok]
    cases hyy : y.map a.eval with
    | none =>
      rw [hyy] at hhi
      simp only [Sem.run_pure, Result.ok.injEq, and_true] at hhi
      cases hxx : x.map a.eval with
      | none => rw [hxx] at hlo; have := hlo _ rfl; simp only [Sem.run_pure, Result.ok.injEq, and_true] at this; simp [hhi, this]
      | some v => rw [hxx] at hlo; have := hlo _ rfl; simp [hhi]; simp at this; simp [this]
    | some u =>
      rw [hyy] at hhi
      simp only at hhi
      cases hxx : x.map a.eval with
      | none => rw [hxx] at hlo; have := hlo _ rfl; simp only [Sem.run_pure, Result.ok.injEq, and_true] at this; simp [hhi, this]
      | some v => rw [hxx] at hlo; have := hlo _ rfl; simp [hhi]; simp at this; simp [this]
  have hs : (Instr.slice t (.slice A l.length c1) (x.map a.eval) (y.map a.eval) none).run P W = .ok (.slice (cutA A c1 lo.toNat size) r.length (c1 - lo.toNat)) W := by
    unfold Instr.slice
    simp only [Sem.run_bind, run_underlying hu, Result.andThen_ok, hb, run_sizeOf ht, Sem.run_pure, hrl, cutA]
  have hsa : (Instr.sliceAt t (.slice A l.length c1) (x.map a.eval) (y.map a.eval) none).run P W = .ok (.slice (cutA A c1 lo.toNat size) r.length (c1 - lo.toNat)) W := by
    unfold Instr.sliceAt
    simp only [Sem.run_bind, run_underlying hu, Result.andThen_ok]
    exact hs
  simp only [ho, ha.ev hp, Sem.run_bind, Option.map_none, hsa, Result.andThen_ok]
  rfl
theorem sl_rd {lo hi : Int} (h : cut l lo hi = some r) (hr : Rd W T A c1 e size enc l) : Rd W T (cutA A c1 lo.toNat size) (c1 - lo.toNat) e size enc r := by
  obtain ⟨hrr, h0, h1, h2⟩ := cut_some h
  have hrl : r.length = hi.toNat - lo.toNat := by rw [hrr]; simp; omega
  have hcap : l.length ≤ c1 := by
    obtain ⟨A0, cap, cs, e1, e2, _⟩ := hr
    simp only [List.cons.injEq, and_true, Value.slice.injEq] at e1
    obtain ⟨_, _, rfl⟩ := e1
    simpa using e2
  refine cut_rd h hr (by omega) fun hne => ?_
  unfold cutA
  rw [if_neg]
  intro he
  apply hne
  apply List.eq_nil_of_length_eq_zero
  omega
theorem Rd.cap (hr : Rd W T A c1 e size enc l) : l.length ≤ c1 := by
  obtain ⟨A0, cap, cs, e1, e2, _⟩ := hr
  simp only [List.cons.injEq, and_true, Value.slice.injEq] at e1
  obtain ⟨_, _, rfl⟩ := e1
  simpa using e2

/-! ### Division by what is no literal -/
def quoO (k : IntKind) (x y : Int) : Option Int := if y = 0 then none else some (kwrap k (x.tdiv y))
def remO (x y : Int) : Option Int := if y = 0 then none else some (x.tmod y)
theorem dq {k : IntKind} {x y r : Int} {p q : Operand} {t' : TypeId} (h : quoO k x y = some r) (ho : o.op = .binOp .quo t p q t') (hp : ev E p = some (.int k x)) (hq : ev E q = some (.int k y)) : Runs P n E o W (.int k r) W := by
  unfold quoO at h
  split at h
  · cases h
  · rename_i hne
    injection h with h
    subst h
    intro a ha
    unfold execOp
    simp [ho, ha.ev hp, ha.ev hq, eqGuard, binOp, Op.intDiv, hne, kwrap_eq]
theorem dr {k : IntKind} {x y r : Int} {p q : Operand} {t' : TypeId} (h : remO x y = some r) (ho : o.op = .binOp .rem t p q t') (hp : ev E p = some (.int k x)) (hq : ev E q = some (.int k y)) : Runs P n E o W (.int k r) W := by
  unfold remO at h
  split at h
  · cases h
  · rename_i hne
    injection h with h
    subst h
    intro a ha
    unfold execOp
    simp [ho, ha.ev hp, ha.ev hq, eqGuard, binOp, Op.intDiv, hne]
end Go.Proofs.YtjpbdpfkhdekpaaGreatDoor.X
