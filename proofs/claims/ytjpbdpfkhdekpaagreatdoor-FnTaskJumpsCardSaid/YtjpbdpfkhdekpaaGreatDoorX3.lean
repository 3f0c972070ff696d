/- The program logic's rules for memory: variables, rows, what is read and written. -/
import Derived.Test.YtjpbdpfkhdekpaaGreatDoorX2
import Derived.Laws.CopyOwn
import Derived.Laws.Rows
import Derived.KernelRfl
set_option linter.unusedVariables false
set_option linter.unusedSimpArgs false
namespace Go.Proofs.YtjpbdpfkhdekpaaGreatDoor.X
variable {P : Program} {n : Nat} {ops : Array Oper} {o : Oper} {rest : List Oper} {E E' : Env} {W W' w0 : World} {a : Act} {v u : Value} {K : Env → World → Prop} {M : Nat → Prop} {L : List Ent}

/-- Operation o, executed by whatever state fits E, yields v. -/
def Runs (P : Program) (n : Nat) (E : Env) (o : Oper) (W : World) (v : Value) (W' : World) : Prop := ∀ a, Fits n E a → (execOp a.eval o).run P W = .ok (.value v) W'
theorem OpW.runs (h : Runs P n E o W v W') (hg : o.guard = none) (hd : okD n o.dst = true) (k : K (put E o.dst v) W') : OpW P n ops o E W K := .val hg hd h k
/-- An operation that yields a value and leaves the world alone. -/
theorem RG.r (h : Runs P n E o W v W) (k : RG P n ops rest (put E o.dst v) W K) (hg : o.guard = none) (hd : okD n o.dst = true) : RG P n ops (o :: rest) E W K := .c (.val hg hd h k)

/-! ### Guards -/
def nth? {α : Type} : List α → Nat → Option α
  | [], _ => none
  | x :: _, 0 => some x
  | _ :: r, i + 1 => nth? r i
theorem nth?_eq {α : Type} : ∀ (l : List α) (i : Nat), nth? l i = l[i]?
  | [], _ => by simp [nth?]
  | x :: r, 0 => by simp [nth?]
  | x :: r, i + 1 => by simp [nth?, nth?_eq r i]
def sameB : Bool → Bool → Bool
  | true, b => b
  | false, true => false
  | false, false => true
/-- Is an operation carried out? -/
def gd (l : List Oper) (E : Env) : Option (Nat × Bool) → Option Bool
  | none => some true
  | some (j, b) => match nth? l j with
    | some o => match o.dst with
      | some d => match look E d with
        | some (.bool c) => some (sameB c b)
        | _ => none
      | none => none
    | none => none
theorem gd_none {l : List Oper} {g : Option (Nat × Bool)} (hl : l = ops.toList) (h : gd l E g = some true) : g = none ∨ ∃ j b d, g = some (j, b) ∧ (ops[j]?).bind (·.dst) = some d ∧ look E d = some (.bool b) := by
  cases g with
  | none => exact .inl rfl
  | some p =>
    obtain ⟨j, b⟩ := p
    subst hl
    simp only [gd] at h
    cases h1 : nth? ops.toList j <;> simp only [h1] at h <;> try contradiction
    rename_i o
    cases h2 : o.dst <;> simp only [h2] at h <;> try contradiction
    rename_i d
    cases h3 : look E d <;> simp only [h3] at h <;> try contradiction
    rename_i z
    cases z <;> (try simp only at h) <;> try contradiction
    rename_i c
    rw [nth?_eq] at h1
    refine .inr ⟨j, b, d, rfl, ?_, ?_⟩
    · rw [show ops[j]? = some o by simpa using h1]; simpa using h2
    · have : c = b := by cases c <;> cases b <;> first | rfl | (simp [sameB] at h)
      subst this; exact h3
theorem RG.on (hg : gd ops.toList E o.guard = some true) (h : RG P n ops ({ o with guard := none } :: rest) E W K) : RG P n ops (o :: rest) E W K := by
  rcases gd_none rfl hg with h0 | ⟨j, b, d, h1, h2, h3⟩
  · obtain ⟨_, _, _, _, _, _⟩ := o
    simp only at h0
    subst h0
    exact h
  · intro a Q ha hk
    have hw : Region.wanted o (yielded ops a.tmps) = true := by simp [Region.wanted, h1, yielded_of ha h2 h3]
    have := h a Q ha hk
    unfold wpList at this ⊢
    rw [if_pos (by simp [Region.wanted])] at this
    rw [if_pos hw]
    exact this
theorem RG.off (hg : gd ops.toList E o.guard = some false) (hd : okD n o.dst = true) (h : RG P n ops rest (put E o.dst undef) W K) : RG P n ops (o :: rest) E W K := by
  intro a Q ha hk
  have hw : Region.wanted o (yielded ops a.tmps) = false := by
    cases hq : o.guard with
    | none => rw [hq] at hg; simp [gd] at hg
    | some p =>
      obtain ⟨j, b⟩ := p
      rw [hq] at hg
      simp only [gd] at hg
      cases h1 : nth? ops.toList j <;> simp only [h1] at hg <;> try contradiction
      rename_i o'
      cases h2 : o'.dst <;> simp only [h2] at hg <;> try contradiction
      rename_i d
      cases h3 : look E d <;> simp only [h3] at hg <;> try contradiction
      rename_i z
      cases z <;> (try simp only at hg) <;> try contradiction
      rename_i c
      rw [nth?_eq] at h1
      have hj : (ops[j]?).bind (·.dst) = some d := by rw [show ops[j]? = some o' by simpa using h1]; simpa using h2
      simp only [Region.wanted, hq, yielded_of ha hj h3]
      cases c <;> cases b <;> first | rfl | (simp [sameB] at hg)
  unfold wpList
  rw [if_neg (by simp [hw])]
  exact h _ Q (ha.put hd _) hk
/-- A test is decided: both ways. -/
theorem Fits.bool {d : Nat} {b c : Bool} (h : Fits n E a) (hv : look E d = some (.bool b)) (e : b = c) : Fits n ((d, .bool c) :: E) a := by
  subst e
  refine ⟨h.d, h.s, fun i u hi => ?_⟩
  simp only [look] at hi
  by_cases e : d = i
  · subst e
    rw [Nat.beq_refl] at hi
    injection hi with hi
    subst hi
    exact h.h d _ hv
  · have : Nat.beq d i = false := by
      cases hb : Nat.beq d i
      · rfl
      · exact absurd (Nat.eq_of_beq_eq_true hb) e
    rw [this] at hi
    exact h.h i u hi
theorem RG.split {d : Nat} {b : Bool} {todo : List Oper} (hv : look E d = some (.bool b)) (ht : b = true → RG P n ops todo ((d, .bool true) :: E) W K) (hf : b = false → RG P n ops todo ((d, .bool false) :: E) W K) : RG P n ops todo E W K := by
  intro a Q ha hk
  cases hb : b
  · exact hf hb a Q (ha.bool hv hb) hk
  · exact ht hb a Q (ha.bool hv hb) hk

/-! ### Types -/
def isAggD : TypeDesc → Bool
  | .struct _ | .array _ _ => true
  | _ => false
def tinfo (P : Program) (t : TypeId) : Option (Bool × Option Value × Nat × Nat) :=
  match P.info? t, P.underlying t with
  | some i, some d => some (isAggD d, i.zero, i.size, i.bytes)
  | _, _ => none
theorem tinfo_spec {t : TypeId} {ag : Bool} {z : Option Value} {size bytes : Nat} (h : tinfo P t = some (ag, z, size, bytes)) :
    ∃ i d, P.info? t = some i ∧ P.underlying t = some d ∧ isAggD d = ag ∧ i.zero = z ∧ i.size = size ∧ i.bytes = bytes := by
  unfold tinfo at h
  split at h
  · rename_i i d hi hd
    injection h with h
    simp only [Prod.mk.injEq] at h
    exact ⟨i, d, hi, hd, h.1, h.2.1, h.2.2.1, h.2.2.2⟩
  · cases h
theorem run_isAgg {t : TypeId} {d : TypeDesc} (h : P.underlying t = some d) : (isAgg t).run P W = .ok (isAggD d) W := by
  unfold isAgg
  rw [Sem.run_bind, run_underlying h W]
  cases d <;> simp [isAggD]
variable {t e : TypeId} {ag : Bool} {z : Option Value} {size bytes : Nat}
theorem run_sizeOf (h : tinfo P t = some (ag, z, size, bytes)) : (sizeOf t).run P W = .ok size W := by
  obtain ⟨i, d, h1, h2, h3, h4, h5, h6⟩ := tinfo_spec h
  simp [sizeOf, typeInfo, h1, h5]
theorem run_zeroValue {zv : Value} (h : tinfo P t = some (ag, some zv, size, bytes)) : (zeroValue t).run P W = .ok zv W := by
  obtain ⟨i, d, h1, h2, h3, h4, h5, h6⟩ := tinfo_spec h
  simp [zeroValue, typeInfo, h1, h4]
/-- What a load of these cells yields. -/
def ofCells (ag : Bool) (cs : List Value) : Value := match ag, cs with
  | false, [v] => v
  | _, cs => .agg cs.toArray
theorem run_loadVar {ad : Addr} {cs : List Value} (h : tinfo P t = some (ag, z, size, bytes)) (hl : cs.length = size) (h1 : ag = false → size = 1)
    (hc : ∀ j u, cs[j]? = some u → W.cell? (ad.add j) = some u) : (loadVar t ad).run P W = .ok (ofCells ag cs) W := by
  obtain ⟨i, d, hi, hd, e1, e2, e3, e4⟩ := tinfo_spec h
  cases ag with
  | true =>
    have := run_loadCells_list (P := P) W ad cs hc
    rw [hl] at this
    have hagg : (isAgg t).run P W = .ok true W := by rw [run_isAgg hd, e1]
    simp only [loadVar, Sem.run_bind, hagg, run_sizeOf h, Result.andThen_ok, if_true, this]
    rfl
  | false =>
    have hs := h1 rfl
    subst hs
    match cs, hl with
    | [x], _ =>
      have hagg : (isAgg t).run P W = .ok false W := by rw [run_isAgg hd, e1]
      have h0 := hc 0 x rfl
      simp only [Addr.add, if_true] at h0
      simp only [loadVar, Sem.run_bind, hagg, Result.andThen_ok, Bool.false_eq_true, if_false, run_load, h0]
      rfl
theorem run_storeVar {g j : Nat} {cur : Array Value} {te : TypeId} (h : tinfo P t = some (ag, z, size, bytes)) (hg : W.heap[g]? = some (.cells cur te (0, 0))) (hl : v.cells.size = size)
    (h1 : v.cells.toList.all (·.oneCell') = true) (hf : j + size ≤ cur.size) : (storeVar t ⟨g, j, none⟩ v).run P W = .ok () (W.setRow g (splice cur.toList j v.cells.toList).toArray) := by
  have hst := run_storeCells_at (P := P) g j te v.cells.toList 0 cur W hg (by simp; omega) (fun x hx => List.all_eq_true.1 h1 x hx)
  simp only [Nat.add_zero] at hst
  simp only [storeVar, Sem.run_bind, run_sizeOf h, Result.andThen_ok, hl, ne_eq, not_true, if_false, hst, splice, List.append_assoc]
theorem frame_setRow {g : Nat} {cs : Array Value} : Frame (fun b => b = g) W (W.setRow g cs) := by
  refine ⟨rfl, rfl, rfl, by simp [World.setRow], fun b hb hn => ?_⟩
  simp only [World.setRow, Array.getElem?_modify]
  rw [if_neg (fun e => hn e.symm)]

/-! ### Variables in memory -/
theorem frame_alloc {x : Obj} : Frame (fun _ => False) W (W.alloc x) := ⟨rfl, rfl, rfl, by simp, fun b hb _ => heap_alloc_old W x b hb⟩
theorem Sep.box (h : Sep M w0 W L) (t : TypeId) (cs : List Value) : Sep M w0 (W.alloc (.cells cs.toArray t)) (.box W.heap.size t cs :: L) :=
  h.new (L' := [.box W.heap.size t cs]) frame_alloc ⟨fun b => b = W.heap.size, fun b hb => by subst hb; simp, ⟨rfl, heap_alloc_new W _⟩, trivial⟩
theorem OpW.alloc {zv : Value} (ht : tinfo P t = some (ag, some zv, size, bytes)) (hS : Sep M w0 W L)
    (k : ∀ g W', Sep M w0 W' (.box g t zv.cells.toList :: L) → K (put E o.dst (.pointer (some ⟨g, 0, none⟩))) W') (ho : o.op = .alloc t) (hg : o.guard = none) (hd : okD n o.dst = true) : OpW P n ops o E W K := by
  refine .runs (W' := W.alloc (.cells zv.cells t)) (v := .pointer (some ⟨W.heap.size, 0, none⟩)) (fun a ha => ?_) hg hd (k W.heap.size _ (by simpa using hS.box t zv.cells.toList))
  unfold execOp
  simp only [ho, Instr.alloc, Sem.run_bind, run_zeroValue ht, Result.andThen_ok]
  simp [newVar, newRow]
theorem OpW.box {x : Operand} {y : Value} (hS : Sep M w0 W L) (ho : o.op = .box t x) (hx : ev E x = some y)
    (k : ∀ g W', Sep M w0 W' (.box g t y.cells.toList :: L) → K (put E o.dst (.pointer (some ⟨g, 0, none⟩))) W') (hg : o.guard = none) (hd : okD n o.dst = true) : OpW P n ops o E W K := by
  refine .runs (W' := W.alloc (.cells y.cells t)) (v := .pointer (some ⟨W.heap.size, 0, none⟩)) (fun a ha => ?_) hg hd (k W.heap.size _ (by simpa using hS.box t y.cells.toList))
  unfold execOp
  simp [ho, Instr.box, newVar, newRow, ha.ev hx]
theorem Sep.box_cells {g : Nat} {cs : List Value} (h : Sep M w0 W (.box g t cs :: L)) : W.heap[g]? = some (.cells cs.toArray t (0, 0)) := by
  obtain ⟨S, _, h2, _⟩ := h.own
  exact h2.2
def seg (cs : List Value) (j m : Nat) : List Value := (cs.drop j).take m
/-- A field of a variable is read. -/
theorem ld {g j : Nat} {cs : List Value} {x : Operand} {te : TypeId} (ht : tinfo P t = some (ag, z, size, bytes)) (hS : Sep M w0 W (.box g te cs :: L)) (ho : o.op = .load t x) (hx : ev E x = some (.pointer (some ⟨g, j, none⟩)))
    (hv : ofCells ag (seg cs j size) = v) (hl : (seg cs j size).length = size) (h2 : (ag || Nat.beq size 1) = true) : Runs P n E o W v W := by
  intro a ha
  have hb := hS.box_cells
  have hr := run_loadVar (P := P) (W := W) (ad := ⟨g, j, none⟩) (cs := seg cs j size) ht hl (fun e => by subst e; simpa using h2) (fun i u hu => by
    have hadd : (⟨g, j, none⟩ : Addr).add i = ⟨g, j + i, none⟩ := by unfold Addr.add; split <;> simp_all
    rw [hadd, cell_of_row W g (j + i) _ te (0, 0) hb]
    simp only [seg, List.getElem?_take, List.getElem?_drop] at hu
    split at hu
    · simpa using hu
    · cases hu)
  unfold execOp
  simp only [ho, ha.ev hx, Instr.loadAt, Instr.sureAddr, Sem.run_bind, Sem.run_pure, Result.andThen_ok, hr, hv]
/-- A field of a variable is written. -/
theorem OpW.st {g j : Nat} {cs : List Value} {x y : Operand} {te : TypeId} (ht : tinfo P t = some (ag, z, size, bytes)) (hS : Sep M w0 W (.box g te cs :: L)) (ho : o.op = .store t x y) (hx : ev E x = some (.pointer (some ⟨g, j, none⟩)))
    (hy : ev E y = some v) (k : ∀ W', Sep M w0 W' (.box g te (splice cs j v.cells.toList) :: L) → K E W')
    (hl : v.cells.size = size) (h1 : v.cells.toList.all (·.oneCell') = true) (hf : Nat.ble (j + size) cs.length = true) (hg : o.guard = none) (hd : o.dst = none) : OpW P n ops o E W K := by
  have hb := hS.box_cells
  refine .skip hg hd (W' := W.setRow g (splice cs j v.cells.toList).toArray) (fun a ha => ?_) (k _ ?_)
  · have hr := run_storeVar (P := P) (v := v) (j := j) ht hb hl h1 (by simpa using Nat.le_of_ble_eq_true hf)
    unfold execOp
    simp only [ho, ha.ev hx, ha.ev hy, Instr.storeAt, Instr.sureAddr, Sem.run_bind, Sem.run_pure, Result.andThen_ok, hr]
  · exact hS.turn (L' := [.box g te (splice cs j v.cells.toList)]) fun S hS1 hh => ⟨⟨rfl, rfl, rfl, frame_setRow.size, fun b hb hn => frame_setRow.block b hb fun e => hn (e ▸ hh.1)⟩,
      S, fun b hb' => .inl hb', ⟨hh.1, setRow_heap W g _ _ te (0, 0) hh.2⟩, trivial⟩

/-! ### Addresses of fields; structs as values -/
def fOff (P : Program) (t f : Nat) : Option (Nat × Nat × Bool) := match P.underlying t with
  | some (.struct fs) => match fs[f]? with
    | some fl => match tinfo P fl.type with
      | some (ag, _, size, _) => some (fl.offset, size, ag)
      | none => none
    | none => none
  | _ => none
theorem fOff_spec {f off : Nat} (h : fOff P t f = some (off, size, ag)) : ∃ fs fl, P.underlying t = some (.struct fs) ∧ fs[f]? = some fl ∧ fl.offset = off ∧ ∃ z bytes, tinfo P fl.type = some (ag, z, size, bytes) := by
  unfold fOff at h
  split at h <;> try contradiction
  rename_i fs hfs
  split at h <;> try contradiction
  rename_i fl hfl
  split at h <;> try contradiction
  rename_i ag' z' s' b' hi
  injection h with h
  simp only [Prod.mk.injEq] at h
  obtain ⟨rfl, rfl, rfl⟩ := h
  exact ⟨fs, fl, hfs, hfl, rfl, z', b', hi⟩
theorem run_fieldAt {f off : Nat} {ad : Addr} (h : fOff P t f = some (off, size, ag)) (hs : Nat.beq size 0 = false) : (Instr.fieldAt t (.pointer (some ad)) f).run P W = .ok (.pointer (some (ad.add off))) W := by
  obtain ⟨fs, fl, h1, h2, h3, z, b, h4⟩ := fOff_spec h
  have hs' : size ≠ 0 := by rintro rfl; simp at hs
  simp [Instr.fieldAt, run_underlying h1, h2, Instr.sureAddr, fieldPlace, run_sizeOf h4, hs', h3]
theorem fa {f off g j : Nat} {x : Operand} (h : fOff P t f = some (off, size, ag)) (ho : o.op = .fieldAddr t x f) (hx : ev E x = some (.pointer (some ⟨g, j, none⟩))) (hs : Nat.beq size 0 = false) :
    Runs P n E o W (.pointer (some ⟨g, j + off, none⟩)) W := by
  intro a ha
  have hadd : (⟨g, j, none⟩ : Addr).add off = ⟨g, j + off, none⟩ := by unfold Addr.add; split <;> simp_all
  unfold execOp
  simp only [ho, ha.ev hx, Sem.run_bind, run_fieldAt h hs, Result.andThen_ok, hadd]
  rfl
/-- The address of a row's element, or of a part of it. -/
def elemA (A : Option Addr) (k : Nat) : Addr := (A.getD ⟨0, 0, none⟩).add k
theorem Addr.add_add (ad : Addr) (i j : Nat) : (ad.add i).add j = ad.add (i + j) := by
  unfold Addr.add
  by_cases h1 : i = 0 <;> by_cases h2 : j = 0 <;> simp [h1, h2, Nat.add_assoc]
theorem fe {f off k j : Nat} {A : Option Addr} {x : Operand} (h : fOff P t f = some (off, size, ag)) (ho : o.op = .fieldAddr t x f) (hx : ev E x = some (.pointer (some (elemA A (k + j))))) (hs : Nat.beq size 0 = false) :
    Runs P n E o W (.pointer (some (elemA A (k + (j + off))))) W := by
  intro a ha
  have hadd : (elemA A (k + j)).add off = elemA A (k + (j + off)) := by unfold elemA; rw [Addr.add_add, Nat.add_assoc]
  unfold execOp
  simp only [ho, ha.ev hx, Sem.run_bind, run_fieldAt h hs, Result.andThen_ok, hadd]
  rfl
/-- A field of a struct that is a value. -/
theorem fv {f off : Nat} {cs : Array Value} {x : Operand} (h : fOff P t f = some (off, size, ag)) (ho : o.op = .field t x f) (hx : ev E x = some (.agg cs)) (hv : ofCells ag (seg cs.toList off size) = v)
    (hl : (seg cs.toList off size).length = size) (h2 : (ag || Nat.beq size 1) = true) : Runs P n E o W v W := by
  intro a ha
  obtain ⟨fs, fl, h1, h3, h4, z, b, h5⟩ := fOff_spec h
  obtain ⟨i, d, hi, hd, e1, e2, e3, e4⟩ := tinfo_spec h5
  have hagg : (isAgg fl.type).run P W = .ok ag W := by rw [run_isAgg hd, e1]
  unfold execOp
  simp only [ho, ha.ev hx, Sem.run_bind, Instr.field, run_underlying h1, Result.andThen_ok, h3, asAgg, part, hagg, Sem.run_pure, h4]
  cases ag with
  | true =>
    simp only [if_true, Sem.run_bind, run_sizeOf h5, Result.andThen_ok, Sem.run_pure]
    rw [← hv]
    simp only [ofCells, seg]
    congr 3
    apply Array.ext'
    simp [List.take_drop]
  | false =>
    have hs : size = 1 := by simpa using h2
    subst hs
    simp only [Bool.false_eq_true, if_false]
    have h6 : cs[off]? = some v := by
      match hq : seg cs.toList off 1, hl with
      | [y], _ =>
        rw [hq] at hv
        simp only [ofCells] at hv
        subst hv
        have : (seg cs.toList off 1)[0]? = some y := by rw [hq]; rfl
        simp only [seg, List.getElem?_take, List.getElem?_drop] at this
        simpa using this
    rw [h6]
    rfl
end Go.Proofs.YtjpbdpfkhdekpaaGreatDoor.X
