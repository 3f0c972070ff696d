/- Words in which proofs are printed in fewer letters. -/
import Derived.Test.YtjpbdpfkhdekpaaGreatDoorZ5
set_option linter.unusedVariables false
set_option linter.unusedSimpArgs false
namespace Go.Proofs.YtjpbdpfkhdekpaaGreatDoor.X
variable {P : Program} {n : Nat} {ops : Array Oper} {o : Oper} {rest : List Oper} {E E' : Env} {W W' w w0 : World} {v : Value} {K : Env → World → Prop} {R : Exit → Env → World → Prop} {M : Nat → Prop} {L : List Ent}
/-- No guard, a slot that is there. -/
def og (n : Nat) (o : Oper) : Bool := match o.guard, okD n o.dst with
  | none, true => true
  | _, _ => false
theorem og_spec (h : og n o = true) : o.guard = none ∧ okD n o.dst = true := by
  unfold og at h
  split at h
  · rename_i h1 h2; exact ⟨h1, h2⟩
  · cases h
def pq (n : Nat) (E : Env) (o : Oper) : Option Value := match o.guard, okD n o.dst with
  | none, true => pv (ev E) o.op
  | _, _ => none
theorem pq_spec (h : pq n E o = some v) : pv (ev E) o.op = some v ∧ o.guard = none ∧ okD n o.dst = true := by
  unfold pq at h
  split at h
  · rename_i h1 h2; exact ⟨h, h1, h2⟩
  · cases h
theorem RG.q (h : pq n E o = some v) (k : RG P n ops rest (put E o.dst v) W K) : RG P n ops (o :: rest) E W K :=
  .p (pq_spec h).1 (pq_spec h).2.1 (pq_spec h).2.2 k
theorem RG.s (h : Runs P n E o W v W) (hg : og n o = true) (k : RG P n ops rest (put E o.dst v) W K) : RG P n ops (o :: rest) E W K :=
  .r h k (og_spec hg).1 (og_spec hg).2
theorem CW.cs {c d : Code} {x : Operand} {b : Bool} {α : Type} {X Y : Option α} {r : α} (hx : ev E x = some (.bool b)) (h : sel b X Y = some r) (ht : X = some r → CW P n c E W R) (hf : Y = some r → CW P n d E W R) : CW P n (.cond x c d) E W R :=
  .cond hx (fun hb => ht (sel_t hb h)) (fun hb => hf (sel_f hb h))
theorem RG.xx {c b : Bool} (hc : c = !b) (hg : (gdv ops.toList E o.guard, okD n o.dst) = (some (c, b), true)) (h : RG P n ops rest (put E o.dst undef) W K) : RG P n ops (o :: rest) E W K := by
  simp only [Prod.mk.injEq] at hg
  exact .x hc h hg.1 hg.2
variable {SW : World → Prop} {k f : Nat} {ls : Array Bool}
theorem RK.tp (i : Nat) (ho : ops[i]? = some o) (hv : pq n E o = some v) (hS : SW W)
    (hs : (Region.noSelect ops && Region.free .any ops ls i && (Region.ready .any ops ls).contains i && waits ops k i && !(Nat.beq i k)) = true) (h : RK P n ops SW k f (ls.setIfInBounds i true) (put E o.dst v) W K) : RK P n ops SW k (f + 1) ls E W K :=
  .t1 i ho (fun W _ => pr (pq_spec hv).1) hS h hs (pq_spec hv).2.1 (pq_spec hv).2.2
theorem RK.ts (i : Nat) (ho : ops[i]? = some o) (hv : ∀ W, SW W → Runs P n E o W v W) (hS : SW W) (hg : og n o = true)
    (hs : (Region.noSelect ops && Region.free .any ops ls i && (Region.ready .any ops ls).contains i && waits ops k i && !(Nat.beq i k)) = true) (h : RK P n ops SW k f (ls.setIfInBounds i true) (put E o.dst v) W K) : RK P n ops SW k (f + 1) ls E W K :=
  .t1 i ho hv hS h hs (og_spec hg).1 (og_spec hg).2
end Go.Proofs.YtjpbdpfkhdekpaaGreatDoor.X
