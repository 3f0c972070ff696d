/- Plain laws: valid statements compile to valid codes; codes are drawn. Plain laws: the program's codes are valid as the reference's are; numbers' bits; the instructions of a quad. Plain laws: the instructions of a quad, of a code: the program's are the reference's. Plain laws: the instructions of a code: the program's are the reference's; places, jumps, colors. Plain laws: the instructions of a valid quad, of a valid code, are valid. Plain laws: lists of instructions are drawn. Plain laws: an image is drawn. Plain laws: machines are the same as themselves; drawn images; runs. Plain laws: what is encoded is decoded again; a new hart. Plain laws: capacities and instructions are drawn; squads; loops that gather. Plain laws: new images: data, blocks. Plain laws: new images: at first, nothing has happened; an image begins with the runtime. Printed by a program of mine: that the program's functions compute it. -/
import Derived.Test.YtmpplggjpmmhlaaGreatDoorK3
set_option linter.unusedVariables false
set_option linter.unusedSimpArgs false
set_option maxRecDepth 100000
set_option maxHeartbeats 4000000
namespace Go.Proofs.YtmpplggjpmmhlaaGreatDoor.N
open Go.Proofs.YtmpplggjpmmhlaaGreatDoor.X
variable {b : List Int} {p m : Int}
theorem ct_mem : ∀ {l : List Stmt} {x : Stmt},x ∈ l → ct x ≤ cts l
 | [],_,h=>by simp at h
 | y :: l,x,h=>by
  simp only [cts]
  rcases List.mem_cons.1 h with rfl | h
  ·omega
  ·have:=ct_mem h; omega
theorem var_eq (s : Stmt) (u : Bool) : f32 s u = some (if u then decide (0 ≤ s.Var) && decide (s.Var ≤ 3) else s.Var == 0):=by cases u <;> rfl
theorem box_eq (s : Stmt) (u : Bool) : f31 s u = some (if u then decide (0 ≤ s.Box) && decide (s.Box ≤ 2) else s.Box == 0):=by cases u <;> rfl
theorem simple_eq {k : Nat} (hk : 5 ≤ k) {s : Stmt} (h : Simp s) : f40 k s = some true:=by
 obtain ⟨h1,h2,h3⟩:=h
 unfold f40
 simp only [Stmt.eta',Expr.eta',var_eq,box_eq,h1,h2]
 rw [sel_false (by simp)]
 rcases h3 with ⟨a1,a2,a3,a4⟩ | ⟨a1,a2,a3,a4⟩ | ⟨a1,a2,a3,a4⟩ | ⟨a1,a2,a3,a4⟩ | ⟨a1,a2,a3,a4⟩
 ·rw [sel_true (by simp [a1])]; simp [a2.1,a2.2,a3,exprvalid_eq a4 hk,sel]
 ·rw [sel_false (by simp [a1]),sel_true (by simp [a1])]; simp [a2,a3.1,a3.2,exprvalid_eq a4 hk,sel]
 ·rw [sel_false (by simp [a1]),sel_false (by simp [a1]),sel_true (by simp [a1])]; simp [a2.1,a2.2,a3.1,a3.2,a4,f4g,sel]
 ·rw [sel_false (by simp [a1]),sel_false (by simp [a1]),sel_false (by simp [a1]),sel_true (by simp [a1])]; simp [a2,a3,a4,f4g,sel]
 ·rw [sel_false (by simp [a1]),sel_false (by simp [a1]),sel_false (by simp [a1]),sel_false (by simp [a1]),sel_true (by simp [a1])]; simp [a2,a3,exprvalid_eq a4 hk,sel]
theorem Simp.kind {s : Stmt} (h : Simp s) : s.Kind ≠ 2 ∧ s.Kind ≠ 3:=by
 obtain ⟨_,_,h⟩:=h
 rcases h with h | h | h | h | h <;> (have:=h.1; omega)
theorem blocks_eq : ∀ (n : Nat) {k : Nat} {l : List Stmt},2 * n + 8 ≤ k → n ≤ 3 → (∀ x ∈ l,SOk n x) → cts l ≤ 1000000 → f1j k l n = some true:=by
 intro n
 induction n with
 | zero=>exact fun hk hn hl hc=>key 0 (fun h=>by omega) hk hn hl hc
 | succ n ih=>exact fun hk hn hl hc=>key (n + 1) (fun _ {k l} h1 h2 h3=>by have:=ih (k:=k) (l:=l) h1 (by omega) h2 h3; simpa using this) hk hn hl hc
where
 key (n : Nat) (ih : 1 ≤ n → ∀ {k : Nat} {l : List Stmt},2 * (n - 1) + 8 ≤ k → (∀ x ∈ l,SOk (n - 1) x) → cts l ≤ 1000000 → f1j k l ((n - 1 : Nat) : Int) = some true) {k : Nat} {l : List Stmt} (hk : 2 * n + 8 ≤ k) (hn : n ≤ 3) (hl : ∀ x ∈ l,SOk n x) (hc : cts l ≤ 1000000) : f1j k l n = some true:=by
  obtain ⟨k,rfl⟩ : ∃ j,k = j + 2:=⟨k - 2,by omega⟩
  refine Tot.eq ?_
  show Tot (f48 (k + 1) (f1j (k + 1)) (fb3 (k + 1)) l n) _
  unfold f48
  have hlen:=len_cts l
  refine .bind (P:=fun z=>z = .inr ()) (.iter (fun i : Int=>0 ≤ i ∧ i ≤ l.length) (fun i=>(l.length - i).toNat) ⟨by omega,by omega⟩ fun i ⟨g0,g1⟩=>?_) fun z hz=>by subst hz; exact .pure rfl
  unfold f82
  refine .sel (fun h=>?_) fun _=>.inr rfl
  simp only [decide_eq_true_eq] at h
  refine .bind (.nth g0 h) fun x ⟨_,hm⟩=>?_
  rw [Stmt.eta']
  refine .bind (P:=fun y=>y = true) ?_ fun y hy=>.sf (by rw [hy]; rfl) (.inl ?_)
  ·have hx:=hl x hm
   have hcx:=ct_mem hm
   have hce:=ct_eq x
   show Tot (f79 k (f1j k) (fb3 k) x n) _
   unfold f79
   simp only [Stmt.eta',Expr.eta',var_eq,box_eq]
   have simp_case : Simp x → Tot (sel (x.Kind != 2 && x.Kind != 3) ((f40 k x).bind fun y1=>some y1) (sel (decide ((n : Int) < 1) || (x.Kind == 3 && decide ((x.Else.length : Int) > 0))) (some false) ((some (if false = true then decide (0 ≤ x.Var) && decide (x.Var ≤ 3) else x.Var == 0)).bind fun y2=>(sel y2 ((some (if false = true then decide (0 ≤ x.Box) && decide (x.Box ≤ 2) else x.Box == 0)).bind fun y3=>some y3) (some false)).bind fun b1=>(sel b1 ((f1t k x.Expr).bind fun y4=>some y4) (some false)).bind fun b2=>(sel b2 ((f1j k x.Body (w64 ((n : Int) - 1))).bind fun y5=>some y5) (some false)).bind fun b3=>(sel b3 ((f1j k x.Else (w64 ((n : Int) - 1))).bind fun y6=>some y6) (some false)).bind fun b4=>some b4))) (fun y=>y = true):=fun hs=>by
    refine .st (by have:=hs.kind; simp [this.1,this.2]) ?_
    rw [simple_eq (by omega) hs]; exact .pure rfl
   cases n with
   | zero=>exact simp_case hx
   | succ n =>
    rcases hx with hx | ⟨hkd,hv,hb,he,hbd,hel⟩
    ·exact simp_case hx
    ·refine .sf (by rcases hkd with h | h <;> simp [h]) (.sf (by rcases hkd with h | h <;> simp [h] <;> omega) ?_)
     rw [w64_s (by omega) (by omega),show ((n + 1 : Nat) : Int) - 1 = ((n + 1 - 1 : Nat) : Int) by omega]
     have i1:=ih (by omega) (k:=k) (l:=x.Body) (by omega) hbd (by omega)
     have i2:=ih (by omega) (k:=k) (l:=x.Else) (by omega) hel (by omega)
     simp only [i1,i2,exprvalid_eq he (show 5 ≤ k by omega),hv,hb]
     exact .pure rfl
  ·rw [w64_up g0 (by omega)]
   exact ⟨⟨by omega,by omega⟩,by omega⟩
theorem stmtsvalid_eq {k : Nat} (hk : 20 ≤ k) {l : List Stmt} (h : BlockOk 3 16 l) : f4m k l = some true:=by
 unfold f4m
 have h2:=h.2
 have h1:=blocks_eq 3 (k:=k) (by omega) (by omega) h.1 (by omega)
 rw [show ((3 : Nat) : Int) = 3 from rfl] at h1
 rw [h1,Option.bind_some,sel_true rfl,(count_tot (n:=3) (k:=k) (by omega) h.1 (by omega)).eq]
 simp; omega
def Cq (hi : Int) (out : List Quad) : Prop:=∀ q ∈ out,QOk (hi + 1) q
theorem Cq.mono {hi hi' : Int} {out : List Quad} (h : Cq hi out) (hh : hi ≤ hi') : Cq hi' out:=fun q hq=>(h q hq).mono (by omega)
theorem Cq.app {hi : Int} {out out' : List Quad} (h : Cq hi out) (h' : Cq hi out') : Cq hi (out ++ out'):=fun q hq=>(List.mem_append.1 hq).elim (h q) (h' q)
theorem Cq.one {hi : Int} {q : Quad} (h : QOk (hi + 1) q) : Cq hi [q]:=fun q' hq=>by rw [List.mem_singleton.1 hq]; exact h
theorem cexpr4 {k : Nat} {e : Expr} (h : EOk 5 e) (hk : 5 ≤ k) : Tot (f1z k e 4) fun out=>out.length ≤ 31 ∧ 1 ≤ out.length ∧ ∀ hi,Cq hi out:=
 (cexpr_tot h (by omega) (by omega) hk).mono fun out ho=>⟨by have:=ho.1; omega,ho.2.1,fun hi q hq=>ho.2.2 q hq _⟩
theorem cexpr0 {k : Nat} (hk : 1 ≤ k) : Tot (f1z k ⟨0,0,[]⟩ 4) fun out=>out.length ≤ 31 ∧ 1 ≤ out.length ∧ ∀ hi,Cq hi out:=
 (cexpr_tot (d:=1) (.inl ⟨rfl,by simp,by simp,rfl⟩) (by omega) (by omega) hk).mono fun out ho=>⟨by have:=ho.1; omega,ho.2.1,fun hi q hq=>ho.2.2 q hq _⟩
def CRes (base : Int) (c : Nat) (out : List Quad) : Prop:=out.length ≤ 33 * c ∧ Cq (base + out.length) out
def ListP (n : Nat) : Prop:=∀ {k : Nat} {l : List Stmt} {base : Int},3 * n + 8 ≤ k → (∀ x ∈ l,SOk n x) → 0 ≤ base → base + 33 * cts l ≤ 100000 → Tot (f36 k l base) (CRes base (cts l))
theorem cstmt_tot {n k : Nat} (ih : ∀ e, n = e + 1 → ListP e) {x : Stmt} (hx : SOk n x) {base : Int} (hk : 3 * n + 7 ≤ k) (h0 : 0 ≤ base) (h1 : base + 33 * ct x ≤ 100000) : Tot (f4z k x base) (CRes base (ct x)) := by
  obtain ⟨k, rfl⟩ : ∃ j, k = j + 1 := ⟨k - 1, by omega⟩
  show Tot (f5j k (f36 k) (f4z k) (f93 k) (f6e k) x base) _
  have hce := ct_eq x
  have r4 : Rg 4 := by unfold Rg; omega
  have hexp : EOk 5 x.Expr ∨ x.Expr = ⟨0, 0, []⟩ := by
    have hs : Simp x → EOk 5 x.Expr ∨ x.Expr = ⟨0, 0, []⟩ := fun h => by
      rcases h.2.2 with h | h | h | h | h
      · exact .inl h.2.2.2
      · exact .inl h.2.2.2
      · exact .inr h.2.2.2
      · exact .inr h.2.2.2
      · exact .inl h.2.2.2
    cases n with
    | zero => exact hs hx
    | succ n => rcases hx with h | h
                · exact hs h
                · exact .inl h.2.2.2.1
  have he : ∀ {k}, 5 ≤ k → Tot (f1z k x.Expr 4) fun out => out.length ≤ 31 ∧ 1 ≤ out.length ∧ ∀ hi, Cq hi out := fun hk => hexp.elim (fun h => cexpr4 h hk) fun h => by rw [h]; exact cexpr0 (by omega)
  unfold f5j
  simp only [Stmt.eta', Expr.eta']
  refine .bind (he (by omega)) fun ex hex => .sel (fun hkd => ?_) fun h2 => .sel (fun hkd => ?_) fun h3 => ?_
  · -- an if
    simp only [beq_iff_eq] at hkd
    have hns : ¬ Simp x := fun h => h.kind.1 hkd
    obtain ⟨n, rfl⟩ : ∃ e, n = e + 1 := ⟨n - 1, by cases n with | zero => exact absurd hx hns | succ n => omega⟩
    obtain ⟨_, _, _, hee, hbd, hel⟩ := hx.resolve_left hns
    obtain ⟨k, rfl⟩ : ∃ j, k = j + 1 := ⟨k - 1, by omega⟩
    refine .bind (P := CRes base (ct x)) ?_ fun r hr => .pure hr
    show Tot (f7a k (f36 k) (f4z k) (f93 k) (f6e k) x base) _
    unfold f7a
    simp only [Expr.eta']
    refine .bind (cexpr4 hee (by omega)) fun e he => ?_
    rw [w64_s (i := base + e.length) (by omega) (by omega), w64_s (i := base + e.length + 1) (by omega) (by omega)]
    refine .bind (ih n rfl (k := k) (by omega) hbd (by omega) (by omega)) fun bd ⟨hb1, hb2⟩ => ?_
    rw [w64_s (i := base + e.length + 1 + bd.length) (by omega) (by omega)]
    refine .sel (fun h => ?_) fun h => ?_
    · refine .bind (.app (by simp; omega)) fun r hr => .bind (.app (by subst hr; simp; omega)) fun r2 hr2 => .pure ?_
      subst hr hr2
      refine ⟨by simp; omega, ((he.2.2 _).app (.one ?_)).app (hb2.mono (by simp; omega))⟩
      exact .inr (.inr (.inr (.inr (.inl ⟨rfl, rfl, r4, rfl, by simp only; omega, by simp; omega⟩))))
    · rw [w64_s (i := base + e.length + 1 + bd.length + 1) (by omega) (by omega)]
      refine .bind (ih n rfl (k := k) (by omega) hel (by omega) (by omega)) fun el ⟨he1, he2⟩ => .bind (.app (by simp; omega)) fun r hr => .bind (.app (by subst hr; simp; omega)) fun r2 hr2 => .bind (.app (by subst hr hr2; simp; omega)) fun r3 hr3 => .bind (.app (by subst hr hr2 hr3; simp; omega)) fun r4' hr4 => .pure ?_
      subst hr hr2 hr3 hr4
      rw [w64_s (i := base + e.length + 1 + bd.length + 1 + el.length) (by omega) (by omega)]
      refine ⟨by simp; omega, ((((he.2.2 _).app (.one ?_)).app (hb2.mono (by simp; omega))).app (.one ?_)).app (he2.mono (by simp; omega))⟩
      · exact .inr (.inr (.inr (.inr (.inl ⟨rfl, rfl, r4, rfl, by simp only; omega, by simp; omega⟩))))
      · exact .inr (.inr (.inr (.inl ⟨rfl, rfl, rfl, rfl, by simp only; omega, by simp; omega⟩)))
  · -- a while
    simp only [beq_iff_eq] at hkd
    have hns : ¬ Simp x := fun h => h.kind.2 hkd
    obtain ⟨n, rfl⟩ : ∃ e, n = e + 1 := ⟨n - 1, by cases n with | zero => exact absurd hx hns | succ n => omega⟩
    obtain ⟨_, _, _, hee, hbd, hel⟩ := hx.resolve_left hns
    obtain ⟨k, rfl⟩ : ∃ j, k = j + 1 := ⟨k - 1, by omega⟩
    refine .bind (P := CRes base (ct x)) ?_ fun r hr => .pure hr
    show Tot (f4o k (f36 k) (f4z k) (f93 k) (f6e k) x base) _
    unfold f4o
    simp only [Expr.eta']
    refine .bind (cexpr4 hee (by omega)) fun e he => ?_
    rw [w64_s (i := base + e.length) (by omega) (by omega), w64_s (i := base + e.length + 1) (by omega) (by omega)]
    refine .bind (ih n rfl (k := k) (by omega) hbd (by omega) (by omega)) fun bd ⟨hb1, hb2⟩ => ?_
    rw [w64_s (i := base + e.length + 1 + bd.length) (by omega) (by omega), w64_s (i := base + e.length + 1 + bd.length + 1) (by omega) (by omega)]
    refine .bind (.app (by simp; omega)) fun r hr => .bind (.app (by subst hr; simp; omega)) fun r2 hr2 => .bind (.app (by subst hr hr2; simp; omega)) fun r3 hr3 => .pure ?_
    subst hr hr2 hr3
    refine ⟨by simp; omega, (((he.2.2 _).app (.one ?_)).app (hb2.mono (by simp; omega))).app (.one ?_)⟩
    · exact .inr (.inr (.inr (.inr (.inl ⟨rfl, rfl, r4, rfl, by simp only; omega, by simp; omega⟩))))
    · exact .inr (.inr (.inr (.inl ⟨rfl, rfl, rfl, rfl, h0, by simp; omega⟩)))
  · have hs : Simp x := by
      simp only [beq_eq_false_iff_ne, ne_eq] at h2 h3
      cases n with
      | zero => exact hx
      | succ n => rcases hx with h | h
                  · exact h
                  · exact absurd h.1 (by omega)
    obtain ⟨s1, s2, s3⟩ := hs
    have h33 : 33 ≤ 33 * ct x := by have := ct_pos x; omega
    have rg : ∀ {v : Int}, 0 ≤ v ∧ v ≤ 3 → Rg v := fun h => by unfold Rg; omega
    have ap : ∀ q : Quad, (∀ hi, 0 ≤ hi → QOk (hi + 1) q) → Tot ((X.app 40 ex [q]).bind fun r => some r) (CRes base (ct x)) := fun q hq => .bind (.app (by simp; omega)) fun r hr => .pure (by
      subst hr
      exact ⟨by simp; omega, (hex.2.2 _).app (.one (hq _ (by omega)))⟩)
    refine .sel (fun h => ap _ fun hi hh => ?_) fun n1 => .sel (fun h => ap _ fun hi hh => ?_) fun n4 => .sel (fun h => ap _ fun hi hh => ?_) fun n7 => .sel (fun h => .pure ⟨by simp; omega, .one ?_⟩) fun n5 => .pure ⟨by simp; omega, .one ?_⟩
    all_goals try simp only [beq_iff_eq] at h
    · simp [h] at s3
      exact .inr (.inl ⟨rfl, rg s3.1, r4, rfl, rfl⟩)
    · simp [h] at s3
      exact .inr (.inr (.inr (.inr (.inr (.inl ⟨rfl, rfl, r4, rfl, s3.2.1.1, s3.2.1.2⟩)))))
    · exact .inr (.inr (.inr (.inr (.inr (.inr (.inr (.inl ⟨rfl, rfl, r4, rfl, rfl⟩)))))))
    · simp [h] at s3
      exact .inr (.inr (.inr (.inr (.inr (.inr (.inl ⟨rfl, rg s3.1, rfl, rfl, s3.2.1.1, s3.2.1.2⟩))))))
    · exact .inr (.inr (.inr (.inr (.inr (.inr (.inr (.inr ⟨.inl rfl, rfl, rfl, rfl, rfl⟩)))))))
theorem clist_tot : ∀ n,ListP n:=by
 intro n
 induction n with
 | zero=>exact key 0 fun e h=>by omega
 | succ n ih=>exact key (n + 1) fun e h=>(by omega : n = e) ▸ ih
where
 key (n : Nat) (ih : ∀ e,n = e + 1 → ListP e) : ListP n:=by
  intro k l base hk hl h0 h1
  obtain ⟨k,rfl⟩ : ∃ j,k = j + 1:=⟨k - 1,by omega⟩
  show Tot (f5h k (f36 k) (f4z k) (f93 k) (f6e k) l base) _
  unfold f5h
  have hlen:=len_cts l
  refine .bind (P:=CRes base (cts l)) (.iter (fun s=>0 ≤ s.2 ∧ s.2 ≤ (l.length : Int) ∧ CRes base (cts (l.take s.2.toNat)) s.1) (fun s=>((l.length : Int) - s.2).toNat) ⟨by simp,by simp,by simp [CRes,Cq]⟩ fun s hs=>?_) fun r hr=>.pure hr
  obtain ⟨out,i⟩:=s
  obtain ⟨g0,g1,g2,g3⟩:=hs
  simp only at g0 g1 g2 g3
  have hle:=cts_take_le l i.toNat
  unfold f96
  refine .sel (fun h=>?_) fun h=>.inr (show CRes base (cts l) out from ?_)
  ·simp only [decide_eq_true_eq] at h
   refine .bind (.nth g0 h) fun x ⟨hx,hm⟩=>?_
   have h1:=cts_take l i.toNat x hx
   have h2:=cts_take_le l (i.toNat + 1)
   have h3:=ct_mem hm
   dsimp only
   rw [Stmt.eta',w64_s (by omega) (by omega)]
   refine .bind (cstmt_tot ih (hl x hm) (by omega) (by omega) (by omega)) fun y ⟨hy1,hy2⟩=>.bind (.app (l:=out) (by omega)) fun r hr=>.inl ?_
   subst hr
   rw [w64_up g0 (by omega)]
   refine ⟨⟨by simp only; omega,by simp only; omega,?_⟩,by simp only; omega⟩
   simp only
   rw [show (i + 1).toNat = i.toNat + 1 by omega,h1]
   exact ⟨by simp; omega,(g3.mono (by simp; omega)).app (hy2.mono (by simp; omega))⟩
  ·simp only [decide_eq_false_iff_not] at h
   rw [List.take_of_length_le (by omega)] at g2
   exact ⟨g2,g3⟩
theorem compile_tot {k : Nat} (hk : 20 ≤ k) {l : List Stmt} (h : BlockOk 3 16 l) : Tot (f49 k l) fun r=>r.2 = true ∧ COk r.1:=by
 unfold f49
 rw [stmtsvalid_eq hk h,Option.bind_some]
 have h2:=h.2
 refine .sf rfl (.bind (clist_tot 3 (k:=k) (by omega) h.1 (by omega) (by omega)) fun out ⟨h1,h2'⟩=>.bind (.app (by simp; omega)) fun r hr=>.pure ⟨rfl,?_⟩)
 subst hr
 refine ⟨by simp,by simp; omega,fun q hq=>?_,⟨_,List.getLast?_concat,.inl rfl⟩⟩
 simp only [List.mem_append,List.mem_singleton] at hq
 rcases hq with hq | rfl
 ·exact (h2' q hq).mono (by simp)
 ·exact .inr (.inr (.inr (.inr (.inr (.inr (.inr (.inr ⟨.inr rfl,rfl,rfl,rfl,rfl⟩)))))))
theorem word_dr (hb : By b) (h0 : 0 ≤ p) (hm : p ≤ m) (hp : m ≤ 100000000) : Dr (f7h ⟨b,p⟩) (m + 5) Wd:=by
 unfold f7h
 have wd : ∀ {v : Int},-1000 ≤ v → v ≤ 1000 → Wd v:=fun h1 h2=>by unfold Wd; omega
 refine .bind (pick_dr hb h0 hm (by omega) (by omega) (by omega)) fun x p1 hx h1 h2=>.sel (fun _=>?_) fun _=>.sel (fun _=>?_) fun _=>.sel (fun _=>?_) fun _=>?_
 ·refine .bind (pick_dr hb h1 h2 (by omega) (by omega) (by omega)) fun y p2 hy h3 h4=>.tot (.nth hy.1 (by simpa using hy.2)) fun z ⟨_,hz⟩=>.pure ?_ h3 (by omega)
  unfold Wd
  simp at hz
  omega
 ·refine .bind (pick_dr hb h1 h2 (by omega) (by omega) (by omega)) fun y p2 hy h3 h4=>.bind (pick_dr hb h3 h4 (by omega) (by omega) (by omega)) fun y p2 hy h3 h4=>.bind (pick_dr hb h3 h4 (by omega) (by omega) (by omega)) fun y p2 hy h3 h4=>.bind (pick_dr hb h3 h4 (by omega) (by omega) (by omega)) fun y p2 hy h3 h4=>.tot (wrap_tot _) fun z hz=>.pure hz h3 (by omega)
 ·refine .bind (pick_dr hb h1 h2 (by omega) (by omega) (by omega)) fun y p2 hy h3 h4=>.pure ?_ h3 (by omega)
  rw [w64_s (by omega) (by omega)]
  exact wd (by omega) (by omega)
 ·refine .bind (pick_dr hb h1 h2 (by omega) (by omega) (by omega)) fun y p2 hy h3 h4=>.pure (wd (by omega) (by omega)) h3 (by omega)
theorem reg_dr (hb : By b) (h0 : 0 ≤ p) (hm : p ≤ m) (hp : m ≤ 100000000) : Dr (f1b ⟨b,p⟩) (m + 1) Rg:=by
 unfold f1b
 exact .bind (pick_dr hb h0 hm (by omega) (by omega) (by omega)) fun x p1 hx h1 h2=>.pure (by unfold Rg; omega) h1 h2
theorem quad_dr (hb : By b) {many : Int} (hn : 1 ≤ many) (hn' : many ≤ 600) (h0 : 0 ≤ p) (hm : p ≤ m) (hp : m ≤ 90000000) : Dr (f7j ⟨b,p⟩ many) (m + 10) (QOk many):=by
 unfold f7j
 refine .bind (pick_dr hb h0 hm (by omega) (by omega) (by omega)) fun x p1 hx h1 h2=>?_
 have tt : ∀ c d : Bool,Tot (sel c (some c) (some d)) fun _=>True:=fun c d=>.sel (fun _=>.pure trivial) fun _=>.pure trivial
 have tt2 : ∀ c d e : Bool,Tot (sel c (some c) (sel d (some d) (some e))) fun _=>True:=fun c d e=>.sel (fun _=>.pure trivial) fun _=>tt d e
 refine .tot (tt _ _) fun _ _=>.sel (fun _=>?_) fun _=>.tot (tt _ _) fun _ _=>.sel (fun _=>?_) fun _=>.tot (tt2 _ _ _) fun _ _=>.sel (fun _=>?_) fun _=>.sel (fun _=>?_) fun _=>.sel (fun _=>?_) fun _=>.sel (fun _=>?_) fun _=>.sel (fun _=>?_) fun _=>?_
 ·refine .bind (reg_dr hb h1 h2 (by omega)) fun d p2 hd h3 h4=>.bind (word_dr hb h3 h4 (by omega)) fun w p3 hw h5 h6=>.bind (pick_dr hb h5 h6 (by omega) (by omega) (by omega)) fun y p4 hy h7 h8=>.tot (.nth hy.1 (by simpa using hy.2)) fun z ⟨_,hz⟩=>.pure (.inl ⟨rfl,hd,rfl,rfl,?_⟩) h7 (by omega)
  simp at hz
  rcases hz with h | h | h | h <;> first | (rw [h]; exact hw) | (rw [h]; unfold Wd; simp)
 ·exact .bind (reg_dr hb h1 h2 (by omega)) fun d p2 hd h3 h4=>.bind (reg_dr hb h3 h4 (by omega)) fun a p3 ha h5 h6=>.pure (.inr (.inl ⟨rfl,hd,ha,rfl,rfl⟩)) h5 (by omega)
 ·exact .bind (reg_dr hb h1 h2 (by omega)) fun d p2 hd h3 h4=>.bind (reg_dr hb h3 h4 (by omega)) fun a p3 ha h5 h6=>.bind (reg_dr hb h5 h6 (by omega)) fun c p4 hc h7 h8=>.bind (op_dr hb h7 h8 (by omega)) fun o p5 ho h9 h10=>.pure (.inr (.inr (.inl ⟨rfl,hd,ha,hc,ho.1,ho.2⟩))) h9 (by omega)
 ·exact .bind (pick_dr hb h1 h2 (by omega) hn (by omega)) fun y p2 hy h3 h4=>.pure (.inr (.inr (.inr (.inl ⟨rfl,rfl,rfl,rfl,hy.1,hy.2⟩)))) h3 (by omega)
 ·exact .bind (reg_dr hb h1 h2 (by omega)) fun a p2 ha h3 h4=>.bind (pick_dr hb h3 h4 (by omega) hn (by omega)) fun y p3 hy h5 h6=>.pure (.inr (.inr (.inr (.inr (.inl ⟨rfl,rfl,ha,rfl,hy.1,hy.2⟩))))) h5 (by omega)
 ·exact .bind (reg_dr hb h1 h2 (by omega)) fun a p2 ha h3 h4=>.bind (pick_dr hb h3 h4 (by omega) (by omega) (by omega)) fun y p3 hy h5 h6=>.pure (.inr (.inr (.inr (.inr (.inr (.inl ⟨rfl,rfl,ha,rfl,hy.1,by simp only; omega⟩)))))) h5 (by omega)
 ·exact .bind (reg_dr hb h1 h2 (by omega)) fun a p2 ha h3 h4=>.bind (pick_dr hb h3 h4 (by omega) (by omega) (by omega)) fun y p3 hy h5 h6=>.pure (.inr (.inr (.inr (.inr (.inr (.inr (.inl ⟨rfl,ha,rfl,rfl,hy.1,by simp only; omega⟩))))))) h5 (by omega)
 ·exact .bind (pick_dr hb h1 h2 (by omega) (by omega) (by omega)) fun y p2 hy h3 h4=>.sel (fun _=>.pure (.inr (.inr (.inr (.inr (.inr (.inr (.inr (.inr ⟨.inl rfl,rfl,rfl,rfl,rfl⟩)))))))) h3 (by omega)) fun _=>.bind (reg_dr hb h3 h4 (by omega)) fun a p3 ha h5 h6=>.pure (.inr (.inr (.inr (.inr (.inr (.inr (.inr (.inl ⟨rfl,rfl,ha,rfl,rfl⟩)))))))) h5 (by omega)
theorem random_dr (hb : By b) (h0 : 0 ≤ p) (hm : p ≤ m) (hp : m ≤ 50000000) : Dr (f3s ⟨b,p⟩) (m + 200) fun c=>COk c ∧ c.length ≤ 14:=by
 unfold f3s
 refine .bind (pick_dr hb h0 hm (by omega) (by omega) (by omega)) fun x p1 hx h1 h2=>?_
 dsimp only
 obtain ⟨n,hn⟩ : ∃ n : Int,n = 1 + x:=⟨_,rfl⟩
 have hw : w64 (1 + x) = n:=by rw [w64_s (by omega) (by omega),hn]
 refine .tot (P:=fun r=>0 ≤ r.2 ∧ r.2 ≤ m + 1 + 140 ∧ (r.1.length : Int) + 1 = n ∧ ∀ q ∈ r.1,QOk n q) (.iter (fun s=>0 ≤ s.2.1 ∧ s.2.1 + 1 ≤ n ∧ 0 ≤ s.2.2 ∧ s.2.2 ≤ m + 1 + 10 * s.2.1 ∧ (s.1.length : Int) = s.2.1 ∧ ∀ q ∈ s.1,QOk n q) (fun s=>(n - s.2.1).toNat) ⟨by simp,by simp only; omega,h1,by simp only; omega,by simp,by simp⟩ fun s hs=>?_) fun r hr=>?_
 ·obtain ⟨out,i,q⟩:=s
  obtain ⟨g0,g1,g2,g3,g4,g5⟩:=hs
  simp only at g0 g1 g2 g3 g4 g5
  unfold f83
  dsimp only
  rw [hw,w64_up g0 (by omega)]
  refine .sel (fun h=>?_) fun h=>.inr (show 0 ≤ q ∧ q ≤ m + 1 + 140 ∧ (out.length : Int) + 1 = n ∧ ∀ q ∈ out,QOk n q from ?_)
  ·simp only [decide_eq_true_eq] at h
   refine .bind (quad_dr hb (by omega) (by omega) g2 g3 (by omega)) fun y hy=>.bind (.app (l:=out) (by simp; omega)) fun r hr=>.inl ?_
   subst hr
   refine ⟨⟨by simp only; omega,by simp only; omega,hy.1,by have:=hy.2.1; simp only; omega,by simp; omega,fun z hz=>?_⟩,by simp only; omega⟩
   simp only [List.mem_append,List.mem_singleton] at hz
   rcases hz with hz | rfl
   ·exact g5 z hz
   ·exact hy.2.2
  ·simp only [decide_eq_false_iff_not] at h
   exact ⟨g2,by omega,by omega,g5⟩
 ·obtain ⟨out,q⟩:=r
  obtain ⟨k0,k1,k2,k3⟩:=hr
  simp only at k0 k1 k2 k3
  have fin : ∀ z : Quad,QOk n z → (z.Op = 10 ∨ z.Op = 4) → COk (out ++ [z]) ∧ (out ++ [z]).length ≤ 14:=fun z hz ho=>⟨⟨by simp,by simp; omega,fun y hy=>by
   have e : (((out ++ [z]).length : Nat) : Int) = n:=by simp; omega
   rw [e]
   simp only [List.mem_append,List.mem_singleton] at hy
   rcases hy with hy | rfl
   ·exact k3 y hy
   ·exact hz,⟨z,List.getLast?_concat,ho⟩⟩,by simp; omega⟩
  refine .bind (pick_dr hb k0 k1 (by omega) (by omega) (by omega)) fun y p2 hy h3 h4=>.sel (fun _=>?_) fun _=>?_
  ·dsimp only
   rw [hw]
   refine .bind (pick_dr hb h3 h4 (by omega) (by omega) (by omega)) fun z p3 hz h5 h6=>.tot (.app (by simp; omega)) fun r hr=>.pure ?_ h5 (by omega)
   subst hr
   exact fin _ (.inr (.inr (.inr (.inl ⟨rfl,rfl,rfl,rfl,hz.1,hz.2⟩)))) (.inr rfl)
  ·refine .tot (.app (by simp; omega)) fun r hr=>.pure ?_ h3 (by omega)
   subst hr
   exact fin _ (.inr (.inr (.inr (.inr (.inr (.inr (.inr (.inr ⟨.inr rfl,rfl,rfl,rfl,rfl⟩)))))))) (.inl rfl)
theorem good_dr (hb : By b) {k : Nat} (hk : 20 ≤ k) (h0 : 0 ≤ p) (hm : p ≤ m) (hp : m ≤ 900000) : Dr (f75 k ⟨b,p⟩) (m + 50000) fun c=>COk c ∧ c.length ≤ 40:=by
 unfold f75
 refine .bind (pick_dr hb h0 hm (by omega) (by omega) (by omega)) fun x p1 hx h1 h2=>.sel (fun _=>.bind (random_dr hb h1 h2 (by omega)) fun c p2 hc h3 h4=>.pure ⟨hc.1,by have:=hc.2; simp only; omega⟩ h3 (by omega)) fun _=>.bind (stmts_dr hb (by omega) hk h1 h2 (by omega)) fun l p2 hl h3 h4=>.tot (compile_tot hk hl) fun r hr=>.sel (fun _=>.bind (random_dr hb h3 h4 (by omega)) fun c p2 hc h3 h4=>.pure ⟨hc.1,by have:=hc.2; simp only; omega⟩ h3 (by omega)) fun hle=>.bind (pick_dr hb h3 h4 (by omega) (by omega) (by omega)) fun t p3 ht h5 h6=>?_
 simp only [decide_eq_false_iff_not] at hle
 have h01 : 0 ≤ Int.tdiv t 2 ∧ Int.tdiv t 2 ≤ 1:=by
  rcases (show t = 0 ∨ t = 1 ∨ t = 2 by omega) with rfl | rfl | rfl <;> decide
 dsimp only
 rw [w64_s (by omega) (by omega)]
 exact .tot (optimize_tot hr.2 h01.1 (by omega)) fun o ho=>.pure ⟨ho.1,by have:=ho.2.2; omega⟩ h5 (by omega)
end Go.Proofs.YtmpplggjpmmhlaaGreatDoor.N
namespace Go.Proofs.YtmpplggjpmmhlaaGreatDoor.N
open Go.Proofs.YtmpplggjpmmhlaaGreatDoor.X
theorem iword_eq (n : Int) : f1i n = some (decide (Wd n)):=by
 unfold f1i
 congr 1
 unfold Wd
 by_cases h1 : -2147483648 ≤ n <;> by_cases h2 : n ≤ 2147483647 <;> simp [h1,h2]
theorem pow_eq {n : Nat} (h : n ≤ 32) : f0z (n : Int) = some ((2 ^ n : Nat) : Int):=by
 refine Tot.eq ?_
 unfold f0z
 refine .bind (P:=fun r=>r = ((2 ^ n : Nat) : Int)) (.iter (fun s=>0 ≤ s.2 ∧ s.2 ≤ (n : Int) ∧ s.1 = ((2 ^ s.2.toNat : Nat) : Int)) (fun s=>((n : Int) - s.2).toNat) ⟨by simp,by simp,rfl⟩ fun s hs=>?_) fun r hr=>.pure hr
 obtain ⟨c,i⟩:=s
 obtain ⟨g0,g1,g2⟩:=hs
 simp only at g0 g1 g2
 unfold f3f
 refine .sel (fun h=>.inl ?_) fun h=>.inr (show c = _ from ?_)
 ·simp only [decide_eq_true_eq] at h
  have hp : 2 ^ i.toNat ≤ 2 ^ 32:=Nat.pow_le_pow_right (by omega) (by omega)
  have h32 : (2 : Nat) ^ 32 = 4294967296:=by decide
  have e : 2 ^ (i + 1).toNat = 2 ^ i.toNat * 2:=by rw [show (i + 1).toNat = i.toNat + 1 by omega,Nat.pow_succ]
  dsimp only
  rw [w64_up g0 (by omega),w64_s (by omega) (by omega)]
  exact ⟨⟨by omega,by omega,by rw [e,g2]; omega⟩,by omega⟩
 ·simp only [decide_eq_false_iff_not] at h
  rw [g2,show i = (n : Int) by omega]; rfl
theorem sbits_eq {u : Int} (h0 : 0 ≤ u) (h1 : u ≤ 4294967295) {lo n : Nat} (hn : 1 ≤ n) (h : lo + n ≤ 32) : f06 u lo n = some (u / ((2 ^ lo : Nat) : Int) % ((2 ^ n : Nat) : Int)):=by
 unfold f06
 have e1 : (decide ((0 : Int) ≤ (lo : Int)) && decide ((lo : Int) ≤ 31)) = true:=by simp; omega
 have e2 : (decide ((0 : Int) ≤ u) && decide (u ≤ 4294967295)) = true:=by simp; omega
 rw [in_eq,e2,Option.bind_some,Bool.not_true,sel_false rfl,in_eq,e1]
 simp only [Option.bind_some,Bool.not_true]
 rw [sel_false rfl,w64_s (by omega) (by omega),in_eq]
 have e3 : (decide ((1 : Int) ≤ (n : Int)) && decide ((n : Int) ≤ 32 - (lo : Int))) = true:=by simp; omega
 rw [e3]
 simp only [Option.bind_some,Bool.not_true]
 rw [sel_false rfl,pow_eq (by omega),Option.bind_some]
 have p1 : 0 < 2 ^ lo:=Nat.two_pow_pos lo
 have p2 : 0 < 2 ^ n:=Nat.two_pow_pos n
 obtain ⟨k,rfl⟩:=Int.eq_ofNat_of_zero_le h0
 have hk : k / 2 ^ lo ≤ k:=Nat.div_le_self _ _
 have hq : quoO .i64 (k : Int) ((2 ^ lo : Nat) : Int) = some ((k / 2 ^ lo : Nat) : Int):=by
  unfold quoO
  rw [if_neg (by omega)]
  congr 1
  have hx : ∀ x : Nat,x ≤ k → w64 (x : Int) = x:=fun x hx=>w64_s (by omega) (by omega)
  exact hx _ hk
 rw [hq,Option.bind_some,pow_eq (by omega),Option.bind_some]
 unfold remO
 rw [if_neg (by omega)]
 simp only [Option.bind_some]
 rfl
theorem ibits_eq {u : Int} (h0 : 0 ≤ u) (h1 : u ≤ 4294967295) {lo n : Nat} (hn : 1 ≤ n) (h : lo + n ≤ 32) : f0f u lo n = some (u / ((2 ^ lo : Nat) : Int) % ((2 ^ n : Nat) : Int)):=by
 unfold f0f f2g
 rw [Option.bind_some,w64_s (by omega) (by omega),sel_false (by simp; omega)]
 obtain ⟨k,rfl⟩:=Int.eq_ofNat_of_zero_le h0
 have p1 : (2 : Nat) ^ n ≤ 2 ^ 32:=Nat.pow_le_pow_right (by omega) (by omega)
 have h32 : (2 : Nat) ^ 32 = 4294967296:=by decide
 have p2 : 0 < 2 ^ n:=Nat.two_pow_pos n
 have hk : k / 2 ^ lo ≤ k:=Nat.div_le_self _ _
 rw [shr_nat (by omega),Option.bind_some]
 have hs:=shl_nat (x:=1) (k:=n) (by omega) (by omega)
 rw [Nat.one_mul] at hs
 rw [show ((1 : Nat) : Int) = 1 from rfl] at hs
 rw [hs,Option.bind_some,w64_s (by omega) (by omega),mask_nat (by omega) (by omega)]
 rfl
theorem unsigned_eq {n : Int} (h : Wd n) : f2o n = some (n % 4294967296) ∧ f0y n = some (n % 4294967296):=by
 unfold f2o f0y
 rw [word_eq,iword_eq,decide_eq_true h]
 simp only [Option.bind_some,Bool.not_true]
 rw [sel_false rfl,sel_false rfl]
 have hu : kwrap .u32 n = n % 4294967296:=by
  rw [kwrap_eq]
  simp [IntKind.wrap,IntKind.signed,IntKind.bits]
 unfold Wd at h
 rw [hu,w64_s (i:=n % 4294967296) (by omega) (by omega)]
 refine ⟨?_,rfl⟩
 refine Tot.eq (.sel (fun h'=>.pure ?_) fun h'=>.pure ?_)
 ·simp only [decide_eq_true_eq] at h'
  rw [w64_s (by omega) (by omega)]; omega
 ·simp only [decide_eq_false_iff_not] at h'
  omega
theorem swrap_eq {n : Int} : f1l n = some (if 2147483648 ≤ n % 4294967296 then n % 4294967296 - 4294967296 else n % 4294967296):=by
 refine Tot.eq ?_
 unfold f1l
 have hm : n.tmod 4294967296 = if 0 ≤ n ∨ n % 4294967296 = 0 then n % 4294967296 else n % 4294967296 - 4294967296:=by
  rw [Int.tmod_eq_emod]
  simp only [Int.dvd_iff_emod_eq_zero]
  split <;> simp
 rw [hm]
 refine .sel (fun h=>.pure ?_) fun h=>.sel (fun h'=>.pure ?_) fun h'=>.pure ?_
 all_goals simp only [decide_eq_true_eq,decide_eq_false_iff_not] at *
 ·rw [w64_s (by split <;> omega) (by split <;> omega)]; split <;> split <;> split at h <;> omega
 ·rw [w64_s (by split <;> omega) (by split <;> omega)]; split <;> split <;> split at h' <;> omega
 ·split <;> split <;> omega
theorem sext_eq {x : Int} (h0 : 0 ≤ x) (h1 : x < 4096) : f11 x 12 = some (if 2048 ≤ x then x - 4096 else x) ∧ f1c x 12 = some (if 2048 ≤ x then x - 4096 else x):=by
 have e12 : f0z 12 = some 4096:=pow_eq (n:=12) (by omega)
 have e11 : f0z 11 = some 2048:=pow_eq (n:=11) (by omega)
 have s12 : shO .shl .i64 1 12 = some 4096:=by decide
 have s11 : shO .shl .i64 1 11 = some 2048:=by decide
 have w12 : w64 (12 - 1) = 11:=by decide
 have w13 : w64 (4096 - 1) = 4095:=by decide
 constructor
 ·unfold f11
  simp only [in_eq,e12,w12,e11,Option.bind_some,w13]
  rw [sel_false (b:=!_) (by decide)]
  simp only [Option.bind_some]
  rw [sel_false (by simp; omega)]
  refine Tot.eq (.sel (fun h=>.pure ?_) fun h=>.pure ?_)
  ·simp at h; rw [if_pos h,w64_s (by omega) (by omega)]
  ·simp at h; rw [if_neg (by omega)]
 ·unfold f1c
  simp only [s12,w12,s11,Option.bind_some]
  rw [sel_false (b:=_ || _) (by simp; omega)]
  simp only [Option.bind_some]
  rw [sel_false (by simp; omega)]
  refine Tot.eq (.sel (fun h=>.pure ?_) fun h=>.pure ?_)
  ·simp at h; rw [if_pos h,w64_s (by omega) (by omega)]
  ·simp at h; rw [if_neg (by omega)]
def lo12 (n : Int) : Int:=if 2048 ≤ n % 4096 then n % 4096 - 4096 else n % 4096
def hi20 (n : Int) : Int:=(n - lo12 n) % 4294967296 / 4096
def constL (rd n : Int) : List Instr:=if -2048 ≤ n ∧ n ≤ 2047 then [⟨12,rd,0,0,n⟩] else [⟨19,rd,0,0,hi20 n⟩,⟨12,rd,rd,0,lo12 n⟩]
theorem const_eq {rd n : Int} (h : Wd n) : f62 rd n = some (constL rd n):=by
 have hu:=unsigned_eq h
 have hb1 : ∀ {u : Int},0 ≤ u → u ≤ 4294967295 → f06 u 0 12 = some (u % 4096) ∧ f0f u 0 12 = some (u % 4096):=fun h0 h1=>by
  have a:=sbits_eq h0 h1 (lo:=0) (n:=12) (by omega) (by omega)
  have b:=ibits_eq h0 h1 (lo:=0) (n:=12) (by omega) (by omega)
  simp at a b
  exact ⟨a,b⟩
 have hb2 : ∀ {u : Int},0 ≤ u → u ≤ 4294967295 → f06 u 12 20 = some (u / 4096 % 1048576) ∧ f0f u 12 20 = some (u / 4096 % 1048576):=fun h0 h1=>by
  have a:=sbits_eq h0 h1 (lo:=12) (n:=20) (by omega) (by omega)
  have b:=ibits_eq h0 h1 (lo:=12) (n:=20) (by omega) (by omega)
  simp at a b
  exact ⟨a,b⟩
 have hw:=h
 unfold Wd at hw
 have e0 : n % 4294967296 % 4096 = n % 4096:=by omega
 have hl : -2048 ≤ lo12 n ∧ lo12 n ≤ 2047:=by unfold lo12; split <;> omega
 have hwd : ∀ m : Int,Wd (if 2147483648 ≤ m % 4294967296 then m % 4294967296 - 4294967296 else m % 4294967296):=fun m=>by unfold Wd; split <;> omega
 have e1 : ∀ m : Int,(if 2147483648 ≤ m % 4294967296 then m % 4294967296 - 4294967296 else m % 4294967296) % 4294967296 = m % 4294967296:=fun m=>by split <;> omega
 have e2 : (n - lo12 n) % 4294967296 / 4096 % 1048576 = hi20 n:=by unfold hi20; omega
 ·unfold f62 constL
  rw [in_eq,Option.bind_some]
  refine Tot.eq (.sel (fun h=>.pure ?_) fun h=>?_)
  ·simp at h; rw [if_pos h]
  ·rw [if_neg (by simp at h; omega),hu.1,Option.bind_some,(hb1 (by omega) (by omega)).1,Option.bind_some,(sext_eq (by omega) (by omega)).1,Option.bind_some,e0]
   rw [show (if 2048 ≤ n % 4096 then n % 4096 - 4096 else n % 4096) = lo12 n from rfl,w64_s (by omega) (by omega),swrap_eq,Option.bind_some,(unsigned_eq (hwd _)).1,Option.bind_some,e1,(hb2 (by omega) (by omega)).1,Option.bind_some,e2]
   refine .bind (.app (by simp)) fun r hr=>.pure ?_
   subst hr; rfl
end Go.Proofs.YtmpplggjpmmhlaaGreatDoor.N
namespace Go.Proofs.YtmpplggjpmmhlaaGreatDoor.N
open Go.Proofs.YtmpplggjpmmhlaaGreatDoor.X
def binInstrs : List Int:=[7,8,6,8,11,9,10,1,2,3,4,5]
def colorRegs : List Int:=[8,9,18,19,20,21,22,23]
def rgOf (c p s : Int) : Int:=if p < c then (colorRegs[p.toNat]?).getD 0 else s
def rdL (c p s : Int) : List Instr:=if p < c then [] else [⟨14,s,2,0,4 * (p - c)⟩]
def wrL (c p : Int) : List Instr:=if p < c then [] else [⟨16,0,2,7,4 * (p - c)⟩]
def callL (n : Int) : List Instr:=[⟨12,17,0,0,n⟩,⟨15,1,0,0,0⟩]
def opOf (n : Int) : Int:=(binInstrs[(n - 1).toNat]?).getD 0
def quadL (q : Quad) (c off : Int) : List Instr:=
 if q.Op = 1 then constL (rgOf c q.Dst 7) q.N ++ wrL c q.Dst
 else if q.Op = 2 then rdL c q.A 5 ++ [⟨12,rgOf c q.Dst 7,rgOf c q.A 5,0,0⟩] ++ wrL c q.Dst
 else if q.Op = 3 then rdL c q.A 5 ++ rdL c q.B 6 ++ [⟨opOf q.N,rgOf c q.Dst 7,rgOf c q.A 5,rgOf c q.B 6,0⟩] ++ (if q.N = 4 then [⟨13,rgOf c q.Dst 7,rgOf c q.Dst 7,0,1⟩] else []) ++ wrL c q.Dst
 else if q.Op = 4 then [⟨20,0,0,0,off⟩]
 else if q.Op = 5 then rdL c q.A 5 ++ [⟨18,0,rgOf c q.A 5,0,8⟩] ++ [⟨20,0,0,0,off - 4 * ((rdL c q.A 5).length + 1)⟩]
 else if q.Op = 6 then rdL c q.A 5 ++ [⟨12,10,rgOf c q.A 5,0,0⟩,⟨12,11,0,0,q.N⟩] ++ callL 1
 else if q.Op = 7 then [⟨12,11,0,0,q.N⟩] ++ callL 2 ++ [⟨12,rgOf c q.Dst 7,10,0,0⟩] ++ wrL c q.Dst
 else if q.Op = 8 then callL 3
 else if q.Op = 9 then rdL c q.A 5 ++ [⟨12,10,rgOf c q.A 5,0,0⟩] ++ callL 4
 else callL 5
theorem rd_len (c p s : Int) : (rdL c p s).length ≤ 1:=by unfold rdL; split <;> simp
theorem wr_len (c p : Int) : (wrL c p).length ≤ 1:=by unfold wrL; split <;> simp
theorem const_len (r n : Int) : 1 ≤ (constL r n).length ∧ (constL r n).length ≤ 2:=by unfold constL; split <;> simp
theorem sreg_eq {c p s : Int} (hc : 1 ≤ c ∧ c ≤ 8) (hp : Rg p) : f20 p c s = some (rgOf c p s):=by
 refine Tot.eq ?_
 unfold f20 rgOf Rg at *
 refine .sel (fun h=>.pure (by simp at h; rw [if_neg (by omega)])) fun h=>?_
 simp at h
 refine .bind (.nth (by omega) (by simp; omega)) fun x ⟨hx,_⟩=>.pure ?_
 rw [if_pos h]
 show x = ((colorRegs[p.toNat]?).getD 0)
 unfold colorRegs
 rw [hx]; rfl
theorem sread_eq {c p s : Int} (hc : 1 ≤ c ∧ c ≤ 8) (hp : Rg p) : f2c p c s = some (rdL c p s):=by
 refine Tot.eq ?_
 unfold f2c rdL Rg at *
 refine .sel (fun h=>.pure (by simp at h; rw [if_pos h])) fun h=>.pure ?_
 simp at h
 rw [if_neg (by omega),w64_s (i:=p - c) (by omega) (by omega),w64_s (by omega) (by omega)]
theorem swrite_eq {c p : Int} (hc : 1 ≤ c ∧ c ≤ 8) (hp : Rg p) {l : List Instr} (hl : l.length ≤ 1000) : f2q l p c = some (l ++ wrL c p):=by
 refine Tot.eq ?_
 unfold f2q wrL Rg at *
 refine .sel (fun h=>.pure (by simp at h; rw [if_pos h,List.append_nil])) fun h=>?_
 simp at h
 rw [if_neg (by omega),w64_s (i:=p - c) (by omega) (by omega),w64_s (by omega) (by omega)]
 exact .bind (.app (by simp; omega)) fun r hr=>.pure hr
theorem scall_eq {n : Int} {l : List Instr} (hl : l.length ≤ 1000) : f2j l n = some (l ++ callL n):=by
 refine Tot.eq ?_
 unfold f2j
 refine .bind (.app (by simp; omega)) fun r hr=>.bind (.app (by subst hr; simp; omega)) fun r2 hr2=>.pure ?_
 subst hr hr2; simp [callL]
theorem opnth {n : Int} (h : 1 ≤ n ∧ n ≤ 12) : nth binInstrs (w64 (n - 1)) = some (opOf n):=by
 rw [w64_s (by omega) (by omega)]
 refine (Tot.nth (l:=binInstrs) (i:=n - 1) (by omega) (by simp [binInstrs]; omega)).mono (Q:=fun x=>x = opOf n) (fun x ⟨hx,_⟩=>?_) |>.eq
 unfold opOf; rw [hx]; rfl
theorem sop_eq {n : Int} (h : 1 ≤ n ∧ n ≤ 12) : f92 n = some (opOf n):=by
 unfold f92
 have:=opnth h
 unfold binInstrs at this
 rw [this]; rfl
theorem sgive_eq {c p : Int} (hc : 1 ≤ c ∧ c ≤ 8) (hp : Rg p) : f5f p c = some (rdL c p 5 ++ [⟨12,10,rgOf c p 5,0,0⟩]):=by
 refine Tot.eq ?_
 unfold f5f f35
 rw [sread_eq hc hp,sreg_eq hc hp]
 simp only [Option.bind_some]
 have:=rd_len c p 5
 exact .bind (.app (by simp; omega)) fun r hr=>.pure hr
theorem squad_eq {q : Quad} {m c off : Int} (hq : QOk m q) (hc : 1 ≤ c ∧ c ≤ 8) (ho : -1000000 ≤ off ∧ off ≤ 1000000) : f5c q c off = some (quadL q c off):=by
 have hd : Rg q.Dst:=by unfold QOk at hq; unfold Rg at *; omega
 have l1:=rd_len c q.A 5
 have l2:=rd_len c q.B 6
 refine Tot.eq ?_
 unfold f5c quadL
 rw [sreg_eq hc hd,Option.bind_some]
 refine .sel (fun h=>?_) fun h1=>.sel (fun h=>?_) fun h2=>.sel (fun h=>?_) fun h3=>.sel (fun h=>?_) fun h4=>.sel (fun h=>?_) fun h5=>.sel (fun h=>?_) fun h6=>.sel (fun h=>?_) fun h7=>.sel (fun h=>?_) fun h8=>.sel (fun h=>?_) fun h9=>?_
 all_goals
  simp only [beq_iff_eq,beq_eq_false_iff_ne,ne_eq] at *
  unfold QOk at hq
 ·simp [h] at hq
  have:=const_len (rgOf c q.Dst 7) q.N
  rw [if_pos h,const_eq hq.2.2.2,Option.bind_some,swrite_eq hc hd (by omega)]; exact .pure rfl
 ·simp [h] at hq
  rw [if_neg h1,if_pos h,sread_eq hc hq.2.1,sreg_eq hc hq.2.1]
  simp only [Option.bind_some,f35]
  refine .bind (.app (by simp; omega)) fun r hr=>?_
  rw [swrite_eq hc hd (by subst hr; simp; omega),hr]; exact .pure rfl
 ·simp [h] at hq
  rw [if_neg h1,if_neg h2,if_pos h]
  refine .bind (P:=fun r=>r = _) ?_ fun r hr=>.pure hr
  unfold f9t
  rw [sread_eq hc hq.2.1,sread_eq hc hq.2.2.1,sreg_eq hc hq.2.1,sreg_eq hc hq.2.2.1,sreg_eq hc hd,sop_eq hq.2.2.2]
  simp only [Option.bind_some]
  refine .bind (.app (by omega)) fun r hr=>.bind (.app (by subst hr; simp; omega)) fun r2 hr2=>?_
  have e2 : r2.length ≤ 3:=by subst hr hr2; simp; omega
  refine .bind (P:=fun y=>y = r2 ++ (if q.N = 4 then [⟨13,rgOf c q.Dst 7,rgOf c q.Dst 7,0,1⟩] else []) ∧ y.length ≤ 4) (.sel (fun h=>.bind (.app (by simp; omega)) fun r3 hr3=>.pure ?_) fun h=>.pure ?_) fun y ⟨hy,hyl⟩=>?_
  ·simp at h; rw [if_pos h,hr3]; exact ⟨rfl,by simp; omega⟩
  ·simp at h; rw [if_neg h,List.append_nil]; exact ⟨rfl,by omega⟩
  ·rw [swrite_eq hc hd (by omega),hy,hr2,hr]
   exact .pure (by simp)
 ·rw [if_neg h1,if_neg h2,if_neg h3,if_pos h]; exact .pure rfl
 ·simp [h] at hq
  rw [if_neg h1,if_neg h2,if_neg h3,if_neg h4,if_pos h]
  refine .bind (P:=fun r=>r = _) ?_ fun r hr=>.pure hr
  unfold f98
  rw [sread_eq hc hq.2.1,sreg_eq hc hq.2.1]
  simp only [Option.bind_some]
  refine .bind (.app (by simp; omega)) fun r hr=>?_
  have e1 : r.length = (rdL c q.A 5).length + 1:=by subst hr; simp
  rw [w64_s (i:=4 * (r.length : Int)) (by omega) (by omega),w64_s (by omega) (by omega)]
  refine .bind (.app (by simp; omega)) fun r2 hr2=>.pure ?_
  rw [hr2,e1,hr]; simp
 ·simp [h] at hq
  rw [if_neg h1,if_neg h2,if_neg h3,if_neg h4,if_neg h5,if_pos h,sgive_eq hc hq.2.1]
  simp only [Option.bind_some,f6k]
  refine .bind (.app (by simp; omega)) fun r hr=>?_
  rw [scall_eq (by subst hr; simp; omega),hr]; exact .pure (by simp)
 ·simp [h] at hq
  rw [if_neg h1,if_neg h2,if_neg h3,if_neg h4,if_neg h5,if_neg h6,if_pos h]
  simp only [Option.bind_some,f6k,f35]
  rw [scall_eq (by simp),Option.bind_some]
  refine .bind (.app (by simp [callL])) fun r hr=>?_
  rw [swrite_eq hc hd (by subst hr; simp [callL]),hr]; exact .pure (by simp)
 ·rw [if_neg h1,if_neg h2,if_neg h3,if_neg h4,if_neg h5,if_neg h6,if_neg h7,if_pos h,scall_eq (by simp)]; exact .pure (by simp)
 ·simp [h] at hq
  rw [if_neg h1,if_neg h2,if_neg h3,if_neg h4,if_neg h5,if_neg h6,if_neg h7,if_neg h8,if_pos h,sgive_eq hc hq.2.1,Option.bind_some,scall_eq (by simp; omega)]; exact .pure (by simp)
 ·rw [if_neg h1,if_neg h2,if_neg h3,if_neg h4,if_neg h5,if_neg h6,if_neg h7,if_neg h8,if_neg h9,scall_eq (by simp)]; exact .pure (by simp)
theorem quadL_len (q : Quad) (c off : Int) : 1 ≤ (quadL q c off).length ∧ (quadL q c off).length ≤ 6 ∧ (quadL q c off).length = (quadL q c 0).length:=by
 have l1:=rd_len c q.A 5
 have l2:=rd_len c q.B 6
 have l3:=wr_len c q.Dst
 have l4:=const_len (rgOf c q.Dst 7) q.N
 unfold quadL callL
 split
 ·simp; omega
 split
 ·simp; omega
 split
 ·split <;> simp <;> omega
 split
 ·simp
 split
 ·simp; omega
 split
 ·simp; omega
 split
 ·simp; omega
 split
 ·simp
 split
 ·simp; omega
 ·simp
end Go.Proofs.YtmpplggjpmmhlaaGreatDoor.N
namespace Go.Proofs.YtmpplggjpmmhlaaGreatDoor.N
open Go.Proofs.YtmpplggjpmmhlaaGreatDoor.X
def qAt (code : List Quad) (i : Nat) : Quad:=(code[i]?).getD ⟨0,0,0,0,0⟩
theorem qAt_of {code : List Quad} {i : Nat} {q : Quad} (h : code[i]? = some q) : qAt code i = q:=by unfold qAt; rw [h]; rfl
def pl (code : List Quad) (c : Int) : Nat → Nat
 | 0=>0
 | i + 1=>pl code c i + (quadL (qAt code i) c 0).length
def offL (code : List Quad) (c : Int) (i : Nat) : Int:=if (qAt code i).Op = 4 ∨ (qAt code i).Op = 5 then 4 * ((pl code c (qAt code i).N.toNat : Int) - pl code c i) else 0
def blk (code : List Quad) (c : Int) (i : Nat) : List Instr:=quadL (qAt code i) c (offL code c i)
def tk (code : List Quad) (c : Int) : Nat → List Instr
 | 0=>[]
 | i + 1=>tk code c i ++ blk code c i
def plL (code : List Quad) (c : Int) (n : Nat) : List Int:=(List.range n).map fun i=>(pl code c i : Int)
theorem pl_le (code : List Quad) (c : Int) : ∀ i,pl code c i ≤ 6 * i
 | 0=>Nat.le_refl _
 | i + 1=>by have:=pl_le code c i; have:=(quadL_len (qAt code i) c 0).2.1; simp only [pl]; omega
theorem tk_len (code : List Quad) (c : Int) : ∀ i,(tk code c i).length = pl code c i
 | 0=>rfl
 | i + 1=>by simp only [tk,pl,List.length_append,tk_len code c i,blk,(quadL_len (qAt code i) c (offL code c i)).2.2]
theorem plL_get {code : List Quad} {c : Int} {n i : Nat} (h : i < n) : (plL code c n)[i]? = some (pl code c i : Int):=by simp [plL,h]
theorem plL_len (code : List Quad) (c : Int) (n : Nat) : (plL code c n).length = n:=by simp [plL]
theorem plL_nth {code : List Quad} {c : Int} {n : Nat} {i : Int} (h0 : 0 ≤ i) (h : i < n) : nth (plL code c n) i = some (pl code c i.toNat : Int):=by
 refine (Tot.nth (l:=plL code c n) h0 (by rw [plL_len]; exact h)).mono (Q:=fun x=>x = (pl code c i.toNat : Int)) (fun x ⟨hx,_⟩=>?_) |>.eq
 rw [plL_get (by omega)] at hx
 injection hx with hx
 exact hx.symm
theorem plL_succ (code : List Quad) (c : Int) (n : Nat) : plL code c (n + 1) = plL code c n ++ [(pl code c n : Int)]:=by simp [plL,List.range_succ]
theorem COk.at {code : List Quad} (hc : COk code) {i : Int} (h0 : 0 ≤ i) (h1 : i < code.length) : ∃ q,nth code i = some q ∧ qAt code i.toNat = q ∧ QOk code.length q:=by
 obtain ⟨q,e,h2,h3⟩:=Tot.nth (l:=code) h0 h1
 exact ⟨q,e,qAt_of h2,hc.q q h3⟩
theorem splaces_eq {code : List Quad} (hc : COk code) {c : Int} (h : 1 ≤ c ∧ c ≤ 8) : f57 code c = some (plL code c code.length):=by
 have hmx:=hc.max
 refine Tot.eq ?_
 unfold f57
 refine .bind (P:=fun r=>r = plL code c code.length) (.iter (fun s=>0 ≤ s.2.2 ∧ s.2.2 ≤ (code.length : Int) ∧ s.1 = plL code c s.2.2.toNat ∧ s.2.1 = (pl code c s.2.2.toNat : Int)) (fun s=>((code.length : Int) - s.2.2).toNat) ⟨by simp,by simp,rfl,rfl⟩ fun s hs=>?_) fun r hr=>.pure hr
 obtain ⟨out,a,i⟩:=s
 obtain ⟨g0,g1,g2,g3⟩:=hs
 simp only at g0 g1 g2 g3
 unfold f7t
 refine .sel (fun hlt=>?_) fun hge=>.inr (show out = _ from ?_)
 ·simp only [decide_eq_true_eq] at hlt
  obtain ⟨q,e1,e2,hq⟩:=hc.at g0 hlt
  have hl:=plL_len code c i.toNat
  have h6:=pl_le code c i.toNat
  have hql:=(quadL_len q c 0).2.1
  refine .bind (.app (by subst g2; simp; omega)) fun r hr=>?_
  dsimp only
  rw [e1,Option.bind_some,squad_eq hq h (by omega),Option.bind_some,w64_up g0 (by omega),w64_s (by omega) (by omega)]
  have e3 : (i + 1).toNat = i.toNat + 1:=by omega
  refine .inl ⟨⟨by simp only; omega,by simp only; omega,?_,?_⟩,by simp only; omega⟩
  ·simp only; rw [e3,plL_succ,hr,g2,g3]
  ·simp only; rw [e3,pl,e2,g3]; simp
 ·simp only [decide_eq_false_iff_not] at hge
  rw [g2,show i.toNat = code.length by omega]
theorem off_small {code : List Quad} (hc : COk code) {c : Int} {i : Nat} (hi : i < code.length) : -1000000 ≤ offL code c i ∧ offL code c i ≤ 1000000:=by
 have hmx:=hc.max
 have hq:=hc.q _ (List.mem_of_getElem? (List.getElem?_eq_getElem hi))
 have e : qAt code i = code[i]:=qAt_of (List.getElem?_eq_getElem hi)
 unfold offL
 rw [e]
 split
 ·rename_i h
  have hN : 0 ≤ (code[i]).N ∧ (code[i]).N < code.length:=by unfold QOk at hq; rcases h with h | h <;> simp [h] at hq <;> omega
  have h1:=pl_le code c (code[i]).N.toNat
  have h2:=pl_le code c i
  omega
 ·omega
theorem stask_eq {code : List Quad} (hc : COk code) {c : Int} (h : 1 ≤ c ∧ c ≤ 8) : f7g code c = some (tk code c code.length):=by
 have hmx:=hc.max
 refine Tot.eq ?_
 unfold f7g
 rw [splaces_eq hc h,Option.bind_some]
 refine .bind (P:=fun r=>r = tk code c code.length) (.iter (fun s=>0 ≤ s.2 ∧ s.2 ≤ (code.length : Int) ∧ s.1 = tk code c s.2.toNat) (fun s=>((code.length : Int) - s.2).toNat) ⟨by simp,by simp,rfl⟩ fun s hs=>?_) fun r hr=>.pure hr
 obtain ⟨out,i⟩:=s
 obtain ⟨g0,g1,g2⟩:=hs
 simp only at g0 g1 g2
 unfold f9g
 refine .sel (fun hlt=>?_) fun hge=>.inr (show out = _ from ?_)
 ·simp only [decide_eq_true_eq] at hlt
  obtain ⟨q,e1,e2,hq⟩:=hc.at g0 hlt
  have h6:=pl_le code c i.toNat
  have hql:=(quadL_len q c (offL code c i.toNat)).2.1
  have hof:=off_small hc (c:=c) (i:=i.toNat) (by omega)
  dsimp only
  rw [e1]
  simp only [Option.bind_some]
  refine .bind (P:=fun y=>y = offL code c i.toNat) (.bind (P:=fun b=>b = true ↔ (q.Op = 4 ∨ q.Op = 5)) (.sel (fun h=>.pure ?_) fun h=>.pure ?_) fun b hb=>.sel (fun h=>?_) fun h=>.pure ?_) fun y hy=>?_
  ·simp at h; simp [h]
  ·simp at h; simp [h]
  ·have ho:=hb.1 h
   have hN : 0 ≤ q.N ∧ q.N < code.length:=by unfold QOk at hq; rcases ho with h | h <;> simp [h] at hq <;> omega
   have h7:=pl_le code c q.N.toNat
   rw [plL_nth hN.1 hN.2,plL_nth g0 hlt,Option.bind_some,Option.bind_some,w64_s (i:=_ - _) (by omega) (by omega),w64_s (by omega) (by omega)]
   unfold offL
   rw [e2,if_pos ho]; exact .pure rfl
  ·unfold offL; rw [e2,if_neg (fun hh=>by rw [hb.2 hh] at h; cases h)]
  ·subst hy
   rw [squad_eq hq h hof,Option.bind_some]
   refine .bind (.app (by subst g2; rw [tk_len]; omega)) fun r hr=>.inl ?_
   rw [w64_up g0 (by omega)]
   refine ⟨⟨by simp only; omega,by simp only; omega,?_⟩,by simp only; omega⟩
   simp only
   rw [show (i + 1).toNat = i.toNat + 1 by omega,tk,hr,g2,blk,e2]
 ·simp only [decide_eq_false_iff_not] at hge
  rw [g2,show i.toNat = code.length by omega]
theorem bytes_wf {l : List Int} (h : ∀ x ∈ l,(fun n=>(Lit.int .u8 n).wf = true) x) : ∀ x ∈ l,0 ≤ x ∧ x ≤ 255:=fun x hx=>by
 have h1 : (Lit.int .u8 x).wf = true:=h x hx
 simp [Lit.wf,IntKind.min,IntKind.max,IntKind.signed,IntKind.bits] at h1
 omega
end Go.Proofs.YtmpplggjpmmhlaaGreatDoor.N
namespace Go.Proofs.YtmpplggjpmmhlaaGreatDoor.N
open Go.Proofs.YtmpplggjpmmhlaaGreatDoor.X
theorem rgOf_bd {c p s : Int} (hc : 1 ≤ c ∧ c ≤ 8) (hp : Rg p) (hs : 0 ≤ s ∧ s ≤ 31) : 0 ≤ rgOf c p s ∧ rgOf c p s ≤ 31:=by
 unfold rgOf
 split
 ·rename_i h
  unfold Rg at hp
  rcases (by omega : p = 0 ∨ p = 1 ∨ p = 2 ∨ p = 3 ∨ p = 4 ∨ p = 5 ∨ p = 6 ∨ p = 7) with rfl | rfl | rfl | rfl | rfl | rfl | rfl | rfl <;> decide
 ·exact hs
theorem opOf_bd {n : Int} (h : 1 ≤ n ∧ n ≤ 12) : 1 ≤ opOf n ∧ opOf n ≤ 11:=by
 rcases (by omega : n = 1 ∨ n = 2 ∨ n = 3 ∨ n = 4 ∨ n = 5 ∨ n = 6 ∨ n = 7 ∨ n = 8 ∨ n = 9 ∨ n = 10 ∨ n = 11 ∨ n = 12) with rfl | rfl | rfl | rfl | rfl | rfl | rfl | rfl | rfl | rfl | rfl | rfl <;> decide
def All (l : List Instr) : Prop:=∀ x ∈ l,IOk x
theorem All.nil : All []:=fun x h=>by cases h
theorem All.cons {x : Instr} {l : List Instr} (h : IOk x) (k : All l) : All (x :: l):=fun y hy=>by
 rcases List.mem_cons.1 hy with rfl | hy
 ·exact h
 ·exact k y hy
theorem All.app {l l' : List Instr} (h : All l) (k : All l') : All (l ++ l'):=fun y hy=>(List.mem_append.1 hy).elim (h y) (k y)
theorem q0 : (0 : Int) ≤ 0 ∧ (0 : Int) ≤ 31:=by decide
theorem q2 : (0 : Int) ≤ 2 ∧ (2 : Int) ≤ 31:=by decide
theorem q7 : (0 : Int) ≤ 7 ∧ (7 : Int) ≤ 31:=by decide
theorem io_addi {d s i : Int} (hd : 0 ≤ d ∧ d ≤ 31) (hs : 0 ≤ s ∧ s ≤ 31) (hi : -2048 ≤ i ∧ i ≤ 2047) {op : Int} (ho : 12 ≤ op ∧ op ≤ 15) : IOk ⟨op,d,s,0,i⟩:=⟨hd,hs,q0,.inr (.inl ⟨ho.1,ho.2,rfl,hi.1,hi.2⟩)⟩
theorem rdL_iok {c p s : Int} (hc : 1 ≤ c ∧ c ≤ 8) (hp : Rg p) (hs : 0 ≤ s ∧ s ≤ 31) : All (rdL c p s):=by
 unfold rdL Rg at *
 split
 ·exact .nil
 ·exact .cons (io_addi hs (by omega) (by omega) (by omega)) .nil
theorem wrL_iok {c p : Int} (hc : 1 ≤ c ∧ c ≤ 8) (hp : Rg p) : All (wrL c p):=by
 unfold wrL Rg at *
 split
 ·exact .nil
 ·exact .cons ⟨q0,q2,q7,.inr (.inr (.inl ⟨rfl,rfl,by show -2048 ≤ 4 * (p - c); omega,by show 4 * (p - c) ≤ 2047; omega⟩))⟩ .nil
theorem callL_iok {n : Int} (h : 0 ≤ n ∧ n ≤ 5) : All (callL n):=.cons (io_addi (by omega) (by omega) (by omega) (by omega)) (.cons (io_addi (by omega) (by omega) (by omega) (by omega)) .nil)
theorem constL_iok {d n : Int} (hd : 0 ≤ d ∧ d ≤ 31) (hn : Wd n) : All (constL d n):=by
 unfold constL
 split
 ·exact .cons (io_addi hd (by omega) (by omega) (by omega)) .nil
 ·refine .cons ?_ (.cons (io_addi hd hd ?_ (by omega)) .nil)
  ·exact ⟨hd,q0,q0,.inr (.inr (.inr (.inr (.inl ⟨rfl,rfl,rfl,by show 0 ≤ hi20 n; unfold hi20; omega,by show hi20 n ≤ 1048575; unfold hi20; omega⟩))))⟩
  ·unfold lo12; split <;> omega
theorem quadL_iok {q : Quad} {m c off : Int} (hq : QOk m q) (hc : 1 ≤ c ∧ c ≤ 8) (ho : -1000000 ≤ off ∧ off ≤ 1000000) (he : off % 2 = 0) : All (quadL q c off):=by
 unfold QOk at hq
 unfold quadL
 split
 ·rename_i h1
  simp [h1] at hq
  exact (constL_iok (rgOf_bd hc (hq.1) (by omega)) (hq.2.2.2)).app (wrL_iok hc (hq.1))
 split
 ·rename_i h1 h2
  simp [h2] at hq
  exact ((rdL_iok hc (hq.2.1) (by omega)).app (.cons (io_addi (rgOf_bd hc (hq.1) (by omega)) (rgOf_bd hc (hq.2.1) (by omega)) (by omega) (by omega)) .nil)).app (wrL_iok hc (hq.1))
 split
 ·rename_i h1 h2 h3
  simp [h3] at hq
  have r1:=rgOf_bd (c:=c) (p:=q.Dst) (s:=7) hc (hq.1) (by omega)
  have r2:=rgOf_bd (c:=c) (p:=q.A) (s:=5) hc (hq.2.1) (by omega)
  have r3:=rgOf_bd (c:=c) (p:=q.B) (s:=6) hc (hq.2.2.1) (by omega)
  have r4:=opOf_bd (n:=q.N) (by omega)
  refine (((rdL_iok hc (hq.2.1) (by omega)).app (rdL_iok hc (hq.2.2.1) (by omega))).app (.cons ⟨r1,r2,r3,.inl ⟨r4.1,r4.2,rfl⟩⟩ .nil) |>.app ?_).app (wrL_iok hc (hq.1))
  ·split
   ·exact .cons (io_addi r1 r1 (by omega) (by omega)) .nil
   ·exact .nil
 split
 ·exact .cons ⟨q0,q0,q0,.inr (.inr (.inr (.inr (.inr (.inl ⟨rfl,rfl,rfl,by show -1048576 ≤ off; omega,by show off ≤ 1048574; omega,he⟩)))))⟩ .nil
 split
 ·rename_i h1 h2 h3 h4 h5
  simp [h5] at hq
  have r2:=rgOf_bd (c:=c) (p:=q.A) (s:=5) hc (hq.2.1) (by omega)
  have l1:=rd_len c q.A 5
  refine ((rdL_iok hc (hq.2.1) (by omega)).app (.cons ⟨q0,r2,q0,.inr (.inr (.inr (.inl ⟨.inr rfl,rfl,(by decide : (-4096 : Int) ≤ 8),(by decide : (8 : Int) ≤ 4094),(rfl : (8 : Int) % 2 = 0)⟩)))⟩ .nil)).app (.cons ?_ .nil)
  refine ⟨q0,q0,q0,.inr (.inr (.inr (.inr (.inr (.inl ⟨rfl,rfl,rfl,?_,?_,?_⟩)))))⟩
  ·show -1048576 ≤ off - 4 * (((rdL c q.A 5).length : Int) + 1); omega
  ·show off - 4 * (((rdL c q.A 5).length : Int) + 1) ≤ 1048574; omega
  ·show (off - 4 * (((rdL c q.A 5).length : Int) + 1)) % 2 = 0; omega
 split
 ·rename_i h1 h2 h3 h4 h5 h6
  simp [h6] at hq
  have r2:=rgOf_bd (c:=c) (p:=q.A) (s:=5) hc (hq.2.1) (by omega)
  exact ((rdL_iok hc (hq.2.1) (by omega)).app (.cons (io_addi (by omega) r2 (by omega) (by omega)) (.cons (io_addi (by omega) (by omega) (by omega) (by omega)) .nil))).app (callL_iok (by omega))
 split
 ·rename_i h1 h2 h3 h4 h5 h6 h7
  simp [h7] at hq
  exact (((All.cons (io_addi (by omega) (by omega) (by omega) (by omega)) .nil).app (callL_iok (by omega))).app (.cons (io_addi (rgOf_bd hc (hq.1) (by omega)) (by omega) (by omega) (by omega)) .nil)).app (wrL_iok hc (hq.1))
 split
 ·exact callL_iok (by omega)
 split
 ·rename_i h1 h2 h3 h4 h5 h6 h7 h8 h9
  simp [h9] at hq
  have r2:=rgOf_bd (c:=c) (p:=q.A) (s:=5) hc (hq.2.1) (by omega)
  exact ((rdL_iok hc (hq.2.1) (by omega)).app (.cons (io_addi (by omega) r2 (by omega) (by omega)) .nil)).app (callL_iok (by omega))
 ·exact callL_iok (by omega)
theorem off_even (code : List Quad) (c : Int) (i : Nat) : offL code c i % 2 = 0:=by
 unfold offL; split <;> omega
theorem tk_iok {code : List Quad} (hc : COk code) {c : Int} (h : 1 ≤ c ∧ c ≤ 8) : ∀ i,i ≤ code.length → All (tk code c i)
 | 0,_=>.nil
 | i + 1,hi=>by
  have e : qAt code i = code[i]:=qAt_of (List.getElem?_eq_getElem (by omega))
  have hq:=hc.q _ (List.mem_of_getElem? (List.getElem?_eq_getElem (show i < code.length by omega)))
  refine (tk_iok hc h i (by omega)).app ?_
  unfold blk
  rw [e]
  exact quadL_iok hq h (off_small hc (by omega)) (off_even code c i)
end Go.Proofs.YtmpplggjpmmhlaaGreatDoor.N
namespace Go.Proofs.YtmpplggjpmmhlaaGreatDoor.N
open Go.Proofs.YtmpplggjpmmhlaaGreatDoor.X
variable {b : List Int} {p m : Int}
theorem codes_dr (hb : By b) {k : Nat} (hk : 20 ≤ k) (h0 : 0 ≤ p) (hm : p ≤ m) (hp : m ≤ 100000) : Dr (f61 k ⟨b,p⟩) (m + 150001) fun l=>1 ≤ l.length ∧ l.length ≤ 3 ∧ ∀ c ∈ l,COk c ∧ c.length ≤ 40:=by
 unfold f61
 refine .bind (pick_dr hb h0 hm (by omega) (by omega) (by omega)) fun x p1 hx h1 h2=>?_
 dsimp only
 obtain ⟨n,hn⟩ : ∃ n : Int,n = 1 + x:=⟨_,rfl⟩
 have hw : w64 (1 + x) = n:=by rw [w64_s (by omega) (by omega),hn]
 refine .tot (P:=fun r=>0 ≤ r.2 ∧ r.2 ≤ m + 1 + 150000 ∧ (r.1.length : Int) = n ∧ ∀ c ∈ r.1,COk c ∧ c.length ≤ 40) (.iter (fun s=>0 ≤ s.2.1 ∧ s.2.1 ≤ n ∧ 0 ≤ s.2.2 ∧ s.2.2 ≤ m + 1 + 50000 * s.2.1 ∧ (s.1.length : Int) = s.2.1 ∧ ∀ c ∈ s.1,COk c ∧ c.length ≤ 40) (fun s=>(n - s.2.1).toNat) ⟨by simp,by simp only; omega,h1,by simp only; omega,by simp,by simp⟩ fun s hs=>?_) fun r hr=>?_
 ·obtain ⟨out,i,q⟩:=s
  obtain ⟨g0,g1,g2,g3,g4,g5⟩:=hs
  simp only at g0 g1 g2 g3 g4 g5
  unfold f8h
  dsimp only
  rw [hw,w64_up g0 (by omega)]
  refine .sel (fun h=>?_) fun h=>.inr (show 0 ≤ q ∧ q ≤ m + 1 + 150000 ∧ (out.length : Int) = n ∧ ∀ c ∈ out,COk c ∧ c.length ≤ 40 from ?_)
  ·simp only [decide_eq_true_eq] at h
   refine .bind (good_dr hb hk g2 g3 (by omega)) fun y hy=>.bind (.app (l:=out) (by simp; omega)) fun r hr=>.inl ?_
   subst hr
   refine ⟨⟨by simp only; omega,by simp only; omega,hy.1,by have:=hy.2.1; simp only; omega,by simp; omega,fun z hz=>?_⟩,by simp only; omega⟩
   simp only [List.mem_append,List.mem_singleton] at hz
   rcases hz with hz | rfl
   ·exact g5 z hz
   ·exact hy.2.2
  ·simp only [decide_eq_false_iff_not] at h
   exact ⟨g2,by omega,by omega,g5⟩
 ·exact .pure ⟨by have:=hr.2.2.1; omega,by have:=hr.2.2.1; omega,hr.2.2.2⟩ hr.1 (by have:=hr.2.1; omega)
def LOk (l : List (List Instr)) : Prop:=1 ≤ l.length ∧ l.length ≤ 3 ∧ ∀ x ∈ l,x.length ≤ 240 ∧ All x
theorem lists_dr (hb : By b) {k : Nat} (hk : 20 ≤ k) (h0 : 0 ≤ p) (hm : p ≤ m) (hp : m ≤ 100000) : Dr (f6i k ⟨b,p⟩) (m + 150002) LOk:=by
 unfold f6i
 refine .bind (codes_dr hb hk h0 hm hp) fun l p1 hl h1 h2=>.bind (pick_dr hb h1 h2 (by omega) (by omega) (by omega)) fun x p2 hx h3 h4=>?_
 refine .tot (P:=LOk) (.iter (fun s : List (List Instr) × Int=>0 ≤ s.2 ∧ s.2 ≤ (l.length : Int) ∧ (s.1.length : Int) = s.2 ∧ ∀ x ∈ s.1,x.length ≤ 240 ∧ All x) (fun s=>((l.length : Int) - s.2).toNat) ⟨by simp,by simp only; omega,by simp,by simp⟩ fun s hs=>?_) fun r hr=>.pure hr h3 (by omega)
 obtain ⟨out,i⟩:=s
 obtain ⟨g0,g1,g2,g3⟩:=hs
 simp only at g0 g1 g2 g3
 have hl1:=hl.1
 have hl2:=hl.2.1
 unfold f8w
 dsimp only
 rw [w64_s (i:=1 + x) (by omega) (by omega),w64_up g0 (by omega)]
 refine .sel (fun h=>?_) fun h=>.inr (show LOk out from ?_)
 ·simp only [decide_eq_true_eq] at h
  refine .bind (.nth (l:=l) g0 h) fun c ⟨_,hc⟩=>?_
  have hc':=hl.2.2 c hc
  rw [stask_eq hc'.1 (c:=1 + x) (by omega)]
  refine .bind (.pure (Q:=fun y=>y = tk c (1 + x) c.length) rfl) fun y hy=>.bind (.app (l:=out) (by simp; omega)) fun r hr=>.inl ?_
  subst hr hy
  refine ⟨⟨by simp only; omega,by simp only; omega,by simp; omega,fun z hz=>?_⟩,by simp only; omega⟩
  simp only [List.mem_append,List.mem_singleton] at hz
  rcases hz with hz | rfl
  ·exact g3 z hz
  ·refine ⟨?_,tk_iok hc'.1 (by omega) _ (Nat.le_refl _)⟩
   rw [tk_len]
   have:=pl_le c (1 + x) c.length
   have:=hc'.2
   omega
 ·simp only [decide_eq_false_iff_not] at h
  exact ⟨by omega,by omega,g3⟩
end Go.Proofs.YtmpplggjpmmhlaaGreatDoor.N
namespace Go.Proofs.YtmpplggjpmmhlaaGreatDoor.N
open Go.Proofs.YtmpplggjpmmhlaaGreatDoor.X
theorem szs_lok {l : List (List Instr)} (n : Nat) (h : ∀ x ∈ l,x.length ≤ n) : szs List.length l ≤ n * l.length:=by
 induction l with
 | nil=>simp [szs]
 | cons x xs ih =>
  have h1:=h x (by simp)
  have h2:=ih fun y hy=>h y (by simp [hy])
  simp only [szs,List.length_cons,Nat.mul_add,Nat.mul_one]
  omega
end Go.Proofs.YtmpplggjpmmhlaaGreatDoor.N
namespace Go.Proofs.YtmpplggjpmmhlaaGreatDoor.N
open Go.Proofs.YtmpplggjpmmhlaaGreatDoor.X
theorem sameInts_refl {l : List Int} (hl : l.length ≤ 1048576) : f4h l l = some true:=by
 unfold f4h
 refine sel_to (by simp) ?_
 have e:=all_loop (f:=f42 l l) (l:=l) (fun _=>true) (by omega) (fun i hi=>by
  unfold f42
  exact sel_tt' (by simpa using hi) (bind_to (nth_at hi) (bind_to (nth_at hi) (sel_to (by simp) rfl)))) (by
  unfold f42
  exact sel_to (by simp) rfl)
 rw [show l.all (fun _=>true) = true by simp] at e
 exact bind_to e rfl
theorem sameMachine_refl {m : Machine} (h1 : m.Regs.length ≤ 1048576) (h2 : m.Mem.length ≤ 1048576) : f2u m m = some true:=by
 unfold f2u
 exact bind_to (y:=true) (sel_tt' (by simp) (bind_to (sameInts_refl h1) rfl)) (bind_to (y:=true) (sel_tt' rfl (bind_to (sameInts_refl h2) rfl)) rfl)
theorem all_wd {l : List Int} (h : ∀ x ∈ l,Wd x) : l.all wdB = true:=by
 rw [List.all_eq_true]
 intro x hx
 have:=h x hx
 unfold Wd at this
 unfold wdB
 simp
 exact this
theorem mv_true {r : List Int} {pc : Int} {m : List Int} (hM : MOK r pc m) (h0 : r[0]? = some 0) : f1u ⟨r,pc,m⟩ = some true ∧ fa1 ⟨r,pc,m⟩ = some true:=by
 have h32:=hM.r32
 have h10:=hM.m10
 have hn:=nth_at (l:=r) (i:=0) (by omega)
 have g0 : (r[0]'(by omega) == 0) = true:=by
  rw [List.getElem?_eq_getElem (by omega)] at h0
  rw [Option.some.inj h0]; rfl
 have w1 : f2p r = some true:=(iwords_ok r (by omega)).trans (by rw [all_wd hM.wr])
 have w2 : f2p m = some true:=(iwords_ok m (by omega)).trans (by rw [all_wd hM.wm])
 have w3 : f1i pc = some true:=by
  have:=hM.wp
  unfold Wd at this
  unfold f1i
  rw [decide_eq_true (by omega),decide_eq_true (by omega)]; rfl
 have key : f1u ⟨r,pc,m⟩ = some true:=by
  unfold f1u
  exact bind_to (y:=true) (sel_tt' (by simp [h32]) (bind_to w1 rfl)) (bind_to (y:=true) (sel_tt' rfl (bind_to hn (congrArg some g0))) (bind_to (y:=true) (sel_tt' rfl (bind_to w3 rfl)) (bind_to (y:=true) (sel_tt' (by simp; omega) (bind_to w2 rfl)) rfl)))
 obtain ⟨b,v1,v2,_⟩:=mv_ok r pc m (by omega) (by omega)
 rw [v2] at key
 rw [v1,v2]
 exact ⟨key,key⟩
theorem wl_wd : ∀ {l : List Instr} {ws : List Int},wl l = some ws → ∀ x ∈ ws,Wd x
 | [],ws,h=>by simp only [wl,Option.some.injEq] at h; subst h; intro x hx; cases hx
 | x :: xs,ws,h=>by
  simp only [wl] at h
  split at h
  ·rename_i w ws' h1 h2
   injection h with h
   subst h
   intro y hy
   rcases List.mem_cons.1 hy with rfl | hy
   ·rcases encW_cases x with ⟨r,_,_,e⟩ | ⟨r,_,_,e⟩
    ·rw [e] at h1
     rw [← Option.some.inj h1]
     exact wrapW_bd r
    ·rw [e] at h1; cases h1
   ·exact wl_wd h2 y hy
  ·cases h
theorem wls_wd : ∀ {l : List (List Instr)} {ws : List (List Int)},wls l = some ws → ∀ x ∈ ws.flatten,Wd x
 | [],ws,h=>by simp only [wls,Option.some.injEq] at h; subst h; intro x hx; simp at hx
 | x :: xs,ws,h=>by
  simp only [wls] at h
  split at h
  ·rename_i w ws' h1 h2
   injection h with h
   subst h
   intro y hy
   simp only [List.flatten_cons,List.mem_append] at hy
   rcases hy with hy | hy
   ·exact wl_wd h1 y hy
   ·exact wls_wd h2 y hy
  ·cases h
theorem rtW_wd : ∀ x ∈ rtW,Wd x:=by
 obtain ⟨mem0,m1,m2⟩:=rt_words
 unfold rtW
 rw [m1]
 exact wl_wd m1
theorem bx_wd {rooms : List Int} (h : ∀ x ∈ rooms,Wd x) : ∀ j,∀ x ∈ bxL rooms j,Wd x
 | 0,x,hx=>by cases hx
 | j + 1,x,hx=>by
  simp only [bxL,List.mem_append,List.mem_cons,List.not_mem_nil,or_false] at hx
  rcases hx with hx | rfl | hx
  ·exact bx_wd h j x hx
  ·cases hg : rooms[j]? with
   | none=>unfold Wd; simp
   | some y=>exact h y (List.mem_of_getElem? hg)
  ·have : x = 0:=by omega
   subst this; unfold Wd; omega
theorem bk_wd {at_ : Nat} {st : List Int} (ha : at_ ≤ 10000) (hs : st.length ≤ 3) (h : ∀ x ∈ st,0 ≤ x ∧ x ≤ 10000) : ∀ j,j ≤ 3 → ∀ x ∈ bkL at_ st j,Wd x
 | 0,_,x,hx=>by cases hx
 | j + 1,hj,x,hx=>by
  simp only [bkL,List.mem_append,List.mem_cons,List.not_mem_nil,or_false] at hx
  rcases hx with hx | rfl | hx
  ·exact bk_wd ha hs h j (by omega) x hx
  ·cases hg : st[j]? with
   | none=>unfold Wd; simp
   | some y=>have:=h y (List.mem_of_getElem? hg); unfold Wd; simp only [Option.getD_some]; omega
  ·unfold Wd; omega
theorem new_mok {lists : List (List Instr)} {ws : List (List Int)} (hw : wls lists = some ws) (h3 : ws.length ≤ 3) {r1 r2 : Int} (h1 : 0 ≤ r1 ∧ r1 ≤ 4) (h2 : 0 ≤ r2 ∧ r2 ≤ 4) (hl : (imgM [r1,r2] ws).length ≤ 10000) :
  MOK (imgR ws) 368 (imgM [r1,r2] ws) ∧ (imgR ws)[0]? = some 0:=by
 have k6:=imgM_len [r1,r2] ws
 have hat : atN ws = 92 + ws.flatten.length:=by unfold atN; rw [List.length_append,rtW_len]
 refine ⟨⟨rfl,hl,?_,?_,by unfold Wd; omega⟩,rfl⟩
 ·intro x hx
  have hx : x ∈ ((((List.replicate 32 (0 : Int)).set 2 (4 * (atN ws : Int) + 112 + 64 * ws.length)).set 3 (4 * (atN ws : Int))).set 4 (4 * (atN ws : Int) + 112)):=hx
  have hm:=List.mem_or_eq_of_mem_set hx
  unfold Wd
  rcases hm with hm | rfl
  ·rcases List.mem_or_eq_of_mem_set hm with hm | rfl
   ·rcases List.mem_or_eq_of_mem_set hm with hm | rfl
    ·have:=List.eq_of_mem_replicate hm; omega
    ·omega
   ·omega
  ·omega
 ·intro x hx
  rw [imgM_eq] at hx
  unfold datL hdL at hx
  simp only [List.mem_append] at hx
  rcases hx with (hx | hx) | ((hx | hx) | hx) | hx
  ·exact rtW_wd x hx
  ·exact wls_wd hw x hx
  ·simp only [List.mem_cons,List.not_mem_nil,or_false] at hx
   unfold Wd; omega
  ·exact bx_wd (fun y hy=>by simp only [List.mem_cons,List.not_mem_nil,or_false] at hy; unfold Wd; omega) 3 x hx
  ·refine bk_wd (by omega) (by rw [offs_length]; exact h3) (fun y hy=>?_) ws.length h3 x hx
   have:=offs_bd hy
   omega
  ·have:=List.eq_of_mem_replicate hx
   unfold Wd; omega
end Go.Proofs.YtmpplggjpmmhlaaGreatDoor.N
namespace Go.Proofs.YtmpplggjpmmhlaaGreatDoor.N
open Go.Proofs.YtmpplggjpmmhlaaGreatDoor.X
theorem so_fl {k f3 f7 : Nat} (hk : k < 21) (h3 : k < 18 → f3 = t3 k) (h7 : k < 11 → f7 = t7 k) : So (tO k) f3 f7 = k + 1:=by
 rcases Nat.lt_or_ge k 11 with h | h
 ·obtain rfl:=h3 (by omega)
  obtain rfl:=h7 h
  rcases (by omega : k = 0 ∨ k = 1 ∨ k = 2 ∨ k = 3 ∨ k = 4 ∨ k = 5 ∨ k = 6 ∨ k = 7 ∨ k = 8 ∨ k = 9 ∨ k = 10) with rfl | rfl | rfl | rfl | rfl | rfl | rfl | rfl | rfl | rfl | rfl <;> rfl
 rcases Nat.lt_or_ge k 18 with h' | h'
 ·obtain rfl:=h3 h'
  rcases (by omega : k = 11 ∨ k = 12 ∨ k = 13 ∨ k = 14 ∨ k = 15 ∨ k = 16 ∨ k = 17) with rfl | rfl | rfl | rfl | rfl | rfl | rfl <;> rfl
 ·rcases (by omega : k = 18 ∨ k = 19 ∨ k = 20) with rfl | rfl | rfl <;> rfl
theorem dec_fl {i : Instr} {r : Nat} (hr : r < 4294967296) (h : Fl i r) (he : f0n i = some (r : Int)) : f12 (r : Int) = some (i,true):=by
 obtain ⟨x,b,d1,d2,_⟩:=dec_ok r hr
 have key : f2z (r : Int) = some (i,true):=by
  obtain ⟨k,hk,ho,f1,f2,f3,f4⟩:=h
  have hop : f7m (r : Int) = some ((k : Int) + 1):=by
   rw [kind_ok r hr]
   have e1 : r / 2 ^ 0 % 2 ^ 7 = tO k:=by simp only [Nat.pow_zero,Nat.div_one,Nat.reducePow]; exact f1
   have e2:=so_fl (f3:=r / 2 ^ 12 % 2 ^ 3) (f7:=r / 2 ^ 25 % 2 ^ 7) hk (fun h=>by simp only [Nat.reducePow]; exact f2 h) (fun h=>by simp only [Nat.reducePow]; exact f3 h)
   rw [e1,e2]
   rfl
  have e1 : (decide ((r : Int) ≥ 0) && decide ((r : Int) ≤ 4294967295)) = true:=by rw [decide_eq_true (by omega),decide_eq_true (by omega)]; rfl
  unfold f2z f05
  rw [e1]
  rw [ho] at f4
  have hz : ((k : Int) + 1 == 0) = false:=by simp; omega
  simp only [Option.bind_some,Bool.not_true,hop,f4,he,hz,sel,bne_self_eq_false]
 rw [d1] at key
 rw [d2]
 exact key
theorem encW_dec {x : Instr} {w : Int} (h : encW x = some w) : ∃ u : Nat,f0y w = some (u : Int) ∧ f12 (u : Int) = some (x,true):=by
 obtain ⟨r,b,h1,h2,h3,h4,h5,h6,h7⟩:=enc_ok x
 unfold encW at h
 rw [h3] at h
 cases b
 ·cases h
 ·obtain rfl:=Option.some.inj h
  have hb:=wrapW_bd (r : Int)
  obtain ⟨u,u1,u2,u3,_⟩:=uns_ok (x:=wrapW (r : Int)) hb.1 hb.2
  have : u = r:=by
   have : wrapW (r : Int) % 4294967296 = (r : Int):=by unfold wrapW; split <;> omega
   omega
  subst this
  exact ⟨u,u3,dec_fl h1 (h7 rfl) (h4 rfl)⟩
theorem wl_dec : ∀ {l : List Instr} {ws : List Int},wl l = some ws → ∀ (i : Nat) (x : Instr),l[i]? = some x → ∃ (w : Int) (u : Nat),ws[i]? = some w ∧ f0y w = some (u : Int) ∧ f12 (u : Int) = some (x,true)
 | [],ws,h,i,x,hx=>by simp at hx
 | y :: ys,ws,h,i,x,hx=>by
  simp only [wl] at h
  split at h
  ·rename_i w ws' h1 h2
   injection h with h
   subst h
   cases i with
   | zero =>
    obtain rfl : y = x:=by simpa using hx
    obtain ⟨u,u1,u2⟩:=encW_dec h1
    exact ⟨w,u,rfl,u1,u2⟩
   | succ i=>exact wl_dec h2 i x (by simpa using hx)
  ·cases h
end Go.Proofs.YtmpplggjpmmhlaaGreatDoor.N
namespace Go.Proofs.YtmpplggjpmmhlaaGreatDoor.N
open Go.Proofs.YtmpplggjpmmhlaaGreatDoor.X
def SqOk (rooms : List Int) (lists : List (List Instr)) : Prop:=(∃ r1 r2 : Int,rooms = [r1,r2] ∧ (0 ≤ r1 ∧ r1 ≤ 4) ∧ (1 ≤ r2 ∧ r2 ≤ 4)) ∧ 1 ≤ lists.length ∧ lists.length ≤ 6 ∧ ∀ x ∈ lists,x.length ≤ 241
theorem drawSquad_tot {k : Nat} (hk : 20 ≤ k) {code : List Int} (h : ∀ x ∈ code,0 ≤ x ∧ x ≤ 255) : Tot (f3m k code) fun z=>SqOk z.1 z.2:=by
 unfold f3m
 refine .bind (open_tot h) fun r ⟨hb,hp⟩=>.bind (lists_dr (m:=0) hb hk (by rw [hp]; omega) (by rw [hp]; omega) (by omega)) fun z hz=>.bind (pick_dr hb hz.1 hz.2.1 (by omega) (by omega) (by omega)) fun x hx=>.bind (pick_dr hb hx.1 hx.2.1 (by omega) (by omega) (by omega)) fun y hy=>?_
 have hx2:=hx.2.2
 have hy2:=hy.2.2
 obtain ⟨l1,l2,l3⟩:=hz.2.2
 rw [w64_s (i:=1 + x.1) (by omega) (by omega),w64_s (i:=1 + y.1) (by omega) (by omega)]
 refine .bind (P:=fun q=>SqOk q.2.2 q.1) (.bind (pick_dr hb hy.1 hy.2.1 (by omega) (by omega) (by omega)) fun t ht=>.sel (fun _=>.bind (.nth (by omega) (by simp)) fun _ _=>.bind (.upd (by omega) (by simp)) fun r hr=>.pure ?_) fun _=>.sel (fun _=>.bind (.nth (l:=z.1) (by omega) (by omega)) fun w ⟨_,hw⟩=>.bind (.app (by simp; omega)) fun r hr=>.pure ?_) fun _ =>
  .sel (fun _=>.bind (.nth (l:=z.1) (by omega) (by omega)) fun w ⟨_,hw⟩=>.bind (.app (by have:=(l3 w hw).1; simp; omega)) fun r hr=>.pure ?_) fun _=>.pure ?_) fun q hq=>.pure hq
 ·subst hr
  exact ⟨⟨0,1 + y.1,rfl,by omega,by omega⟩,l1,by simp only; omega,fun x hx=>by have:=(l3 x hx).1; omega⟩
 ·subst hr
  refine ⟨⟨1 + x.1,1 + y.1,rfl,by omega,by omega⟩,by simp only [List.length_append,List.length_replicate]; omega,by simp only [List.length_append,List.length_replicate]; omega,fun x hx=>?_⟩
  rcases List.mem_append.1 hx with hx | hx
  ·have:=(l3 x hx).1; omega
  ·rw [(List.mem_replicate.1 hx).2]
   have:=(l3 w hw).1; omega
 ·subst hr
  refine ⟨⟨1 + x.1,1 + y.1,rfl,by omega,by omega⟩,by simp only [List.length_set]; omega,by simp only [List.length_set]; omega,fun x hx=>?_⟩
  rcases List.mem_or_eq_of_mem_set hx with hx | rfl
  ·have:=(l3 x hx).1; omega
  ·have:=(l3 w hw).1
   simp only [List.length_append,List.length_singleton]; omega
 ·exact ⟨⟨1 + x.1,1 + y.1,rfl,by omega,by omega⟩,l1,by simp only; omega,fun x hx=>by have:=(l3 x hx).1; omega⟩
theorem drawImg_tot {k : Nat} (hk : 20 ≤ k) {code : List Int} (h : ∀ x ∈ code,0 ≤ x ∧ x ≤ 255) : Tot (f3n k code) fun z=>SqOk z.1 z.2:=by
 unfold f3n
 exact .bind (drawSquad_tot hk h) fun q hq=>.pure hq
theorem nth_get {α : Type} {l : List α} {n : Nat} {x : α} (h : l[n]? = some x) : nth l (n : Int) = some x:=by
 unfold nth
 rw [if_neg (by omega)]
 simpa using h
end Go.Proofs.YtmpplggjpmmhlaaGreatDoor.N
namespace Go.Proofs.YtmpplggjpmmhlaaGreatDoor.N
open Go.Proofs.YtmpplggjpmmhlaaGreatDoor.X
theorem newR_cases' (rooms : List Int) (lists : List (List Instr)) : newR rooms lists = (Machine.mk [] 0 [],0,false) ∨
  ∃ ws,wls lists = some ws ∧ roomsB rooms = true ∧ 1 ≤ lists.length ∧ lists.length ≤ 3 ∧ (imgM rooms ws).length ≤ 10000 ∧ newR rooms lists = (Machine.mk (imgR ws) 368 (imgM rooms ws),4 * (atN ws : Int),true):=by
 unfold newR
 split
 ·rename_i h
  split
  ·rename_i ws hw
   split
   ·rename_i hl
    exact .inr ⟨ws,hw,h.1,h.2.1,h.2.2,hl,rfl⟩
   ·exact .inl rfl
  ·exact .inl rfl
 ·exact .inl rfl
theorem img_new {rooms : List Int} {lists : List (List Instr)} (hz : SqOk rooms lists) : (f3j rooms lists = some (Machine.mk [] 0 [],0,false) ∧ f3h rooms lists = some (Machine.mk [] 0 [],0,false)) ∨
  ∃ r1 r2 ws,rooms = [r1,r2] ∧ (1 ≤ r1 ∧ r1 ≤ 4) ∧ (1 ≤ r2 ∧ r2 ≤ 4) ∧ wls lists = some ws ∧ ws.length = lists.length ∧ 1 ≤ ws.length ∧ ws.length ≤ 3 ∧ atN ws ≤ 10000 ∧ (imgM [r1,r2] ws).length = atN ws + 28 + 28 * ws.length ∧ (imgM [r1,r2] ws).length ≤ 10000 ∧
   MOK (imgR ws) 368 (imgM [r1,r2] ws) ∧ (imgR ws)[0]? = some 0 ∧ f3j rooms lists = some (Machine.mk (imgR ws) 368 (imgM rooms ws),4 * (atN ws : Int),true) ∧ f3h rooms lists = some (Machine.mk (imgR ws) 368 (imgM rooms ws),4 * (atN ws : Int),true):=by
 obtain ⟨⟨r1,r2,rfl,h1,h2⟩,l1,l2,l3⟩:=hz
 have k3:=szs_lok 241 l3
 obtain ⟨e1,e2⟩:=new_ok [r1,r2] lists (by simp) (by omega) (by omega)
 rcases newR_cases' [r1,r2] lists with h0 | ⟨ws,hw,hr,c1,c2,c3,he⟩
 ·rw [h0] at e1 e2
  exact .inl ⟨e1,e2⟩
 ·rw [he] at e1 e2
  have k1:=(wls_length hw).1
  have k6:=imgM_len [r1,r2] ws
  obtain ⟨hM,hz⟩:=new_mok hw (by omega) (r1:=r1) (r2:=r2) (by omega) (by omega) c3
  have hr1 : 1 ≤ r1:=by
   rcases Int.lt_or_le r1 1 with h | h
   ·have s0 : f2t [r1,r2] 0 = some (.inr (.inl false)):=by
     unfold f2t f05
     rw [show nth [r1,r2] 0 = some r1 from rfl]
     simp only [Option.bind_some]
     rw [decide_eq_false (show ¬ r1 ≥ 1 by omega)]
     rfl
    unfold roomsB f3g at hr
    rw [iter_eq,s0] at hr
    cases hr
   ·exact h
  exact .inr ⟨r1,r2,ws,rfl,⟨hr1,h1.2⟩,h2,hw,k1,by omega,by omega,by omega,k6,c3,hM,hz,e1,e2⟩
end Go.Proofs.YtmpplggjpmmhlaaGreatDoor.N
namespace Go.Proofs.YtmpplggjpmmhlaaGreatDoor.N
open Go.Proofs.YtmpplggjpmmhlaaGreatDoor.X
theorem wl_app : ∀ {a b : List Instr} {u v : List Int},wl a = some u → wl b = some v → wl (a ++ b) = some (u ++ v)
 | [],b,u,v,h1,h2=>by simp only [wl,Option.some.injEq] at h1; subst h1; exact h2
 | x :: xs,b,u,v,h1,h2=>by
  simp only [wl] at h1
  split at h1
  ·rename_i w ws' g1 g2
   injection h1 with h1
   subst h1
   have:=wl_app g2 h2
   simp only [List.cons_append,wl,g1,this]
  ·cases h1
theorem wls_flat : ∀ {l : List (List Instr)} {ws : List (List Int)},wls l = some ws → wl l.flatten = some ws.flatten
 | [],ws,h=>by simp only [wls,Option.some.injEq] at h; subst h; rfl
 | y :: ys,ws,h=>by
  simp only [wls] at h
  split at h
  ·rename_i w ws' h1 h2
   injection h with h
   subst h
   exact wl_app h1 (wls_flat h2)
  ·cases h
theorem rt_len : rtList.length = 92:=by kernel_rfl
theorem rt_of : f56 = some rtList:=by
 unfold f56
 have L:=iter_st (f:=f3l) (fun i=>(rtList.take i,(i : Int))) 92 (r:=rtList) (fun i hi=>by
  have hi' : i < rtList.length:=by rw [rt_len]; exact hi
  have e : f3k (i : Int) = some (rtList[i],true):=by
   unfold f3k
   refine bind_to list_eq (sel_to ?_ (bind_to (nth_at hi') rfl))
   simp; omega
  unfold f3l
  refine sel_tt' (by simp; omega) (bind_to e (bind_to (app_ok (by simp; omega)) ?_))
  rw [w64_nat (by omega),List.take_add_one,List.getElem?_eq_getElem hi']
  rfl) (by
  unfold f3l
  refine sel_to (by simp) ?_
  rw [show rtList.take 92 = rtList by rw [← rt_len,List.take_length]])
 exact bind_to L rfl
theorem law_image {k : Nat} (hk : 20 ≤ k) {a0 : List Int} (h : ∀ x ∈ a0,0 ≤ x ∧ x ≤ 255) : f99 k a0 = some true:=by
 refine Tot.eq ?_
 unfold f99
 refine .sel (fun _=>.pure rfl) fun hlen=>.bind (drawImg_tot hk h) fun z hz=>?_
 rcases img_new hz with ⟨e1,e2⟩ | ⟨r1,r2,ws,hrm,hr1,hr2,hw,k1,c1,c2,c3,c4,c5,hM,hz0,e1,e2⟩
 ·have hS:=sameMachine_refl (m:=⟨[],0,[]⟩) (by simp) (by simp)
  exact .of (bind_to e2 (bind_to e1 (bind_to (y:=false) (sel_to rfl (bind_to hS rfl)) (sel_tt' rfl (bind_to (y:=true) (sel_tt' (by simp) (bind_to hS rfl)) rfl))))) rfl
 ·obtain ⟨rooms,lists⟩:=z
  simp only at hrm k1 e1 e2
  subst hrm
  have hS:=sameMachine_refl (m:=⟨imgR ws,368,imgM [r1,r2] ws⟩) (by rw [hM.r32]; omega) (by simp only; omega)
  refine .of (bind_to e2 (bind_to e1 (bind_to (y:=false) (sel_to (by simp) (bind_to hS rfl)) (sel_to rfl (bind_to rt_of ?_))))) rfl
  obtain ⟨mem0,m1,m2⟩:=rt_words
  have hrt : rtW = mem0:=by unfold rtW; rw [m1]; rfl
  have hall : wl (rtList ++ lists.flatten) = some (rtW ++ ws.flatten):=wl_app (by rw [hrt]; exact m1) (wls_flat hw)
  have hln : (rtList ++ lists.flatten).length = atN ws:=by
   have:=wl_length hall
   unfold atN
   exact this.symm
  have hfl : ∀ i,(lists.take i).flatten.length ≤ lists.flatten.length:=fun i=>by
   have e : lists.flatten.length = (lists.take i).flatten.length + (lists.drop i).flatten.length:=by
    rw [← List.length_append,← List.flatten_append,List.take_append_drop]
   omega
  rw [List.length_append] at hln
  have L1:=iter_st (f:=f4k ([r1,r2],lists)) (fun i=>(rtList ++ (lists.take i).flatten,(i : Int))) lists.length (r:=rtList ++ lists.flatten) (fun i hi=>by
   have f1:=hfl i
   have f2:=hfl (i + 1)
   rw [List.take_add_one,List.getElem?_eq_getElem hi,List.flatten_append,List.length_append] at f2
   simp only [Option.toList,List.flatten_cons,List.flatten_nil,List.append_nil] at f2
   unfold f4k
   refine sel_tt' (by simpa using hi) (bind_to (nth_at hi) (bind_to (app_ok (by simp only [List.length_append]; omega)) ?_))
   have htk : (lists.take (i + 1)).flatten = (lists.take i).flatten ++ lists[i]:=by rw [List.take_add_one,List.getElem?_eq_getElem hi,List.flatten_append]; simp only [Option.toList,List.flatten_cons,List.flatten_nil,List.append_nil]
   rw [w64_nat (by omega),htk,List.append_assoc]) (by
   unfold f4k
   refine sel_to (by simp) ?_
   simp)
  refine bind_to (by simpa using L1) ?_
  have L2:=all_loop (f:=f4n (Machine.mk (imgR ws) 368 (imgM [r1,r2] ws),4 * (atN ws : Int),true) (rtList ++ lists.flatten)) (l:=rtList ++ lists.flatten) (fun _=>true) (by rw [List.length_append]; omega) (fun i hi=>by
   obtain ⟨w,u,w1,w2,w3⟩:=wl_dec hall i _ (List.getElem?_eq_getElem hi)
   have hn : nth (imgM [r1,r2] ws) (i : Int) = some w:=nth_get (by rw [img_code (by rw [List.length_append] at hi; omega)]; exact w1)
   unfold f4n
   exact sel_tt' (by rw [decide_eq_true_eq]; omega) (bind_to hn (bind_to w2 (bind_to w3 (bind_to (y:=false) (sel_to rfl (bind_to (nth_at hi) (by simp))) (sel_to rfl rfl)))))) (by
   unfold f4n
   exact sel_to (by simp) rfl)
  rw [show (rtList ++ lists.flatten).all (fun _=>true) = true by simp] at L2
  refine bind_to L2 ?_
  dsimp only [both,cond_true]
  refine bind_to (mv_true hM hz0).1 ?_
  rw [List.length_append,hln,w64_id (by omega) (by omega)]
  simp
end Go.Proofs.YtmpplggjpmmhlaaGreatDoor.N
namespace Go.Proofs.YtmpplggjpmmhlaaGreatDoor.N
open Go.Proofs.YtmpplggjpmmhlaaGreatDoor.X
theorem z.{u} {α : Sort u} {a : α} : a = a := rfl
theorem zz {A S T : Nat → Prop} (h : ∀ b, S b → A b ∧ T b) : ∀ b, S b → T b := fun b hb => (h b hb).2
end Go.Proofs.YtmpplggjpmmhlaaGreatDoor.N
namespace Go.Proofs.YtmpplggjpmmhlaaGreatDoor.X
theorem CW.g {P : Program} {n id : Nat} {ops : Array Oper} {d : Code} {E : Env} {W : World} {R : Exit → Env → World → Prop} (h : RG P n ops ops.toList E W (fun E' W' => CW P n d E' W' R)) : CW P n (.seq (.region id ops false) d) E W R := .seq (.region h)
theorem RG.qn {P : Program} {n : Nat} {ops : Array Oper} {o : Oper} {E : Env} {W : World} {v : Value} {K : Env → World → Prop} (h : pq n E o = some v) (k : K (put E o.dst v) W) : RG P n ops [o] E W K := .q h (.nil k)
end Go.Proofs.YtmpplggjpmmhlaaGreatDoor.X
namespace Go.Proofs.YtmpplggjpmmhlaaGreatDoor.N
open Go.Proofs.YtmpplggjpmmhlaaGreatDoor.X
theorem fe6 {a0 : List Int} {v_0 : Hd} {w : World} {r : L6Rd} (h : f85 a0 = some r) (q_0 : RV w (Old No w) (sv v_0) 5 1 (D.int .u8) a0) : Calls Tryz.prog 34 #[(sv v_0)] w (Ret No w (fun s : Nat × {x : Hd // ∀ (T : Nat → Prop),RV w T (sv v_0) 5 1 (D.int .u8) a0 → RV w T (sv x) 5 1 (D.int .u8) r.b}=>.pointer (some ⟨s.1,0,none⟩)) (fun s=>[.box s.1 100 [(sv s.2.1),.int .i64 r.p]])):=by
 unfold f85 at h
 refine enter Tryz.func34 z z ?_
 have hS:=Sep.start w
 refine .g (.q z (.nil ?_))
 have ⟨y1,hy1,h⟩:=bnd h
 refine .seq (CW.via (R':=fun x E' W'=>x = .normal ∧ ∃ (v1 : Hd),(∀ (T : Nat → Prop),RV w T (sv v_0) 5 1 (D.int .u8) a0 → RV w T (sv v1) 5 1 (D.int .u8) y1) ∧ SubL E' [(0,(sv v1))] ∧ Sep No w W' []) ?_ ?_)
 ·have h:=hy1
  refine .g (.q z (.s (lenv (hS.keep q_0) T.u22 z z) z (.q z (.nil ?_))))
  refine .cs z h ?_ ?_ <;> intro h
  ·refine .region (.q z ?_)
   have ⟨r1,hr1,h⟩:=bnd h
   refine .s (slv hr1 q_0 T.u22 T.t5 z z z z) z (.q z (.nil ?_))
   obtain rfl:=Option.some.inj h
   exact ⟨z,(cutH v_0 (Int.toNat 0) 1 r1.length),fun _ q_0=>(slv_rd hr1 q_0),sb z,hS.to [] z⟩
  refine .skip ?_
  obtain rfl:=Option.some.inj h
  exact ⟨z,v_0,fun _ q_0=>q_0,sb z,hS.to [] z⟩
 intro x E W hJ
 obtain ⟨rfl,v2,q2,hE,hS⟩:=hJ
 refine ⟨_,hE.sub,?_⟩
 refine .g (.q z (.s (bs T.s100 z z) z (.c (.box hS z z ?_ z z))))
 intro g1 W hS
 cases h
 exact .qn z (.ret (fin_ret (vs:=[_]) (g1,⟨v2,fun _ q_0=>(q2 _ q_0)⟩) (rt z rn) z (hS.to [0] z)))
theorem f00 {a0 : L6Rd} {a1 : Int} {v_0_b : Hd} {g_0 : Nat} {S : Nat → Prop} {w : World} {r : Int × Int} (h : f01 a0 a1 = some r) (q_0_b : RV w (Old S w) (sv v_0_b) 5 1 (D.int .u8) a0.b) (hO : Owns w [.box g_0 100 [(sv v_0_b),.int .i64 a0.p]] S) (hlt : ∀ b,S b → b < w.heap.size) : Calls Tryz.prog 36 #[.pointer (some ⟨g_0,0,none⟩),.int .i64 a1] w (Ret S w (fun s : Unit=>.int .i64 r.1) (fun s=>[.box g_0 100 [(sv v_0_b),.int .i64 r.2]])):=by
 unfold f01 at h
 refine enter Tryz.func36 z z ?_
 have hS:=Sep.startM hO hlt
 refine .g (.qn z (.g (.q z (.q z (.q z (.s (fa T.f100_1 z z z) z (.s (ld T.t3 hS z z z z z) z (.q z (.q z (.s (fa T.f100_1 z z z) z (.c (.st T.t3 hS z z z ?_ z z z z z))))))))))))
 intro W hS
 refine .nil (.seq (.g (.q z (.q z (.q z (.chunk 7 24 ((decide (a1 < 1)) || ((a0.b.length : Int) == 0)) hS ?_ ?_))))))
 ·refine .both (decide (a1 < 1)) (fun hb=>?_) (fun hb=>?_)
  ·exact .xx hb z (.xx hb z (.xx hb z (.xx hb z (.xx hb z (.xx hb z (.s (pkt hb z z z) z (.nil (ck 7 hS z (or_t hb) z z))))))))
  have hg1:=hb
  exact .g hg1 (.q z (.g hg1 (.q z (.g hg1 (.s (fa T.f100_0 z z z) z (.g hg1 (.s (ld T.t22 hS z z z z z) z (.g hg1 (.s (lenv (hS.keep q_0_b) T.u22 z z) z (.g hg1 (.q z (.s (pkf hg1 z z z) z (.nil (ck 7 hS z (or_f hg1) z z)))) z)) z)) z)) z)) z)) z
 intro W hS
 refine .nil ?_
 refine .cs z h ?_ ?_ <;> intro h
 ·cases h
  exact .g (.qn z (.ret (fin_ret (vs:=[_]) () (rt z rn) z (hS.to [0] z))))
 refine .skip (.g (.q z (.q z (.s (fa T.f100_1 z z z) z (.s (ld T.t3 hS z z z z z) z (.q z (.qn z (.seq (.g (.q z (.q z (.q z (.s (fa T.f100_0 z z z) z (.s (ld T.t22 hS z z z z z) z (.s (lenv (hS.keep q_0_b) T.u22 z z) z (.q z (.nil ?_)))))))))))))))))
 refine .cs z h ?_ ?_ <;> intro h
 ·refine .g (.q z (.q z (.s (fa T.f100_0 z z z) z (.s (ld T.t22 hS z z z z z) z (.q z ?_)))))
  have ⟨x1,hx1,h⟩:=bnd h
  refine .s (ixv (hS.keep q_0_b) hx1 T.u22 T.t5 z z z) z (.s (lde (RV.flat (hS.keep q_0_b) hx1 z) T.t5 z z z z z) z (.s (cv T.u5 T.u3 z z) z (.q z ?_)))
  have ⟨d1,hd1,h⟩:=bnd h
  cases h
  exact .s (dr hd1 z z z) z (.qn z (.ret (fin_ret (vs:=[_]) () (rt z rn) z (hS.to [0] z))))
 refine .skip (.seq (.rk 46 hS [0] T.mix ?_))
 intro W hS
 have hT:=hS.to [0] z
 refine .tp 0 z z hT (by kernel_rfl) (.tp 1 z z hT (by kernel_rfl) (.ts 2 z (fun W hT=>fa T.f100_0 z z z) hT z (by kernel_rfl) (.ts 3 z (fun W hT=>ld T.t22 hT z z z z z) hT z (by kernel_rfl) (.tp 4 z z hT (by kernel_rfl) (.tp 5 z z hT (by kernel_rfl) (.tp 6 z z hT (by kernel_rfl) (.ts 7 z (fun W hT=>fa T.f100_0 z z z) hT z (by kernel_rfl) (.ts 8 z (fun W hT=>ld T.t22 hT z z z z z) hT z (by kernel_rfl) (.ts 9 z (fun W hT=>lenv (hS.keep q_0_b) T.u22 z z) hT z (by kernel_rfl) ?_)))))))))
 have ⟨d2,hd2,h⟩:=bnd h
 refine .ts 10 z (fun W hT=>dr hd2 z z z) hT z (by kernel_rfl) ?_
 have ⟨x2,hx2,h⟩:=bnd h
 refine .ts 11 z (fun W hT=>ixv (hS.keep q_0_b) hx2 T.u22 T.t5 z z z) hT z (by kernel_rfl) (.ts 12 z (fun W hT=>lde (RV.flat (hT.keep q_0_b) hx2 z) T.t5 z z z z z) hT z (by kernel_rfl) (.ts 13 z (fun W hT=>cv T.u5 T.u3 z z) hT z (by kernel_rfl) (.tp 14 z z hT (by kernel_rfl) (.tp 15 z z hT (by kernel_rfl) (.tp 16 z z hT (by kernel_rfl) (.ts 17 z (fun W hT=>fa T.f100_0 z z z) hT z (by kernel_rfl) (.ts 18 z (fun W hT=>ld T.t22 hT z z z z z) hT z (by kernel_rfl) (.tp 19 z z hT (by kernel_rfl) (.tp 20 z z hT (by kernel_rfl) (.tp 21 z z hT (by kernel_rfl) (.tp 22 z z hT (by kernel_rfl) (.tp 23 z z hT (by kernel_rfl) (.ts 24 z (fun W hT=>fa T.f100_0 z z z) hT z (by kernel_rfl) (.ts 25 z (fun W hT=>ld T.t22 hT z z z z z) hT z (by kernel_rfl) (.ts 26 z (fun W hT=>lenv (hS.keep q_0_b) T.u22 z z) hT z (by kernel_rfl) ?_)))))))))))))))
 have ⟨d3,hd3,h⟩:=bnd h
 refine .ts 27 z (fun W hT=>dr hd3 z z z) hT z (by kernel_rfl) ?_
 have ⟨x3,hx3,h⟩:=bnd h
 refine .ts 28 z (fun W hT=>ixv (hS.keep q_0_b) hx3 T.u22 T.t5 z z z) hT z (by kernel_rfl) (.ts 29 z (fun W hT=>lde (RV.flat (hT.keep q_0_b) hx3 z) T.t5 z z z z z) hT z (by kernel_rfl) (.ts 30 z (fun W hT=>cv T.u5 T.u3 z z) hT z (by kernel_rfl) (.tp 31 z z hT (by kernel_rfl) (.tp 32 z z hT (by kernel_rfl) (.tp 33 z z hT (by kernel_rfl) (.tp 34 z z hT (by kernel_rfl) (.tp 35 z z hT (by kernel_rfl) (.tp 36 z z hT (by kernel_rfl) (.tp 37 z z hT (by kernel_rfl) (.tp 38 z z hT (by kernel_rfl) (.ts 39 z (fun W hT=>fa T.f100_0 z z z) hT z (by kernel_rfl) (.ts 40 z (fun W hT=>ld T.t22 hT z z z z z) hT z (by kernel_rfl) (.ts 41 z (fun W hT=>lenv (hS.keep q_0_b) T.u22 z z) hT z (by kernel_rfl) ?_)))))))))))))
 have ⟨d4,hd4,h⟩:=bnd h
 refine .ts 42 z (fun W hT=>dq hd4 z z z) hT z (by kernel_rfl) (.tp 43 z z hT (by kernel_rfl) (.tp 44 z z hT (by kernel_rfl) (.tp 45 z z hT (by kernel_rfl) (.done (.g (.q z (.q z (.q z (.q z (.qn z (.g (.q z (.q z ?_))))))))) (by kernel_rfl)))))
 have ⟨d5,hd5,h⟩:=bnd h
 cases h
 exact .s (dr hd5 z z z) z (.qn z (.ret (fin_ret (vs:=[_]) () (rt z rn) z (hS.to [0] z))))
theorem f1k {a0 : L6Rd} {v_0_b : Hd} {g_0 : Nat} {S : Nat → Prop} {w : World} {r : Int × Int} (h : f1b a0 = some r) (q_0_b : RV w (Old S w) (sv v_0_b) 5 1 (D.int .u8) a0.b) (hO : Owns w [.box g_0 100 [(sv v_0_b),.int .i64 a0.p]] S) (hlt : ∀ b,S b → b < w.heap.size) : Calls Tryz.prog 159 #[.pointer (some ⟨g_0,0,none⟩)] w (Ret S w (fun s : Unit=>.int .i64 r.1) (fun s=>[.box g_0 100 [(sv v_0_b),.int .i64 r.2]])):=by
 unfold f1b at h
 refine enter Tryz.func159 z z ?_
 have hS:=Sep.startM hO hlt
 refine .g (.qn z (.g (.q z ?_)))
 have ⟨y1,hy1,h⟩:=bnd h
 refine .c (.callS2 (L0:=[.box g_0 100 [(sv v_0_b),.int .i64 a0.p]]) hS Tryz.func36 (fun S h1 h2 h3=>(f00 hy1 (hS.keepS q_0_b h1) h2 (zz h1))) z z ?_ z z z z)
 rintro ⟨⟩ W hS
 cases h
 exact .qn z (.ret (fin_ret (vs:=[_]) () (rt z rn) z (hS.to [0] z)))
theorem f39 {a0 : Int} {w : World} {r : Int} (h : f1l a0 = some r) : Calls Tryz.prog 68 #[.int .i64 a0] w (Ret No w (fun s : Unit=>.int .i64 r) (fun s=>[])):=by
 unfold f1l at h
 refine enter Tryz.func68 z z ?_
 have hS:=Sep.start w
 refine .g (.qn z (.g (.q z (.q z (.qn z (.seq (.g (.q z (.q z (.nil ?_))))))))))
 refine .cs z h ?_ ?_ <;> intro h
 ·cases h
  exact .g (.q z (.q z (.qn z (.ret (fin_ret (vs:=[_]) () (rt z rn) z (hS.to [] z))))))
 refine .skip (.seq (.g (.q z (.q z (.nil ?_)))))
 refine .cs z h ?_ ?_ <;> intro h
 ·cases h
  exact .g (.q z (.q z (.qn z (.ret (fin_ret (vs:=[_]) () (rt z rn) z (hS.to [] z))))))
 cases h
 exact .skip (.g (.q z (.qn z (.ret (fin_ret (vs:=[_]) () (rt z rn) z (hS.to [] z))))))
theorem fdo {a0 : L6Rd} {v_0_b : Hd} {g_0 : Nat} {S : Nat → Prop} {w : World} {r : Int × Int} (h : f7h a0 = some r) (q_0_b : RV w (Old S w) (sv v_0_b) 5 1 (D.int .u8) a0.b) (hO : Owns w [.box g_0 100 [(sv v_0_b),.int .i64 a0.p]] S) (hlt : ∀ b,S b → b < w.heap.size) : Calls Tryz.prog 160 #[.pointer (some ⟨g_0,0,none⟩)] w (Ret S w (fun s : Unit=>.int .i64 r.1) (fun s=>[.box g_0 100 [(sv v_0_b),.int .i64 r.2]])):=by
 unfold f7h at h
 refine enter Tryz.func160 z z ?_
 have hS:=Sep.startM hO hlt
 refine .g (.qn z (.seq (.g (.q z ?_))))
 have ⟨y1,hy1,h⟩:=bnd h
 refine .c (.callS2 (L0:=[.box g_0 100 [(sv v_0_b),.int .i64 a0.p]]) hS Tryz.func36 (fun S h1 h2 h3=>(f00 hy1 (hS.keepS q_0_b h1) h2 (zz h1))) z z ?_ z z z z)
 rintro ⟨⟩ W hS
 refine .nil (.block (.g (.q z (.qn z (.cond z (fun hb=>?_) (fun hb=>?_))))))
 ·have h:=sel_t hb h
  refine .g (.c (.liv [(-2147483648),2147483647,(-1),0,1,(-2147483647),65536,(-65536)] (D.int .i64) T.u25 T.t3 hS z z z z ?_ z (fun _=>z) z z z z))
  intro v1 W hS
  refine .q z ?_
  have ⟨y2,hy2,h⟩:=bnd h
  have hS:=hS.p1
  refine .c (.callS2 (L0:=[.box g_0 100 [(sv v_0_b),.int .i64 y1.2]]) hS Tryz.func36 (fun S h1 h2 h3=>(f00 hy2 (hS.keepS q_0_b h1) h2 (zz h1))) z z ?_ z z z z)
  rintro ⟨⟩ W hS
  have ⟨x1,hx1,h⟩:=bnd h
  cases h
  exact .s (ixv hS.p1.lendv hx1 T.u25 T.t3 z z z) z (.s (lde (RV.flat hS.p1.lendv hx1 z) T.t3 z z z z z) z (.qn z (.ret (fin_ret (vs:=[_]) () (rt z rn) z (hS.to [0] z)))))
 have h:=sel_f hb h
 refine .g (.q z (.qn z (.cond z (fun hb=>?_) (fun hb=>?_))))
 ·have h:=sel_t hb h
  refine .g (.q z ?_)
  have ⟨y3,hy3,h⟩:=bnd h
  refine .c (.callS2 (L0:=[.box g_0 100 [(sv v_0_b),.int .i64 y1.2]]) hS Tryz.func36 (fun S h1 h2 h3=>(f00 hy3 (hS.keepS q_0_b h1) h2 (zz h1))) z z ?_ z z z z)
  rintro ⟨⟩ W hS
  refine .q z (.q z ?_)
  have ⟨y4,hy4,h⟩:=bnd h
  refine .c (.callS2 (L0:=[.box g_0 100 [(sv v_0_b),.int .i64 y3.2]]) hS Tryz.func36 (fun S h1 h2 h3=>(f00 hy4 (hS.keepS q_0_b h1) h2 (zz h1))) z z ?_ z z z z)
  rintro ⟨⟩ W hS
  refine .q z (.q z (.q z ?_))
  have ⟨y5,hy5,h⟩:=bnd h
  refine .c (.callS2 (L0:=[.box g_0 100 [(sv v_0_b),.int .i64 y4.2]]) hS Tryz.func36 (fun S h1 h2 h3=>(f00 hy5 (hS.keepS q_0_b h1) h2 (zz h1))) z z ?_ z z z z)
  rintro ⟨⟩ W hS
  refine .q z (.q z ?_)
  have ⟨y6,hy6,h⟩:=bnd h
  refine .c (.callS2 (L0:=[.box g_0 100 [(sv v_0_b),.int .i64 y5.2]]) hS Tryz.func36 (fun S h1 h2 h3=>(f00 hy6 (hS.keepS q_0_b h1) h2 (zz h1))) z z ?_ z z z z)
  rintro ⟨⟩ W hS
  refine .q z (.q z ?_)
  have ⟨y7,hy7,h⟩:=bnd h
  refine .c (.call0 hS Tryz.func68 (f39 hy7) z z ?_ z z z z)
  intro W hS
  cases h
  exact .qn z (.ret (fin_ret (vs:=[_]) () (rt z rn) z (hS.to [0] z)))
 have h:=sel_f hb h
 refine .g (.q z (.qn z (.cond z (fun hb=>?_) (fun hb=>?_))))
 ·have h:=sel_t hb h
  refine .g (.q z ?_)
  have ⟨y8,hy8,h⟩:=bnd h
  refine .c (.callS2 (L0:=[.box g_0 100 [(sv v_0_b),.int .i64 y1.2]]) hS Tryz.func36 (fun S h1 h2 h3=>(f00 hy8 (hS.keepS q_0_b h1) h2 (zz h1))) z z ?_ z z z z)
  rintro ⟨⟩ W hS
  cases h
  exact .q z (.qn z (.ret (fin_ret (vs:=[_]) () (rt z rn) z (hS.to [0] z))))
 have h:=sel_f hb h
 refine .skip (.g (.q z ?_))
 have ⟨y9,hy9,h⟩:=bnd h
 refine .c (.callS2 (L0:=[.box g_0 100 [(sv v_0_b),.int .i64 y1.2]]) hS Tryz.func36 (fun S h1 h2 h3=>(f00 hy9 (hS.keepS q_0_b h1) h2 (zz h1))) z z ?_ z z z z)
 rintro ⟨⟩ W hS
 cases h
 exact .qn z (.ret (fin_ret (vs:=[_]) () (rt z rn) z (hS.to [0] z)))
theorem fbd {a0 : L6Rd} {v_0_b : Hd} {g_0 : Nat} {S : Nat → Prop} {w : World} {r : Int × Int} (h : f7o a0 = some r) (q_0_b : RV w (Old S w) (sv v_0_b) 5 1 (D.int .u8) a0.b) (hO : Owns w [.box g_0 100 [(sv v_0_b),.int .i64 a0.p]] S) (hlt : ∀ b,S b → b < w.heap.size) : Calls Tryz.prog 161 #[.pointer (some ⟨g_0,0,none⟩)] w (Ret S w (fun s : Unit=>.int .i64 r.1) (fun s=>[.box g_0 100 [(sv v_0_b),.int .i64 r.2]])):=by
 unfold f7o at h
 refine enter Tryz.func161 z z ?_
 have hS:=Sep.startM hO hlt
 refine .g (.qn z (.g (.q z ?_)))
 have ⟨y1,hy1,h⟩:=bnd h
 refine .c (.callS2 (L0:=[.box g_0 100 [(sv v_0_b),.int .i64 a0.p]]) hS Tryz.func36 (fun S h1 h2 h3=>(f00 hy1 (hS.keepS q_0_b h1) h2 (zz h1))) z z ?_ z z z z)
 rintro ⟨⟩ W hS
 cases h
 exact .q z (.qn z (.ret (fin_ret (vs:=[_]) () (rt z rn) z (hS.to [0] z))))
theorem fd5 {a0 : L6Rd} {a1 : Int} {v_0_b : Hd} {g_0 : Nat} {S : Nat → Prop} {w : World} {r : Quad × Int} (h : f7j a0 a1 = some r) (q_0_b : RV w (Old S w) (sv v_0_b) 5 1 (D.int .u8) a0.b) (hO : Owns w [.box g_0 100 [(sv v_0_b),.int .i64 a0.p]] S) (hlt : ∀ b,S b → b < w.heap.size) : Calls Tryz.prog 146 #[.pointer (some ⟨g_0,0,none⟩),.int .i64 a1] w (Ret S w (fun s : Unit=>.agg #[.int .i64 r.1.Op,.int .i64 r.1.Dst,.int .i64 r.1.A,.int .i64 r.1.B,.int .i64 r.1.N]) (fun s=>[.box g_0 100 [(sv v_0_b),.int .i64 r.2]])):=by
 unfold f7j at h
 refine enter Tryz.func146 z z ?_
 have hS:=Sep.startM hO hlt
 refine .g (.c (.alloc T.t126 hS ?_ z z z))
 intro g1 W hS
 refine .nil (.seq (.g (.q z ?_)))
 have ⟨y1,hy1,h⟩:=bnd h
 have hS:=hS.p1
 refine .c (.callS2 (L0:=[.box g_0 100 [(sv v_0_b),.int .i64 a0.p]]) hS Tryz.func36 (fun S h1 h2 h3=>(f00 hy1 (hS.keepS q_0_b h1) h2 (zz h1))) z z ?_ z z z z)
 rintro ⟨⟩ W hS
 refine .nil (.block ?_)
 have ⟨y2,hy2,h⟩:=bnd h
 refine .seq (CW.via (R':=fun x E' W'=>x = .normal ∧ SubL E' [(0,.pointer (some ⟨g_0,0,none⟩)),(1,.int .i64 a1),(4,.pointer (some ⟨g1,0,none⟩)),(13,.int .i64 y1.1),(14,.bool y2)] ∧ Sep S w W' [.box g_0 100 [(sv v_0_b),.int .i64 y1.2],.box g1 126 [.int .i64 0,.int .i64 0,.int .i64 0,.int .i64 0,.int .i64 0]]) ?_ ?_)
 ·have h:=hy2
  refine .g (.q z (.q z (.nil ?_)))
  refine .cs z h ?_ ?_ <;> intro h
  ·refine .skip ?_
   cases h
   exact ⟨z,sb z,hS.to [0,0] z⟩
  refine .region (.q z (.q z (.nil ?_)))
  cases h
  exact ⟨z,sb z,hS.to [0,0] z⟩
 intro x E W hJ
 obtain ⟨rfl,hE,hS⟩:=hJ
 refine ⟨_,hE.sub,?_⟩
 refine .cond z (fun hb=>?_) (fun hb=>?_)
 ·have h:=sel_t hb h
  refine .g (.q z ?_)
  have ⟨y3,hy3,h⟩:=bnd h
  refine .c (.callS2 (L0:=[.box g_0 100 [(sv v_0_b),.int .i64 y1.2]]) hS Tryz.func159 (fun S h1 h2 h3=>(f1k hy3 (hS.keepS q_0_b h1) h2 (zz h1))) z z ?_ z z z z)
  rintro ⟨⟩ W hS
  refine .q z ?_
  have ⟨y4,hy4,h⟩:=bnd h
  refine .c (.callS2 (L0:=[.box g_0 100 [(sv v_0_b),.int .i64 y3.2]]) hS Tryz.func160 (fun S h1 h2 h3=>(fdo hy4 (hS.keepS q_0_b h1) h2 (zz h1))) z z ?_ z z z z)
  rintro ⟨⟩ W hS
  refine .c (.liv [0,1,2,y4.1] (D.int .i64) T.u25 T.t3 hS z z z z ?_ z (fun _=>z) z z z z)
  intro v1 W hS
  refine .q z ?_
  have ⟨y5,hy5,h⟩:=bnd h
  have hS:=hS.p1
  refine .c (.callS2 (L0:=[.box g_0 100 [(sv v_0_b),.int .i64 y4.2]]) hS Tryz.func36 (fun S h1 h2 h3=>(f00 hy5 (hS.keepS q_0_b h1) h2 (zz h1))) z z ?_ z z z z)
  rintro ⟨⟩ W hS
  have ⟨x1,hx1,h⟩:=bnd h
  refine .s (ixv hS.p1.lendv hx1 T.u25 T.t3 z z z) z (.s (lde (RV.flat hS.p1.lendv hx1 z) T.t3 z z z z z) z (.s (bs T.s126 z z) z (.c (.st T.t126 hS.p2 z z z ?_ z z z z z))))
  intro W hS
  cases h
  exact .nil (.ret (fin_ret (vs:=[_]) () (rc hS T.t126 z rn z z) z (hS.to [1] z)))
 have h:=sel_f hb h
 have ⟨y6,hy6,h⟩:=bnd h
 refine .seq (CW.via (R':=fun x E' W'=>x = .normal ∧ SubL E' [(0,.pointer (some ⟨g_0,0,none⟩)),(1,.int .i64 a1),(4,.pointer (some ⟨g1,0,none⟩)),(13,.int .i64 y1.1),(27,.bool y6)] ∧ Sep S w W' [.box g_0 100 [(sv v_0_b),.int .i64 y1.2],.box g1 126 [.int .i64 0,.int .i64 0,.int .i64 0,.int .i64 0,.int .i64 0]]) ?_ ?_)
 ·have h:=hy6
  refine .g (.q z (.q z (.nil ?_)))
  refine .cs z h ?_ ?_ <;> intro h
  ·refine .skip ?_
   cases h
   exact ⟨z,sb z,hS.to [0,0] z⟩
  refine .region (.q z (.q z (.nil ?_)))
  cases h
  exact ⟨z,sb z,hS.to [0,0] z⟩
 intro x E W hJ
 obtain ⟨rfl,hE,hS⟩:=hJ
 refine ⟨_,hE.sub,?_⟩
 refine .cond z (fun hb=>?_) (fun hb=>?_)
 ·have h:=sel_t hb h
  refine .g (.q z ?_)
  have ⟨y7,hy7,h⟩:=bnd h
  refine .c (.callS2 (L0:=[.box g_0 100 [(sv v_0_b),.int .i64 y1.2]]) hS Tryz.func159 (fun S h1 h2 h3=>(f1k hy7 (hS.keepS q_0_b h1) h2 (zz h1))) z z ?_ z z z z)
  rintro ⟨⟩ W hS
  refine .qn z (.g (.q z (.q z ?_)))
  have ⟨y8,hy8,h⟩:=bnd h
  refine .c (.callS2 (L0:=[.box g_0 100 [(sv v_0_b),.int .i64 y7.2]]) hS Tryz.func159 (fun S h1 h2 h3=>(f1k hy8 (hS.keepS q_0_b h1) h2 (zz h1))) z z ?_ z z z z)
  rintro ⟨⟩ W hS
  refine .s (bs T.s126 z z) z (.c (.st T.t126 hS.p1 z z z ?_ z z z z z))
  intro W hS
  cases h
  exact .nil (.ret (fin_ret (vs:=[_]) () (rc hS T.t126 z rn z z) z (hS.to [1] z)))
 have h:=sel_f hb h
 have ⟨y9,hy9,h⟩:=bnd h
 refine .seq (CW.via (R':=fun x E' W'=>x = .normal ∧ SubL E' [(0,.pointer (some ⟨g_0,0,none⟩)),(1,.int .i64 a1),(4,.pointer (some ⟨g1,0,none⟩)),(13,.int .i64 y1.1),(36,.bool y9)] ∧ Sep S w W' [.box g_0 100 [(sv v_0_b),.int .i64 y1.2],.box g1 126 [.int .i64 0,.int .i64 0,.int .i64 0,.int .i64 0,.int .i64 0]]) ?_ ?_)
 ·have h:=hy9
  refine .g (.q z (.q z (.nil ?_)))
  refine .cs z h ?_ ?_ <;> intro h
  ·refine .skip ?_
   cases h
   exact ⟨z,sb z,hS.to [0,0] z⟩
  refine .g (.q z (.q z (.nil ?_)))
  refine .cs z h ?_ ?_ <;> intro h
  ·refine .skip ?_
   cases h
   exact ⟨z,sb z,hS.to [0,0] z⟩
  refine .region (.q z (.q z (.nil ?_)))
  cases h
  exact ⟨z,sb z,hS.to [0,0] z⟩
 intro x E W hJ
 obtain ⟨rfl,hE,hS⟩:=hJ
 refine ⟨_,hE.sub,?_⟩
 refine .cond z (fun hb=>?_) (fun hb=>?_)
 ·have h:=sel_t hb h
  refine .g (.q z ?_)
  have ⟨y10,hy10,h⟩:=bnd h
  refine .c (.callS2 (L0:=[.box g_0 100 [(sv v_0_b),.int .i64 y1.2]]) hS Tryz.func159 (fun S h1 h2 h3=>(f1k hy10 (hS.keepS q_0_b h1) h2 (zz h1))) z z ?_ z z z z)
  rintro ⟨⟩ W hS
  refine .qn z (.g (.q z ?_))
  have ⟨y11,hy11,h⟩:=bnd h
  refine .c (.callS2 (L0:=[.box g_0 100 [(sv v_0_b),.int .i64 y10.2]]) hS Tryz.func159 (fun S h1 h2 h3=>(f1k hy11 (hS.keepS q_0_b h1) h2 (zz h1))) z z ?_ z z z z)
  rintro ⟨⟩ W hS
  refine .qn z (.g (.q z ?_))
  have ⟨y12,hy12,h⟩:=bnd h
  refine .c (.callS2 (L0:=[.box g_0 100 [(sv v_0_b),.int .i64 y11.2]]) hS Tryz.func159 (fun S h1 h2 h3=>(f1k hy12 (hS.keepS q_0_b h1) h2 (zz h1))) z z ?_ z z z z)
  rintro ⟨⟩ W hS
  refine .qn z (.g (.q z (.q z (.q z (.q z ?_)))))
  have ⟨y13,hy13,h⟩:=bnd h
  refine .c (.callS2 (L0:=[.box g_0 100 [(sv v_0_b),.int .i64 y12.2]]) hS Tryz.func161 (fun S h1 h2 h3=>(fbd hy13 (hS.keepS q_0_b h1) h2 (zz h1))) z z ?_ z z z z)
  rintro ⟨⟩ W hS
  refine .s (bs T.s126 z z) z (.c (.st T.t126 hS.p1 z z z ?_ z z z z z))
  intro W hS
  cases h
  exact .nil (.ret (fin_ret (vs:=[_]) () (rc hS T.t126 z rn z z) z (hS.to [1] z)))
 have h:=sel_f hb h
 refine .g (.q z (.qn z (.cond z (fun hb=>?_) (fun hb=>?_))))
 ·have h:=sel_t hb h
  refine .g (.q z (.q z ?_))
  have ⟨y14,hy14,h⟩:=bnd h
  refine .c (.callS2 (L0:=[.box g_0 100 [(sv v_0_b),.int .i64 y1.2]]) hS Tryz.func36 (fun S h1 h2 h3=>(f00 hy14 (hS.keepS q_0_b h1) h2 (zz h1))) z z ?_ z z z z)
  rintro ⟨⟩ W hS
  refine .s (bs T.s126 z z) z (.c (.st T.t126 hS.p1 z z z ?_ z z z z z))
  intro W hS
  cases h
  exact .nil (.ret (fin_ret (vs:=[_]) () (rc hS T.t126 z rn z z) z (hS.to [1] z)))
 have h:=sel_f hb h
 refine .g (.q z (.qn z (.cond z (fun hb=>?_) (fun hb=>?_))))
 ·have h:=sel_t hb h
  refine .g (.q z ?_)
  have ⟨y15,hy15,h⟩:=bnd h
  refine .c (.callS2 (L0:=[.box g_0 100 [(sv v_0_b),.int .i64 y1.2]]) hS Tryz.func159 (fun S h1 h2 h3=>(f1k hy15 (hS.keepS q_0_b h1) h2 (zz h1))) z z ?_ z z z z)
  rintro ⟨⟩ W hS
  refine .qn z (.g (.q z (.q z (.q z ?_))))
  have ⟨y16,hy16,h⟩:=bnd h
  refine .c (.callS2 (L0:=[.box g_0 100 [(sv v_0_b),.int .i64 y15.2]]) hS Tryz.func36 (fun S h1 h2 h3=>(f00 hy16 (hS.keepS q_0_b h1) h2 (zz h1))) z z ?_ z z z z)
  rintro ⟨⟩ W hS
  refine .s (bs T.s126 z z) z (.c (.st T.t126 hS.p1 z z z ?_ z z z z z))
  intro W hS
  cases h
  exact .nil (.ret (fin_ret (vs:=[_]) () (rc hS T.t126 z rn z z) z (hS.to [1] z)))
 have h:=sel_f hb h
 refine .g (.q z (.qn z (.cond z (fun hb=>?_) (fun hb=>?_))))
 ·have h:=sel_t hb h
  refine .g (.q z ?_)
  have ⟨y17,hy17,h⟩:=bnd h
  refine .c (.callS2 (L0:=[.box g_0 100 [(sv v_0_b),.int .i64 y1.2]]) hS Tryz.func159 (fun S h1 h2 h3=>(f1k hy17 (hS.keepS q_0_b h1) h2 (zz h1))) z z ?_ z z z z)
  rintro ⟨⟩ W hS
  refine .qn z (.g (.q z (.q z ?_)))
  have ⟨y18,hy18,h⟩:=bnd h
  refine .c (.callS2 (L0:=[.box g_0 100 [(sv v_0_b),.int .i64 y17.2]]) hS Tryz.func36 (fun S h1 h2 h3=>(f00 hy18 (hS.keepS q_0_b h1) h2 (zz h1))) z z ?_ z z z z)
  rintro ⟨⟩ W hS
  refine .s (bs T.s126 z z) z (.c (.st T.t126 hS.p1 z z z ?_ z z z z z))
  intro W hS
  cases h
  exact .nil (.ret (fin_ret (vs:=[_]) () (rc hS T.t126 z rn z z) z (hS.to [1] z)))
 have h:=sel_f hb h
 refine .g (.q z (.qn z (.cond z (fun hb=>?_) (fun hb=>?_))))
 ·have h:=sel_t hb h
  refine .g (.q z ?_)
  have ⟨y19,hy19,h⟩:=bnd h
  refine .c (.callS2 (L0:=[.box g_0 100 [(sv v_0_b),.int .i64 y1.2]]) hS Tryz.func159 (fun S h1 h2 h3=>(f1k hy19 (hS.keepS q_0_b h1) h2 (zz h1))) z z ?_ z z z z)
  rintro ⟨⟩ W hS
  refine .qn z (.g (.q z (.q z ?_)))
  have ⟨y20,hy20,h⟩:=bnd h
  refine .c (.callS2 (L0:=[.box g_0 100 [(sv v_0_b),.int .i64 y19.2]]) hS Tryz.func36 (fun S h1 h2 h3=>(f00 hy20 (hS.keepS q_0_b h1) h2 (zz h1))) z z ?_ z z z z)
  rintro ⟨⟩ W hS
  refine .s (bs T.s126 z z) z (.c (.st T.t126 hS.p1 z z z ?_ z z z z z))
  intro W hS
  cases h
  exact .nil (.ret (fin_ret (vs:=[_]) () (rc hS T.t126 z rn z z) z (hS.to [1] z)))
 have h:=sel_f hb h
 refine .skip (.seq (.g (.q z ?_)))
 have ⟨y21,hy21,h⟩:=bnd h
 refine .c (.callS2 (L0:=[.box g_0 100 [(sv v_0_b),.int .i64 y1.2]]) hS Tryz.func36 (fun S h1 h2 h3=>(f00 hy21 (hS.keepS q_0_b h1) h2 (zz h1))) z z ?_ z z z z)
 rintro ⟨⟩ W hS
 refine .qn z (.cond z (fun hb=>?_) (fun hb=>?_))
 ·have h:=sel_t hb h
  refine .g (.s (bs T.s126 z z) z (.c (.st T.t126 hS.p1 z z z ?_ z z z z z)))
  intro W hS
  cases h
  exact .nil (.ret (fin_ret (vs:=[_]) () (rc hS T.t126 z rn z z) z (hS.to [1] z)))
 have h:=sel_f hb h
 refine .skip (.g (.q z ?_))
 have ⟨y22,hy22,h⟩:=bnd h
 refine .c (.callS2 (L0:=[.box g_0 100 [(sv v_0_b),.int .i64 y21.2]]) hS Tryz.func159 (fun S h1 h2 h3=>(f1k hy22 (hS.keepS q_0_b h1) h2 (zz h1))) z z ?_ z z z z)
 rintro ⟨⟩ W hS
 refine .s (bs T.s126 z z) z (.c (.st T.t126 hS.p1 z z z ?_ z z z z z))
 intro W hS
 cases h
 exact .nil (.ret (fin_ret (vs:=[_]) () (rc hS T.t126 z rn z z) z (hS.to [1] z)))
theorem fa3 {a0 : L6Rd} {v_0_b : Hd} {g_0 : Nat} {S : Nat → Prop} {w : World} {r : (List Quad) × Int} (h : f3s a0 = some r) (q_0_b : RV w (Old S w) (sv v_0_b) 5 1 (D.int .u8) a0.b) (hO : Owns w [.box g_0 100 [(sv v_0_b),.int .i64 a0.p]] S) (hlt : ∀ b,S b → b < w.heap.size) : Calls Tryz.prog 119 #[.pointer (some ⟨g_0,0,none⟩)] w (Ret S w (fun s : Hd=>(sv s)) (fun s=>[.box g_0 100 [(sv v_0_b),.int .i64 r.2],rowV (sv s) 126 5 dQuad r.1])):=by
 unfold f3s at h
 refine enter Tryz.func119 z z ?_
 have hS:=Sep.startM hO hlt
 refine .g (.qn z (.g (.q z ?_)))
 have ⟨y1,hy1,h⟩:=bnd h
 refine .c (.callS2 (L0:=[.box g_0 100 [(sv v_0_b),.int .i64 a0.p]]) hS Tryz.func36 (fun S h1 h2 h3=>(f00 hy1 (hS.keepS q_0_b h1) h2 (zz h1))) z z ?_ z z z z)
 rintro ⟨⟩ W hS
 refine .q z (.qn z (.g (.c (.liv [] dQuad T.u104 T.t126 hS z z z z ?_ z (fun _=>z) z z z z))))
 intro v1 W hS
 refine .qn z (.seq (.g (.qn z (.block ?_))))
 have ⟨y2,hy2,h⟩:=bnd h
 refine .via (.iter (fun s1 E' W'=>∃ (v4 : Hd),SubL E' [(0,.pointer (some ⟨g_0,0,none⟩)),(3,.int .i64 (w64 (1 + y1.1))),(4,(sv v4)),(5,.int .i64 s1.2.1)] ∧ Sep S w W' [.box g_0 100 [(sv v_0_b),.int .i64 s1.2.2],rowV (sv v4) 126 5 dQuad s1.1]) (fun y3 x E' W'=>x = .exit 0 ∧ ∃ (v5 : Hd),SubL E' [(0,.pointer (some ⟨g_0,0,none⟩)),(3,.int .i64 (w64 (1 + y1.1))),(4,(sv v5))] ∧ Sep S w W' [.box g_0 100 [(sv v_0_b),.int .i64 y3.2],rowV (sv v5) 126 5 dQuad y3.1]) hy2 ⟨v1,sb z,hS.to [1,0] z⟩ ?_) ?_
 ·intro s1 y4 E W h hI
  obtain ⟨v3,hE,hS⟩:=hI
  refine CW.sub hE ?_
  unfold f83 at h
  refine .seq (.g (.q z (.q z (.q z (.qn z (.cond z (fun hb=>?_) (fun hb=>?_)))))))
  ·have h:=sel_t hb h
   refine .skip (.seq (.block (.region (.q z (.q z (.q z ?_))))))
   have ⟨y5,hy5,h⟩:=bnd h
   refine .c (.callS2 (L0:=[.box g_0 100 [(sv v_0_b),.int .i64 s1.2.2]]) hS Tryz.func146 (fun S h1 h2 h3=>(fd5 hy5 (hS.keepS q_0_b h1) h2 (zz h1))) z z ?_ z z z z)
   rintro ⟨⟩ W hS
   refine .c (.liv [y5.1] dQuad T.u104 T.t126 hS z z z z ?_ z (fun _=>z) z z z z)
   intro v6 W hS
   have ⟨r1,hr1,h⟩:=bnd h
   have hT0:=hS.p2
   refine .c (.apprv hr1 hT0 hT0.p1.lendv (fun _=>z) T.u104 T.t126 z z z ?_ z z z z z)
   intro v7 W hS
   refine .qn z (.region (.q z (.q z (.q z (.nil ?_)))))
   cases h
   exact ⟨z,v7,sb z,hS.to [2,0] z⟩
  have h:=sel_f hb h
  refine .exit ?_
  cases h
  exact ⟨by simp,z,v3,sb z,hS.to [0,0] z⟩
 intro x E W hJ
 obtain ⟨rfl,v8,hE,hS⟩:=hJ
 refine ⟨_,hE.sub,?_⟩
 refine .seq (.g (.q z ?_))
 have ⟨y6,hy6,h⟩:=bnd h
 refine .c (.callS2 (L0:=[.box g_0 100 [(sv v_0_b),.int .i64 y2.2]]) hS Tryz.func36 (fun S h1 h2 h3=>(f00 hy6 (hS.keepS q_0_b h1) h2 (zz h1))) z z ?_ z z z z)
 rintro ⟨⟩ W hS
 refine .qn z (.cond z (fun hb=>?_) (fun hb=>?_))
 ·have h:=sel_t hb h
  refine .g (.q z (.q z (.q z ?_)))
  have ⟨y7,hy7,h⟩:=bnd h
  refine .c (.callS2 (L0:=[.box g_0 100 [(sv v_0_b),.int .i64 y6.2]]) hS Tryz.func36 (fun S h1 h2 h3=>(f00 hy7 (hS.keepS q_0_b h1) h2 (zz h1))) z z ?_ z z z z)
  rintro ⟨⟩ W hS
  refine .s (bs T.s126 z z) z (.c (.liv [(Quad.mk 4 0 0 0 y7.1)] dQuad T.u104 T.t126 hS z z z z ?_ z (fun _=>z) z z z z))
  intro v9 W hS
  have ⟨r2,hr2,h⟩:=bnd h
  have hT0:=hS.p2
  refine .c (.apprv hr2 hT0 hT0.p1.lendv (fun _=>z) T.u104 T.t126 z z z ?_ z z z z z)
  intro v10 W hS
  cases h
  exact .qn z (.ret (fin_ret (vs:=[_]) v10 (rt z rn) z (hS.to [2,0] z)))
 have h:=sel_f hb h
 refine .skip (.g (.q z (.s (bs T.s126 z z) z (.c (.liv [(Quad.mk 10 0 0 0 0)] dQuad T.u104 T.t126 hS z z z z ?_ z (fun _=>z) z z z z)))))
 intro v11 W hS
 have ⟨r3,hr3,h⟩:=bnd h
 have hT0:=hS.p2
 refine .c (.apprv hr3 hT0 hT0.p1.lendv (fun _=>z) T.u104 T.t126 z z z ?_ z z z z z)
 intro v12 W hS
 cases h
 exact .qn z (.ret (fin_ret (vs:=[_]) v12 (rt z rn) z (hS.to [2,0] z)))
def f6q (F : List Stmt → Option (Int)) : Prop:=∀ {a0 : List Stmt} {v_0 : Hd} {w : World} {r : Int} (h : F a0 = some r) (q_0 : RV w (Old No w) (sv v_0) 160 8 dStmt a0) , Calls Tryz.prog 150 #[(sv v_0)] w (Ret No w (fun s : Unit=>.int .i64 r) (fun s=>[]))
theorem fd9 {k : Nat} {f2h : List Stmt → Option (Int)} (faj : f6q f2h) : f6q (f2f k f2h):=by
 intro a0 v_0 w r h q_0
 unfold f2f at h
 refine enter Tryz.func150 z z ?_
 have hS:=Sep.start w
 refine .g (.qn z (.g (.qn z (.seq (.g (.qn z (.block ?_)))))))
 have ⟨y1,hy1,h⟩:=bnd h
 refine .via (.iter (fun s1 E' W'=>SubL E' [(0,(sv v_0)),(3,.int .i64 s1.1),(4,.int .i64 s1.2)] ∧ Sep No w W' []) (fun y2 x E' W'=>x = .exit 0 ∧ SubL E' [(3,.int .i64 y2)] ∧ Sep No w W' []) hy1 ⟨sb z,hS.to [] z⟩ ?_) ?_
 ·intro s1 y3 E W h hI
  obtain ⟨hE,hS⟩:=hI
  refine CW.sub hE ?_
  unfold f5r at h
  refine .seq (.g (.q z (.q z (.s (lenv (hS.keep q_0) T.u134 z z) z (.q z (.nil ?_))))))
  refine .cs z h ?_ ?_ <;> intro h
  ·refine .skip (.seq (.block (.rk 17 hS [] T.mix ?_)))
   intro W hS
   have hT:=hS.to [] z
   refine .tp 0 z z hT (by kernel_rfl) (.tp 1 z z hT (by kernel_rfl) (.tp 2 z z hT (by kernel_rfl) (.tp 3 z z hT (by kernel_rfl) ?_)))
   have ⟨x1,hx1,h⟩:=bnd h
   obtain ⟨k1,hd,hck1⟩:=RV.el2 q_0 hx1
   have hd1:=raggE (eStmt _) hd
   obtain ⟨k1,rfl,hd2⟩:=rflat q_0 z hd1
   obtain ⟨k1,rfl,hd3⟩:=rflat q_0 z hd2
   obtain ⟨k1,rfl,hd4⟩:=rflat q_0 z hd3
   have hd5:=raggE (eExpr _) hd4
   obtain ⟨k1,rfl,hd6⟩:=rflat q_0 z hd5
   obtain ⟨k1,rfl,hd7⟩:=rflat q_0 z hd6
   obtain ⟨v1,k1,rfl,q1,hd8⟩:=rrowv q_0 hd7
   obtain ⟨v2,k1,rfl,q2,hd9⟩:=rrowv q_0 hd8
   obtain ⟨v3,k1,rfl,q3,hd10⟩:=rrowv q_0 hd9
   obtain rfl:=rnil q_0 hd10
   refine .ts 4 z (fun W hT=>ixv (hS.keep q_0) hx1 T.u134 T.t160 z z z) hT z (by kernel_rfl) (.ts 5 z (fun W hT=>fe T.f160_4 z z z) hT z (by kernel_rfl) (.ts 6 z (fun W hT=>lde (hck1 _ hT.agree) T.t134 z z z z z) hT z (by kernel_rfl) (.tp 9 z z hT (by kernel_rfl) (.tp 10 z z hT (by kernel_rfl) ?_))))
   have ⟨x2,hx2,h⟩:=bnd h
   obtain ⟨k2,hd,hck2⟩:=RV.el2 q_0 hx2
   have hd1:=raggE (eStmt _) hd
   obtain ⟨k2,rfl,hd2⟩:=rflat q_0 z hd1
   obtain ⟨k2,rfl,hd3⟩:=rflat q_0 z hd2
   obtain ⟨k2,rfl,hd4⟩:=rflat q_0 z hd3
   have hd5:=raggE (eExpr _) hd4
   obtain ⟨k2,rfl,hd6⟩:=rflat q_0 z hd5
   obtain ⟨k2,rfl,hd7⟩:=rflat q_0 z hd6
   obtain ⟨v4,k2,rfl,q4,hd8⟩:=rrowv q_0 hd7
   obtain ⟨v5,k2,rfl,q5,hd9⟩:=rrowv q_0 hd8
   obtain ⟨v6,k2,rfl,q6,hd10⟩:=rrowv q_0 hd9
   obtain rfl:=rnil q_0 hd10
   refine .ts 11 z (fun W hT=>ixv (hS.keep q_0) hx2 T.u134 T.t160 z z z) hT z (by kernel_rfl) (.ts 12 z (fun W hT=>fe T.f160_5 z z z) hT z (by kernel_rfl) (.ts 13 z (fun W hT=>lde (hck2 _ hT.agree) T.t134 z z z z z) hT z (by kernel_rfl) ?_))
   have ⟨y4,hy4,h⟩:=bnd h
   refine .by1 7 z (.call0 hS Tryz.func150 (faj hy4 (hS.keep (q2 _ q_0))) z z ?_ z z z z) (by kernel_rfl)
   intro W hS
   have hT:=hS.to [] z
   refine ⟨fun _=>hT,.tp 8 z z hT (by kernel_rfl) ?_⟩
   have ⟨y5,hy5,h⟩:=bnd h
   refine .by1 14 z (.call0 hS Tryz.func150 (faj hy5 (hS.keep (q6 _ q_0))) z z ?_ z z z z) (by kernel_rfl)
   intro W hS
   have hT:=hS.to [] z
   refine ⟨fun _=>hT,.tp 15 z z hT (by kernel_rfl) (.tp 16 z z hT (by kernel_rfl) (.done (.region (.q z (.q z (.q z (.nil ?_))))) (by kernel_rfl)))⟩
   cases h
   exact ⟨z,sb z,hS.to [] z⟩
  refine .exit ?_
  cases h
  exact ⟨by simp,z,sb z,hS.to [] z⟩
 intro x E W hJ
 obtain ⟨rfl,hE,hS⟩:=hJ
 refine ⟨_,hE.sub,?_⟩
 obtain rfl:=Option.some.inj h
 exact .g (.q z (.qn z (.ret (fin_ret (vs:=[_]) () (rt z rn) z (hS.to [] z)))))
theorem fba (k : Nat) : f6q (f22 k):=by
  induction k with
  | zero=>exact by intro a0 v_0 w r h q_0; exact no h
  | succ k ih=>exact fd9 (k:=k) ih
theorem fai {k : Nat} : f6q (f22 k):=(fba k)
theorem f08 {a0 : Int} {a1 : Int} {a2 : Int} {w : World} {r : Bool} (h : f05 a0 a1 a2 = some r) : Calls Tryz.prog 48 #[.int .i64 a0,.int .i64 a1,.int .i64 a2] w (Ret No w (fun s : Unit=>.bool r) (fun s=>[])):=by
 unfold f05 at h
 refine enter Tryz.func48 z z ?_
 have hS:=Sep.start w
 refine .g (.qn z (.g (.q z (.q z (.q z (.q z (.chunk 4 14 ((decide (a0 ≥ a1)) && (decide (a0 ≤ a2))) hS ?_ ?_)))))))
 ·refine .both (decide (a0 ≥ a1)) (fun hb=>?_) (fun hb=>?_)
  ·have hg1:=hb
   exact .g hg1 (.q z (.g hg1 (.q z (.g hg1 (.q z (.s (pkt hg1 z z z) z (.nil (ck 4 hS z (and_t hg1) z z)))) z)) z)) z
  exact .xx hb z (.xx hb z (.xx hb z (.s (pkf hb z z z) z (.nil (ck 4 hS z (and_f hb) z z)))))
 intro W hS
 cases h
 exact .qn z (.ret (fin_ret (vs:=[_]) () (rt z rn) z (hS.to [] z)))
theorem f3y {a0 : Stmt} {a1 : Bool} {v_0_Expr_Args : Hd} {v_0_Body : Hd} {v_0_Else : Hd} {w : World} {r : Bool} (h : f32 a0 a1 = some r) (q_0_Expr_Args : RV w (Old No w) (sv v_0_Expr_Args) 158 3 dExpr a0.Expr.Args) (q_0_Body : RV w (Old No w) (sv v_0_Body) 160 8 dStmt a0.Body) (q_0_Else : RV w (Old No w) (sv v_0_Else) 160 8 dStmt a0.Else) : Calls Tryz.prog 193 #[.agg #[.int .i64 a0.Kind,.int .i64 a0.Var,.int .i64 a0.Box,.int .i64 a0.Expr.Op,.int .i64 a0.Expr.N,(sv v_0_Expr_Args),(sv v_0_Body),(sv v_0_Else)],.bool a1] w (Ret No w (fun s : Unit=>.bool r) (fun s=>[])):=by
 unfold f32 at h
 refine enter Tryz.func193 z z ?_
 have hS:=Sep.start w
 refine .g (.c (.box hS z z ?_ z z))
 intro g1 W hS
 refine .qn z (.seq (.g (.q z (.nil ?_))))
 refine .cs z h ?_ ?_ <;> intro h
 ·refine .g (.s (fa T.f160_1 z z z) z (.s (ld T.t3 hS z z z z z) z ?_))
  have ⟨y1,hy1,h⟩:=bnd h
  refine .c (.call0 hS Tryz.func48 (f08 hy1) z z ?_ z z z z)
  intro W hS
  obtain rfl:=Option.some.inj h
  exact .qn z (.ret (fin_ret (vs:=[_]) () (rt z rn) z (hS.to [] z)))
 cases h
 exact .skip (.g (.s (fa T.f160_1 z z z) z (.s (ld T.t3 hS z z z z z) z (.q z (.qn z (.ret (fin_ret (vs:=[_]) () (rt z rn) z (hS.to [] z))))))))
theorem f3u {a0 : Stmt} {a1 : Bool} {v_0_Expr_Args : Hd} {v_0_Body : Hd} {v_0_Else : Hd} {w : World} {r : Bool} (h : f31 a0 a1 = some r) (q_0_Expr_Args : RV w (Old No w) (sv v_0_Expr_Args) 158 3 dExpr a0.Expr.Args) (q_0_Body : RV w (Old No w) (sv v_0_Body) 160 8 dStmt a0.Body) (q_0_Else : RV w (Old No w) (sv v_0_Else) 160 8 dStmt a0.Else) : Calls Tryz.prog 194 #[.agg #[.int .i64 a0.Kind,.int .i64 a0.Var,.int .i64 a0.Box,.int .i64 a0.Expr.Op,.int .i64 a0.Expr.N,(sv v_0_Expr_Args),(sv v_0_Body),(sv v_0_Else)],.bool a1] w (Ret No w (fun s : Unit=>.bool r) (fun s=>[])):=by
 unfold f31 at h
 refine enter Tryz.func194 z z ?_
 have hS:=Sep.start w
 refine .g (.c (.box hS z z ?_ z z))
 intro g1 W hS
 refine .qn z (.seq (.g (.q z (.nil ?_))))
 refine .cs z h ?_ ?_ <;> intro h
 ·refine .g (.s (fa T.f160_2 z z z) z (.s (ld T.t3 hS z z z z z) z ?_))
  have ⟨y1,hy1,h⟩:=bnd h
  refine .c (.call0 hS Tryz.func48 (f08 hy1) z z ?_ z z z z)
  intro W hS
  obtain rfl:=Option.some.inj h
  exact .qn z (.ret (fin_ret (vs:=[_]) () (rt z rn) z (hS.to [] z)))
 cases h
 exact .skip (.g (.s (fa T.f160_2 z z z) z (.s (ld T.t3 hS z z z z z) z (.q z (.qn z (.ret (fin_ret (vs:=[_]) () (rt z rn) z (hS.to [] z))))))))
theorem f95 {a0 : Int} {w : World} {r : Bool} (h : f46 a0 = some r) : Calls Tryz.prog 155 #[.int .i64 a0] w (Ret No w (fun s : Unit=>.bool r) (fun s=>[])):=by
 unfold f46 at h
 refine enter Tryz.func155 z z ?_
 have hS:=Sep.start w
 refine .g (.qn z (.g (.q z ?_)))
 have ⟨y1,hy1,h⟩:=bnd h
 refine .c (.call0 hS Tryz.func48 (f08 hy1) z z ?_ z z z z)
 intro W hS
 obtain rfl:=Option.some.inj h
 exact .qn z (.ret (fin_ret (vs:=[_]) () (rt z rn) z (hS.to [] z)))
def f9s (F : Expr → Int → Option (Bool)) : Prop:=∀ {a0 : Expr} {a1 : Int} {v_0_Args : Hd} {w : World} {r : Bool} (h : F a0 a1 = some r) (q_0_Args : RV w (Old No w) (sv v_0_Args) 158 3 dExpr a0.Args) , Calls Tryz.prog 209 #[.agg #[.int .i64 a0.Op,.int .i64 a0.N,(sv v_0_Args)],.int .i64 a1] w (Ret No w (fun s : Unit=>.bool r) (fun s=>[]))
theorem fen {k : Nat} {f84 : Expr → Int → Option (Bool)} (fbo : f9s f84) : f9s (f88 k f84):=by
 intro a0 a1 v_0_Args w r h q_0_Args
 unfold f88 at h
 refine enter Tryz.func209 z z ?_
 have hS:=Sep.start w
 refine .g (.c (.box hS z z ?_ z z))
 intro g1 W hS
 refine .qn z (.seq (.g (.q z (.q z (.nil ?_)))))
 refine .cs z h ?_ ?_ <;> intro h
 ·obtain rfl:=Option.some.inj h
  exact .g (.qn z (.ret (fin_ret (vs:=[_]) () (rt z rn) z (hS.to [] z))))
 refine .skip (.seq (.g (.s (fa T.f158_0 z z z) z (.s (ld T.t3 hS z z z z z) z (.q z (.nil ?_))))))
 refine .cs z h ?_ ?_ <;> intro h
 ·refine .g (.s (fa T.f158_1 z z z) z (.s (ld T.t3 hS z z z z z) z ?_))
  have ⟨y1,hy1,h⟩:=bnd h
  refine .c (.call0 hS Tryz.func48 (f08 hy1) z z ?_ z z z z)
  intro W hS
  refine .q z (.chunk 5 18 (y1 && ((a0.Args.length : Int) == 0)) hS ?_ ?_)
  ·refine .both (y1) (fun hb=>?_) (fun hb=>?_)
   ·have hg1:=hb
    exact .g hg1 (.s (fa T.f158_2 z z z) z (.g hg1 (.s (ld T.t156 hS z z z z z) z (.g hg1 (.s (lenv (hS.keep q_0_Args) T.u156 z z) z (.g hg1 (.q z (.s (pkt hg1 z z z) z (.nil (ck 5 hS z (and_t hg1) z z)))) z)) z)) z)) z
   exact .xx hb z (.xx hb z (.xx hb z (.xx hb z (.s (pkf hb z z z) z (.nil (ck 5 hS z (and_f hb) z z))))))
  intro W hS
  cases h
  exact .qn z (.ret (fin_ret (vs:=[_]) () (rt z rn) z (hS.to [] z)))
 refine .skip (.seq (.g (.s (fa T.f158_0 z z z) z (.s (ld T.t3 hS z z z z z) z (.q z (.nil ?_))))))
 refine .cs z h ?_ ?_ <;> intro h
 ·refine .g (.s (fa T.f158_1 z z z) z (.s (ld T.t3 hS z z z z z) z ?_))
  have ⟨y2,hy2,h⟩:=bnd h
  refine .c (.call0 hS Tryz.func48 (f08 hy2) z z ?_ z z z z)
  intro W hS
  refine .q z (.chunk 5 30 (y2 && ((a0.Args.length : Int) == 0)) hS ?_ ?_)
  ·refine .both (y2) (fun hb=>?_) (fun hb=>?_)
   ·have hg2:=hb
    exact .g hg2 (.s (fa T.f158_2 z z z) z (.g hg2 (.s (ld T.t156 hS z z z z z) z (.g hg2 (.s (lenv (hS.keep q_0_Args) T.u156 z z) z (.g hg2 (.q z (.s (pkt hg2 z z z) z (.nil (ck 5 hS z (and_t hg2) z z)))) z)) z)) z)) z
   exact .xx hb z (.xx hb z (.xx hb z (.xx hb z (.s (pkf hb z z z) z (.nil (ck 5 hS z (and_f hb) z z))))))
  intro W hS
  cases h
  exact .qn z (.ret (fin_ret (vs:=[_]) () (rt z rn) z (hS.to [] z)))
 refine .skip (.g (.s (fa T.f158_0 z z z) z (.s (ld T.t3 hS z z z z z) z ?_)))
 have ⟨y3,hy3,h⟩:=bnd h
 refine .c (.call0 hS Tryz.func155 (f95 hy3) z z ?_ z z z z)
 intro W hS
 refine .q z (.chunk 4 38 (y3 && (a0.N == 0)) hS ?_ ?_)
 ·refine .both (y3) (fun hb=>?_) (fun hb=>?_)
  ·have hg3:=hb
   exact .g hg3 (.s (fa T.f158_1 z z z) z (.g hg3 (.s (ld T.t3 hS z z z z z) z (.g hg3 (.q z (.s (pkt hg3 z z z) z (.nil (ck 4 hS z (and_t hg3) z z)))) z)) z)) z
  exact .xx hb z (.xx hb z (.xx hb z (.s (pkf hb z z z) z (.nil (ck 4 hS z (and_f hb) z z)))))
 intro W hS
 refine .q z (.chunk 5 44 ((y3 && (a0.N == 0)) && ((a0.Args.length : Int) == 2)) hS ?_ ?_)
 ·refine .both (y3 && (a0.N == 0)) (fun hb=>?_) (fun hb=>?_)
  ·have hg4:=hb
   exact .g hg4 (.s (fa T.f158_2 z z z) z (.g hg4 (.s (ld T.t156 hS z z z z z) z (.g hg4 (.s (lenv (hS.keep q_0_Args) T.u156 z z) z (.g hg4 (.q z (.s (pkt hg4 z z z) z (.nil (ck 5 hS z (and_t hg4) z z)))) z)) z)) z)) z
  exact .xx hb z (.xx hb z (.xx hb z (.xx hb z (.s (pkf hb z z z) z (.nil (ck 5 hS z (and_f hb) z z))))))
 intro W hS
 refine .q z ?_
 have ⟨b1,hb1,h⟩:=bnd h
 refine .chunk 8 53 (b1) hS ?_ ?_
 ·refine .both ((y3 && (a0.N == 0)) && ((a0.Args.length : Int) == 2)) (fun hb=>?_) (fun hb=>?_)
  ·have hg5:=hb
   have h:=sel_t hb hb1
   refine .g hg5 (.s (fa T.f158_2 z z z) z (.g hg5 (.s (ld T.t156 hS z z z z z) z ?_) z)) z
   have ⟨x1,hx1,h⟩:=bnd h
   obtain ⟨k1,hd,hck1⟩:=RV.el2 q_0_Args hx1
   have hd1:=raggE (eExpr _) hd
   obtain ⟨k1,rfl,hd2⟩:=rflat q_0_Args z hd1
   obtain ⟨k1,rfl,hd3⟩:=rflat q_0_Args z hd2
   obtain ⟨v1,k1,rfl,q1,hd4⟩:=rrowv q_0_Args hd3
   obtain rfl:=rnil q_0_Args hd4
   refine .g hg5 (.s (ixv (hS.keep q_0_Args) hx1 T.u156 T.t158 z z z) z (.g hg5 (.s (lde (hck1 _ hS.agree) T.t158 z z z z z) z (.g hg5 (.q z (.g hg5 (.q z ?_) z)) z)) z)) z
   have ⟨y4,hy4,h⟩:=bnd h
   refine .g hg5 (.c (.call0 hS Tryz.func209 (fbo hy4 (hS.keep (q1 _ q_0_Args))) z z ?_ z z z z)) z
   intro W hS
   refine .s (pkt hg5 z z z) z ?_
   cases h
   exact .nil (ck 8 hS z z z z)
  refine .xx hb z (.xx hb z (.xx hb z (.xx hb z (.xx hb z (.xx hb z (.xx hb z ?_))))))
  cases sel_f hb hb1
  exact .s (pkf hb z z z) z (.nil (ck 8 hS z z z z))
 intro W hS
 refine .q z ?_
 have ⟨b2,hb2,h⟩:=bnd h
 refine .chunk 8 62 (b2) hS ?_ ?_
 ·refine .both (b1) (fun hb=>?_) (fun hb=>?_)
  ·have hg6:=hb
   have h:=sel_t hb hb2
   refine .g hg6 (.s (fa T.f158_2 z z z) z (.g hg6 (.s (ld T.t156 hS z z z z z) z ?_) z)) z
   have ⟨x2,hx2,h⟩:=bnd h
   obtain ⟨k2,hd,hck2⟩:=RV.el2 q_0_Args hx2
   have hd1:=raggE (eExpr _) hd
   obtain ⟨k2,rfl,hd2⟩:=rflat q_0_Args z hd1
   obtain ⟨k2,rfl,hd3⟩:=rflat q_0_Args z hd2
   obtain ⟨v2,k2,rfl,q2,hd4⟩:=rrowv q_0_Args hd3
   obtain rfl:=rnil q_0_Args hd4
   refine .g hg6 (.s (ixv (hS.keep q_0_Args) hx2 T.u156 T.t158 z z z) z (.g hg6 (.s (lde (hck2 _ hS.agree) T.t158 z z z z z) z (.g hg6 (.q z (.g hg6 (.q z ?_) z)) z)) z)) z
   have ⟨y5,hy5,h⟩:=bnd h
   refine .g hg6 (.c (.call0 hS Tryz.func209 (fbo hy5 (hS.keep (q2 _ q_0_Args))) z z ?_ z z z z)) z
   intro W hS
   refine .s (pkt hg6 z z z) z ?_
   cases h
   exact .nil (ck 8 hS z z z z)
  refine .xx hb z (.xx hb z (.xx hb z (.xx hb z (.xx hb z (.xx hb z (.xx hb z ?_))))))
  cases sel_f hb hb2
  exact .s (pkf hb z z z) z (.nil (ck 8 hS z z z z))
 intro W hS
 obtain rfl:=Option.some.inj h
 exact .qn z (.ret (fin_ret (vs:=[_]) () (rt z rn) z (hS.to [] z)))
theorem fcx (k : Nat) : f9s (f9y k):=by
  induction k with
  | zero=>exact by intro a0 a1 v_0_Args w r h q_0_Args; exact no h
  | succ k ih=>exact fen (k:=k) ih
theorem fek {k : Nat} : f9s (f9y k):=(fcx k)
theorem f4v {k : Nat} {a0 : Expr} {v_0_Args : Hd} {w : World} {r : Bool} (h : f1t k a0 = some r) (q_0_Args : RV w (Old No w) (sv v_0_Args) 158 3 dExpr a0.Args) : Calls Tryz.prog 195 #[.agg #[.int .i64 a0.Op,.int .i64 a0.N,(sv v_0_Args)]] w (Ret No w (fun s : Unit=>.bool r) (fun s=>[])):=by
 unfold f1t at h
 refine enter Tryz.func195 z z ?_
 have hS:=Sep.start w
 refine .g (.c (.box hS z z ?_ z z))
 intro g1 W hS
 refine .qn z (.g (.s (ld T.t158 hS z z z z z) z ?_))
 have ⟨y1,hy1,h⟩:=bnd h
 refine .c (.call0 hS Tryz.func209 (fek hy1 (hS.keep q_0_Args)) z z ?_ z z z z)
 intro W hS
 obtain rfl:=Option.some.inj h
 exact .qn z (.ret (fin_ret (vs:=[_]) () (rt z rn) z (hS.to [] z)))
theorem faa {a0 : Expr} {v_0_Args : Hd} {w : World} {r : Bool} (h : f4g a0 = some r) (q_0_Args : RV w (Old No w) (sv v_0_Args) 158 3 dExpr a0.Args) : Calls Tryz.prog 208 #[.agg #[.int .i64 a0.Op,.int .i64 a0.N,(sv v_0_Args)]] w (Ret No w (fun s : Unit=>.bool r) (fun s=>[])):=by
 unfold f4g at h
 refine enter Tryz.func208 z z ?_
 have hS:=Sep.start w
 refine .g (.c (.box hS z z ?_ z z))
 intro g1 W hS
 refine .qn z (.g (.s (fa T.f158_0 z z z) z (.s (ld T.t3 hS z z z z z) z (.q z (.q z (.chunk 4 10 ((a0.Op == 0) && (a0.N == 0)) hS ?_ ?_))))))
 ·refine .both (a0.Op == 0) (fun hb=>?_) (fun hb=>?_)
  ·have hg1:=hb
   exact .g hg1 (.s (fa T.f158_1 z z z) z (.g hg1 (.s (ld T.t3 hS z z z z z) z (.g hg1 (.q z (.s (pkt hg1 z z z) z (.nil (ck 4 hS z (and_t hg1) z z)))) z)) z)) z
  exact .xx hb z (.xx hb z (.xx hb z (.s (pkf hb z z z) z (.nil (ck 4 hS z (and_f hb) z z)))))
 intro W hS
 refine .q z (.chunk 5 16 (((a0.Op == 0) && (a0.N == 0)) && ((a0.Args.length : Int) == 0)) hS ?_ ?_)
 ·refine .both ((a0.Op == 0) && (a0.N == 0)) (fun hb=>?_) (fun hb=>?_)
  ·have hg2:=hb
   exact .g hg2 (.s (fa T.f158_2 z z z) z (.g hg2 (.s (ld T.t156 hS z z z z z) z (.g hg2 (.s (lenv (hS.keep q_0_Args) T.u156 z z) z (.g hg2 (.q z (.s (pkt hg2 z z z) z (.nil (ck 5 hS z (and_t hg2) z z)))) z)) z)) z)) z
  exact .xx hb z (.xx hb z (.xx hb z (.xx hb z (.s (pkf hb z z z) z (.nil (ck 5 hS z (and_f hb) z z))))))
 intro W hS
 cases h
 exact .qn z (.ret (fin_ret (vs:=[_]) () (rt z rn) z (hS.to [] z)))
theorem fbv {k : Nat} {a0 : Stmt} {v_0_Expr_Args : Hd} {v_0_Body : Hd} {v_0_Else : Hd} {w : World} {r : Bool} (h : f40 k a0 = some r) (q_0_Expr_Args : RV w (Old No w) (sv v_0_Expr_Args) 158 3 dExpr a0.Expr.Args) (q_0_Body : RV w (Old No w) (sv v_0_Body) 160 8 dStmt a0.Body) (q_0_Else : RV w (Old No w) (sv v_0_Else) 160 8 dStmt a0.Else) : Calls Tryz.prog 192 #[.agg #[.int .i64 a0.Kind,.int .i64 a0.Var,.int .i64 a0.Box,.int .i64 a0.Expr.Op,.int .i64 a0.Expr.N,(sv v_0_Expr_Args),(sv v_0_Body),(sv v_0_Else)]] w (Ret No w (fun s : Unit=>.bool r) (fun s=>[])):=by
 unfold f40 at h
 refine enter Tryz.func192 z z ?_
 have hS:=Sep.start w
 refine .g (.c (.box hS z z ?_ z z))
 intro g1 W hS
 refine .qn z (.seq (.g (.s (fa T.f160_4 z z z) z (.s (ld T.t134 hS z z z z z) z (.s (lenv (hS.keep q_0_Body) T.u134 z z) z (.q z (.q z (.chunk 5 12 ((decide ((a0.Body.length : Int) > 0)) || (decide ((a0.Else.length : Int) > 0))) hS ?_ ?_))))))))
 ·refine .both (decide ((a0.Body.length : Int) > 0)) (fun hb=>?_) (fun hb=>?_)
  ·exact .xx hb z (.xx hb z (.xx hb z (.xx hb z (.s (pkt hb z z z) z (.nil (ck 5 hS z (or_t hb) z z))))))
  have hg1:=hb
  exact .g hg1 (.s (fa T.f160_5 z z z) z (.g hg1 (.s (ld T.t134 hS z z z z z) z (.g hg1 (.s (lenv (hS.keep q_0_Else) T.u134 z z) z (.g hg1 (.q z (.s (pkf hg1 z z z) z (.nil (ck 5 hS z (or_f hg1) z z)))) z)) z)) z)) z
 intro W hS
 refine .nil ?_
 refine .cs z h ?_ ?_ <;> intro h
 ·obtain rfl:=Option.some.inj h
  exact .g (.qn z (.ret (fin_ret (vs:=[_]) () (rt z rn) z (hS.to [] z))))
 refine .skip (.seq (.g (.s (fa T.f160_0 z z z) z (.s (ld T.t3 hS z z z z z) z (.nil (.block (.g (.q z (.q z (.nil ?_))))))))))
 refine .cs z h ?_ ?_ <;> intro h
 ·refine .g (.s (ld T.t160 hS z z z z z) z ?_)
  have ⟨y1,hy1,h⟩:=bnd h
  refine .c (.call0 hS Tryz.func193 (f3y hy1 (hS.keep q_0_Expr_Args) (hS.keep q_0_Body) (hS.keep q_0_Else)) z z ?_ z z z z)
  intro W hS
  refine .q z ?_
  have ⟨b1,hb1,h⟩:=bnd h
  refine .chunk 3 22 (b1) hS ?_ ?_
  ·refine .both (y1) (fun hb=>?_) (fun hb=>?_)
   ·have hg2:=hb
    have h:=sel_t hb hb1
    refine .g hg2 (.s (ld T.t160 hS z z z z z) z ?_) z
    have ⟨y2,hy2,h⟩:=bnd h
    refine .g hg2 (.c (.call0 hS Tryz.func194 (f3u hy2 (hS.keep q_0_Expr_Args) (hS.keep q_0_Body) (hS.keep q_0_Else)) z z ?_ z z z z)) z
    intro W hS
    refine .s (pkt hg2 z z z) z ?_
    cases h
    exact .nil (ck 3 hS z z z z)
   refine .xx hb z (.xx hb z ?_)
   cases sel_f hb hb1
   exact .s (pkf hb z z z) z (.nil (ck 3 hS z z z z))
  intro W hS
  refine .q z ?_
  have ⟨b2,hb2,h⟩:=bnd h
  refine .chunk 4 27 (b2) hS ?_ ?_
  ·refine .both (b1) (fun hb=>?_) (fun hb=>?_)
   ·have hg3:=hb
    have h:=sel_t hb hb2
    refine .g hg3 (.s (fa T.f160_3 z z z) z (.g hg3 (.s (ld T.t158 hS z z z z z) z ?_) z)) z
    have ⟨y3,hy3,h⟩:=bnd h
    refine .g hg3 (.c (.call0 hS Tryz.func195 (f4v hy3 (hS.keep q_0_Expr_Args)) z z ?_ z z z z)) z
    intro W hS
    refine .s (pkt hg3 z z z) z ?_
    cases h
    exact .nil (ck 4 hS z z z z)
   refine .xx hb z (.xx hb z (.xx hb z ?_))
   cases sel_f hb hb2
   exact .s (pkf hb z z z) z (.nil (ck 4 hS z z z z))
  intro W hS
  obtain rfl:=Option.some.inj h
  exact .qn z (.ret (fin_ret (vs:=[_]) () (rt z rn) z (hS.to [] z)))
 refine .g (.q z (.q z (.nil ?_)))
 refine .cs z h ?_ ?_ <;> intro h
 ·refine .g (.s (ld T.t160 hS z z z z z) z ?_)
  have ⟨y4,hy4,h⟩:=bnd h
  refine .c (.call0 hS Tryz.func193 (f3y hy4 (hS.keep q_0_Expr_Args) (hS.keep q_0_Body) (hS.keep q_0_Else)) z z ?_ z z z z)
  intro W hS
  refine .q z ?_
  have ⟨b3,hb3,h⟩:=bnd h
  refine .chunk 3 35 (b3) hS ?_ ?_
  ·refine .both (y4) (fun hb=>?_) (fun hb=>?_)
   ·have hg4:=hb
    have h:=sel_t hb hb3
    refine .g hg4 (.s (ld T.t160 hS z z z z z) z ?_) z
    have ⟨y5,hy5,h⟩:=bnd h
    refine .g hg4 (.c (.call0 hS Tryz.func194 (f3u hy5 (hS.keep q_0_Expr_Args) (hS.keep q_0_Body) (hS.keep q_0_Else)) z z ?_ z z z z)) z
    intro W hS
    refine .s (pkt hg4 z z z) z ?_
    cases h
    exact .nil (ck 3 hS z z z z)
   refine .xx hb z (.xx hb z ?_)
   cases sel_f hb hb3
   exact .s (pkf hb z z z) z (.nil (ck 3 hS z z z z))
  intro W hS
  refine .q z ?_
  have ⟨b4,hb4,h⟩:=bnd h
  refine .chunk 4 40 (b4) hS ?_ ?_
  ·refine .both (b3) (fun hb=>?_) (fun hb=>?_)
   ·have hg5:=hb
    have h:=sel_t hb hb4
    refine .g hg5 (.s (fa T.f160_3 z z z) z (.g hg5 (.s (ld T.t158 hS z z z z z) z ?_) z)) z
    have ⟨y6,hy6,h⟩:=bnd h
    refine .g hg5 (.c (.call0 hS Tryz.func195 (f4v hy6 (hS.keep q_0_Expr_Args)) z z ?_ z z z z)) z
    intro W hS
    refine .s (pkt hg5 z z z) z ?_
    cases h
    exact .nil (ck 4 hS z z z z)
   refine .xx hb z (.xx hb z (.xx hb z ?_))
   cases sel_f hb hb4
   exact .s (pkf hb z z z) z (.nil (ck 4 hS z z z z))
  intro W hS
  obtain rfl:=Option.some.inj h
  exact .qn z (.ret (fin_ret (vs:=[_]) () (rt z rn) z (hS.to [] z)))
 refine .g (.q z (.q z (.nil ?_)))
 refine .cs z h ?_ ?_ <;> intro h
 ·refine .g (.s (ld T.t160 hS z z z z z) z ?_)
  have ⟨y7,hy7,h⟩:=bnd h
  refine .c (.call0 hS Tryz.func193 (f3y hy7 (hS.keep q_0_Expr_Args) (hS.keep q_0_Body) (hS.keep q_0_Else)) z z ?_ z z z z)
  intro W hS
  refine .q z ?_
  have ⟨b5,hb5,h⟩:=bnd h
  refine .chunk 3 48 (b5) hS ?_ ?_
  ·refine .both (y7) (fun hb=>?_) (fun hb=>?_)
   ·have hg6:=hb
    have h:=sel_t hb hb5
    refine .g hg6 (.s (ld T.t160 hS z z z z z) z ?_) z
    have ⟨y8,hy8,h⟩:=bnd h
    refine .g hg6 (.c (.call0 hS Tryz.func194 (f3u hy8 (hS.keep q_0_Expr_Args) (hS.keep q_0_Body) (hS.keep q_0_Else)) z z ?_ z z z z)) z
    intro W hS
    refine .s (pkt hg6 z z z) z ?_
    cases h
    exact .nil (ck 3 hS z z z z)
   refine .xx hb z (.xx hb z ?_)
   cases sel_f hb hb5
   exact .s (pkf hb z z z) z (.nil (ck 3 hS z z z z))
  intro W hS
  refine .q z ?_
  have ⟨b6,hb6,h⟩:=bnd h
  refine .chunk 4 53 (b6) hS ?_ ?_
  ·refine .both (b5) (fun hb=>?_) (fun hb=>?_)
   ·have hg7:=hb
    have h:=sel_t hb hb6
    refine .g hg7 (.s (fa T.f160_3 z z z) z (.g hg7 (.s (ld T.t158 hS z z z z z) z ?_) z)) z
    have ⟨y9,hy9,h⟩:=bnd h
    refine .g hg7 (.c (.call0 hS Tryz.func208 (faa hy9 (hS.keep q_0_Expr_Args)) z z ?_ z z z z)) z
    intro W hS
    refine .s (pkt hg7 z z z) z ?_
    cases h
    exact .nil (ck 4 hS z z z z)
   refine .xx hb z (.xx hb z (.xx hb z ?_))
   cases sel_f hb hb6
   exact .s (pkf hb z z z) z (.nil (ck 4 hS z z z z))
  intro W hS
  obtain rfl:=Option.some.inj h
  exact .qn z (.ret (fin_ret (vs:=[_]) () (rt z rn) z (hS.to [] z)))
 refine .g (.q z (.q z (.nil ?_)))
 refine .cs z h ?_ ?_ <;> intro h
 ·refine .g (.s (ld T.t160 hS z z z z z) z ?_)
  have ⟨y10,hy10,h⟩:=bnd h
  refine .c (.call0 hS Tryz.func193 (f3y hy10 (hS.keep q_0_Expr_Args) (hS.keep q_0_Body) (hS.keep q_0_Else)) z z ?_ z z z z)
  intro W hS
  refine .q z ?_
  have ⟨b7,hb7,h⟩:=bnd h
  refine .chunk 3 61 (b7) hS ?_ ?_
  ·refine .both (y10) (fun hb=>?_) (fun hb=>?_)
   ·have hg8:=hb
    have h:=sel_t hb hb7
    refine .g hg8 (.s (ld T.t160 hS z z z z z) z ?_) z
    have ⟨y11,hy11,h⟩:=bnd h
    refine .g hg8 (.c (.call0 hS Tryz.func194 (f3u hy11 (hS.keep q_0_Expr_Args) (hS.keep q_0_Body) (hS.keep q_0_Else)) z z ?_ z z z z)) z
    intro W hS
    refine .s (pkt hg8 z z z) z ?_
    cases h
    exact .nil (ck 3 hS z z z z)
   refine .xx hb z (.xx hb z ?_)
   cases sel_f hb hb7
   exact .s (pkf hb z z z) z (.nil (ck 3 hS z z z z))
  intro W hS
  refine .q z ?_
  have ⟨b8,hb8,h⟩:=bnd h
  refine .chunk 4 66 (b8) hS ?_ ?_
  ·refine .both (b7) (fun hb=>?_) (fun hb=>?_)
   ·have hg9:=hb
    have h:=sel_t hb hb8
    refine .g hg9 (.s (fa T.f160_3 z z z) z (.g hg9 (.s (ld T.t158 hS z z z z z) z ?_) z)) z
    have ⟨y12,hy12,h⟩:=bnd h
    refine .g hg9 (.c (.call0 hS Tryz.func208 (faa hy12 (hS.keep q_0_Expr_Args)) z z ?_ z z z z)) z
    intro W hS
    refine .s (pkt hg9 z z z) z ?_
    cases h
    exact .nil (ck 4 hS z z z z)
   refine .xx hb z (.xx hb z (.xx hb z ?_))
   cases sel_f hb hb8
   exact .s (pkf hb z z z) z (.nil (ck 4 hS z z z z))
  intro W hS
  obtain rfl:=Option.some.inj h
  exact .qn z (.ret (fin_ret (vs:=[_]) () (rt z rn) z (hS.to [] z)))
 refine .g (.q z (.q z (.nil ?_)))
 refine .cs z h ?_ ?_ <;> intro h
 ·refine .g (.s (ld T.t160 hS z z z z z) z ?_)
  have ⟨y13,hy13,h⟩:=bnd h
  refine .c (.call0 hS Tryz.func193 (f3y hy13 (hS.keep q_0_Expr_Args) (hS.keep q_0_Body) (hS.keep q_0_Else)) z z ?_ z z z z)
  intro W hS
  refine .q z ?_
  have ⟨b9,hb9,h⟩:=bnd h
  refine .chunk 3 74 (b9) hS ?_ ?_
  ·refine .both (y13) (fun hb=>?_) (fun hb=>?_)
   ·have hg10:=hb
    have h:=sel_t hb hb9
    refine .g hg10 (.s (ld T.t160 hS z z z z z) z ?_) z
    have ⟨y14,hy14,h⟩:=bnd h
    refine .g hg10 (.c (.call0 hS Tryz.func194 (f3u hy14 (hS.keep q_0_Expr_Args) (hS.keep q_0_Body) (hS.keep q_0_Else)) z z ?_ z z z z)) z
    intro W hS
    refine .s (pkt hg10 z z z) z ?_
    cases h
    exact .nil (ck 3 hS z z z z)
   refine .xx hb z (.xx hb z ?_)
   cases sel_f hb hb9
   exact .s (pkf hb z z z) z (.nil (ck 3 hS z z z z))
  intro W hS
  refine .q z ?_
  have ⟨b10,hb10,h⟩:=bnd h
  refine .chunk 4 79 (b10) hS ?_ ?_
  ·refine .both (b9) (fun hb=>?_) (fun hb=>?_)
   ·have hg11:=hb
    have h:=sel_t hb hb10
    refine .g hg11 (.s (fa T.f160_3 z z z) z (.g hg11 (.s (ld T.t158 hS z z z z z) z ?_) z)) z
    have ⟨y15,hy15,h⟩:=bnd h
    refine .g hg11 (.c (.call0 hS Tryz.func195 (f4v hy15 (hS.keep q_0_Expr_Args)) z z ?_ z z z z)) z
    intro W hS
    refine .s (pkt hg11 z z z) z ?_
    cases h
    exact .nil (ck 4 hS z z z z)
   refine .xx hb z (.xx hb z (.xx hb z ?_))
   cases sel_f hb hb10
   exact .s (pkf hb z z z) z (.nil (ck 4 hS z z z z))
  intro W hS
  obtain rfl:=Option.some.inj h
  exact .qn z (.ret (fin_ret (vs:=[_]) () (rt z rn) z (hS.to [] z)))
 obtain rfl:=Option.some.inj h
 exact .skip (.g (.qn z (.ret (fin_ret (vs:=[_]) () (rt z rn) z (hS.to [] z)))))
def f4b (F : List Stmt → Int → Option (Bool)) : Prop:=∀ {a0 : List Stmt} {a1 : Int} {v_0 : Hd} {w : World} {r : Bool} (h : F a0 a1 = some r) (q_0 : RV w (Old No w) (sv v_0) 160 8 dStmt a0) , Calls Tryz.prog 162 #[(sv v_0),.int .i64 a1] w (Ret No w (fun s : Unit=>.bool r) (fun s=>[]))
def f90 (F : Stmt → Int → Option (Bool)) : Prop:=∀ {a0 : Stmt} {a1 : Int} {v_0_Expr_Args : Hd} {v_0_Body : Hd} {v_0_Else : Hd} {w : World} {r : Bool} (h : F a0 a1 = some r) (q_0_Expr_Args : RV w (Old No w) (sv v_0_Expr_Args) 158 3 dExpr a0.Expr.Args) (q_0_Body : RV w (Old No w) (sv v_0_Body) 160 8 dStmt a0.Body) (q_0_Else : RV w (Old No w) (sv v_0_Else) 160 8 dStmt a0.Else) , Calls Tryz.prog 171 #[.agg #[.int .i64 a0.Kind,.int .i64 a0.Var,.int .i64 a0.Box,.int .i64 a0.Expr.Op,.int .i64 a0.Expr.N,(sv v_0_Expr_Args),(sv v_0_Body),(sv v_0_Else)],.int .i64 a1] w (Ret No w (fun s : Unit=>.bool r) (fun s=>[]))
def fcp (w : World) (r : Bool) : Env → World → Prop:=Fin Tryz.prog Tryz.f162 No w (fun s : Unit=>.bool r) (fun s=>[]) .ret
theorem fcz {k : Nat} {f1e : List Stmt → Int → Option (Bool)} {f1x : Stmt → Int → Option (Bool)} (f81 : f4b f1e) (fbb : f90 f1x) : f4b (f48 k f1e f1x):=by
 intro a0 a1 v_0 w r h q_0
 unfold f48 at h
 refine enter Tryz.func162 z z ?_
 have hS:=Sep.start w
 refine .g (.qn z (.seq (.g (.qn z (.block ?_)))))
 have ⟨y1,hy1,h⟩:=bnd h
 refine .via (.iter (fun s1 E' W'=>SubL E' [(0,(sv v_0)),(1,.int .i64 a1),(5,.int .i64 s1)] ∧ Sep No w W' []) (fun y2 x E' W'=>(match y2 with | .inl o1=>x = .ret ∧ fcp w o1 E' W' | .inr o2=>x = .exit 0 ∧ SubL E' [] ∧ Sep No w W' [])) hy1 ⟨sb rfl,hS.to [] rfl⟩ ?_) ?_
 ·intro s1 y3 E W h hI
  obtain ⟨hE,hS⟩:=hI
  refine CW.sub hE ?_
  unfold f82 at h
  refine .seq (.g (.q z (.q z (.s (lenv (hS.keep q_0) T.u134 z z) z (.q z (.nil ?_))))))
  refine .cs z h ?_ ?_ <;> intro h
  ·refine .skip (.seq (.block (.g (.q z (.q z ?_)))))
   have ⟨x1,hx1,h⟩:=bnd h
   obtain ⟨k1,hd,hck1⟩:=RV.el2 q_0 hx1
   have hd1:=raggE (eStmt _) hd
   obtain ⟨k1,rfl,hd2⟩:=rflat q_0 z hd1
   obtain ⟨k1,rfl,hd3⟩:=rflat q_0 z hd2
   obtain ⟨k1,rfl,hd4⟩:=rflat q_0 z hd3
   have hd5:=raggE (eExpr _) hd4
   obtain ⟨k1,rfl,hd6⟩:=rflat q_0 z hd5
   obtain ⟨k1,rfl,hd7⟩:=rflat q_0 z hd6
   obtain ⟨v1,k1,rfl,q1,hd8⟩:=rrowv q_0 hd7
   obtain ⟨v2,k1,rfl,q2,hd9⟩:=rrowv q_0 hd8
   obtain ⟨v3,k1,rfl,q3,hd10⟩:=rrowv q_0 hd9
   obtain rfl:=rnil q_0 hd10
   refine .s (ixv (hS.keep q_0) hx1 T.u134 T.t160 z z z) z (.s (lde (hck1 _ hS.agree) T.t160 z z z z z) z (.q z ?_))
   have ⟨y4,hy4,h⟩:=bnd h
   refine .c (.call0 hS Tryz.func171 (fbb hy4 (hS.keep (q1 _ q_0)) (hS.keep (q2 _ q_0)) (hS.keep (q3 _ q_0))) z z ?_ z z z z)
   intro W hS
   refine .q z (.nil ?_)
   refine .cs z h ?_ ?_ <;> intro h
   ·refine .g (.qn z (.ret ?_))
    cases h
    exact ⟨by simp,z,fin_ret (vs:=[_]) () (rt z rn) z (hS.to [] z)⟩
   refine .skip (.region (.q z (.q z (.q z (.nil ?_)))))
   cases h
   exact ⟨z,sb z,hS.to [] z⟩
  refine .exit ?_
  cases h
  exact ⟨by simp,z,sb z,hS.to [] z⟩
 intro x E W hJ
 rcases y1 with o3 | o4
 ·obtain ⟨rfl,hF⟩:=hJ
  refine ⟨_,fun _ _ h=>h,?_⟩
  cases h
  exact hF
 obtain ⟨rfl,hE,hS⟩:=hJ
 refine ⟨_,hE.sub,?_⟩
 obtain rfl:=Option.some.inj h
 exact .g (.qn z (.ret (fin_ret (vs:=[_]) () (rt z rn) z (hS.to [] z))))
theorem fem {k : Nat} {f1e : List Stmt → Int → Option (Bool)} {f1x : Stmt → Int → Option (Bool)} (f81 : f4b f1e) (fbb : f90 f1x) : f90 (f79 k f1e f1x):=by
 intro a0 a1 v_0_Expr_Args v_0_Body v_0_Else w r h q_0_Expr_Args q_0_Body q_0_Else
 unfold f79 at h
 refine enter Tryz.func171 z z ?_
 have hS:=Sep.start w
 refine .g (.c (.box hS z z ?_ z z))
 intro g1 W hS
 refine .qn z (.seq (.g (.s (fa T.f160_0 z z z) z (.s (ld T.t3 hS z z z z z) z (.q z (.q z (.chunk 4 12 ((a0.Kind != 2) && (a0.Kind != 3)) hS ?_ ?_)))))))
 ·refine .both (a0.Kind != 2) (fun hb=>?_) (fun hb=>?_)
  ·have hg1:=hb
   exact .g hg1 (.s (fa T.f160_0 z z z) z (.g hg1 (.s (ld T.t3 hS z z z z z) z (.g hg1 (.q z (.s (pkt hg1 z z z) z (.nil (ck 4 hS z (and_t hg1) z z)))) z)) z)) z
  exact .xx hb z (.xx hb z (.xx hb z (.s (pkf hb z z z) z (.nil (ck 4 hS z (and_f hb) z z)))))
 intro W hS
 refine .nil ?_
 refine .cs z h ?_ ?_ <;> intro h
 ·refine .g (.s (ld T.t160 hS z z z z z) z ?_)
  have ⟨y1,hy1,h⟩:=bnd h
  refine .c (.call0 hS Tryz.func192 (fbv hy1 (hS.keep q_0_Expr_Args) (hS.keep q_0_Body) (hS.keep q_0_Else)) z z ?_ z z z z)
  intro W hS
  obtain rfl:=Option.some.inj h
  exact .qn z (.ret (fin_ret (vs:=[_]) () (rt z rn) z (hS.to [] z)))
 refine .skip (.seq (.g (.q z (.q z (.q z (.chunk 10 27 ((decide (a1 < 1)) || ((a0.Kind == 3) && (decide ((a0.Else.length : Int) > 0)))) hS ?_ ?_))))))
 ·refine .both (decide (a1 < 1)) (fun hb=>?_) (fun hb=>?_)
  ·exact .xx hb z (.xx hb z (.xx hb z (.xx hb z (.xu (.xu (.xu (.xu (.xx hb z (.s (pkt hb z z z) z (.nil (ck 10 hS z (or_t hb) z z)))) z z) z z) z z) z z))))
  have hg2:=hb
  refine .g hg2 (.s (fa T.f160_0 z z z) z (.g hg2 (.s (ld T.t3 hS z z z z z) z (.g hg2 (.q z (.g hg2 (.q z (.chunk 5 26 ((a0.Kind == 3) && (decide ((a0.Else.length : Int) > 0))) hS ?_ ?_)) z)) z)) z)) z
  ·refine .both (a0.Kind == 3) (fun hb=>?_) (fun hb=>?_)
   ·have hg3:=hb
    exact .g hg3 (.s (fa T.f160_5 z z z) z (.g hg3 (.s (ld T.t134 hS z z z z z) z (.g hg3 (.s (lenv (hS.keep q_0_Else) T.u134 z z) z (.g hg3 (.q z (.g hg2 (.s (pkt hg3 z z z) z (.nil (ck 5 hS z (and_t hg3) z z))) z)) z)) z)) z)) z
   exact .xx hb z (.xx hb z (.xx hb z (.xx hb z (.g hg2 (.s (pkf hb z z z) z (.nil (ck 5 hS z (and_f hb) z z))) z))))
  intro W hS
  exact .s (pkf hg2 z z z) z (.nil (ck 6 hS z (or_f hg2) z z))
 intro W hS
 refine .nil ?_
 refine .cs z h ?_ ?_ <;> intro h
 ·obtain rfl:=Option.some.inj h
  exact .g (.qn z (.ret (fin_ret (vs:=[_]) () (rt z rn) z (hS.to [] z))))
 refine .skip (.g (.s (ld T.t160 hS z z z z z) z ?_))
 have ⟨y2,hy2,h⟩:=bnd h
 refine .c (.call0 hS Tryz.func193 (f3y hy2 (hS.keep q_0_Expr_Args) (hS.keep q_0_Body) (hS.keep q_0_Else)) z z ?_ z z z z)
 intro W hS
 refine .q z ?_
 have ⟨b1,hb1,h⟩:=bnd h
 refine .chunk 3 33 (b1) hS ?_ ?_
 ·refine .both (y2) (fun hb=>?_) (fun hb=>?_)
  ·have hg4:=hb
   have h:=sel_t hb hb1
   refine .g hg4 (.s (ld T.t160 hS z z z z z) z ?_) z
   have ⟨y3,hy3,h⟩:=bnd h
   refine .g hg4 (.c (.call0 hS Tryz.func194 (f3u hy3 (hS.keep q_0_Expr_Args) (hS.keep q_0_Body) (hS.keep q_0_Else)) z z ?_ z z z z)) z
   intro W hS
   refine .s (pkt hg4 z z z) z ?_
   cases h
   exact .nil (ck 3 hS z z z z)
  refine .xx hb z (.xx hb z ?_)
  cases sel_f hb hb1
  exact .s (pkf hb z z z) z (.nil (ck 3 hS z z z z))
 intro W hS
 refine .q z ?_
 have ⟨b2,hb2,h⟩:=bnd h
 refine .chunk 4 38 (b2) hS ?_ ?_
 ·refine .both (b1) (fun hb=>?_) (fun hb=>?_)
  ·have hg5:=hb
   have h:=sel_t hb hb2
   refine .g hg5 (.s (fa T.f160_3 z z z) z (.g hg5 (.s (ld T.t158 hS z z z z z) z ?_) z)) z
   have ⟨y4,hy4,h⟩:=bnd h
   refine .g hg5 (.c (.call0 hS Tryz.func195 (f4v hy4 (hS.keep q_0_Expr_Args)) z z ?_ z z z z)) z
   intro W hS
   refine .s (pkt hg5 z z z) z ?_
   cases h
   exact .nil (ck 4 hS z z z z)
  refine .xx hb z (.xx hb z (.xx hb z ?_))
  cases sel_f hb hb2
  exact .s (pkf hb z z z) z (.nil (ck 4 hS z z z z))
 intro W hS
 refine .q z ?_
 have ⟨b3,hb3,h⟩:=bnd h
 refine .chunk 6 45 (b3) hS ?_ ?_
 ·refine .both (b2) (fun hb=>?_) (fun hb=>?_)
  ·have hg6:=hb
   have h:=sel_t hb hb3
   refine .g hg6 (.s (fa T.f160_4 z z z) z (.g hg6 (.s (ld T.t134 hS z z z z z) z (.g hg6 (.q z (.g hg6 (.q z ?_) z)) z)) z)) z
   have ⟨y5,hy5,h⟩:=bnd h
   refine .g hg6 (.c (.call0 hS Tryz.func162 (f81 hy5 (hS.keep q_0_Body)) z z ?_ z z z z)) z
   intro W hS
   refine .s (pkt hg6 z z z) z ?_
   cases h
   exact .nil (ck 6 hS z z z z)
  refine .xx hb z (.xx hb z (.xx hb z (.xx hb z (.xx hb z ?_))))
  cases sel_f hb hb3
  exact .s (pkf hb z z z) z (.nil (ck 6 hS z z z z))
 intro W hS
 refine .q z ?_
 have ⟨b4,hb4,h⟩:=bnd h
 refine .chunk 6 52 (b4) hS ?_ ?_
 ·refine .both (b3) (fun hb=>?_) (fun hb=>?_)
  ·have hg7:=hb
   have h:=sel_t hb hb4
   refine .g hg7 (.s (fa T.f160_5 z z z) z (.g hg7 (.s (ld T.t134 hS z z z z z) z (.g hg7 (.q z (.g hg7 (.q z ?_) z)) z)) z)) z
   have ⟨y6,hy6,h⟩:=bnd h
   refine .g hg7 (.c (.call0 hS Tryz.func162 (f81 hy6 (hS.keep q_0_Else)) z z ?_ z z z z)) z
   intro W hS
   refine .s (pkt hg7 z z z) z ?_
   cases h
   exact .nil (ck 6 hS z z z z)
  refine .xx hb z (.xx hb z (.xx hb z (.xx hb z (.xx hb z ?_))))
  cases sel_f hb hb4
  exact .s (pkf hb z z z) z (.nil (ck 6 hS z z z z))
 intro W hS
 obtain rfl:=Option.some.inj h
 exact .qn z (.ret (fin_ret (vs:=[_]) () (rt z rn) z (hS.to [] z)))
theorem fay (k : Nat) : f4b (f1j k) ∧ f90 (fb3 k):=by
  induction k with
  | zero=>exact ⟨by intro a0 a1 v_0 w r h q_0; exact no h,by intro a0 a1 v_0_Expr_Args v_0_Body v_0_Else w r h q_0_Expr_Args q_0_Body q_0_Else; exact no h⟩
  | succ k ih=>exact ⟨fcz (k:=k) ih.1 ih.2,fem (k:=k) ih.1 ih.2⟩
theorem fbs {k : Nat} : f4b (f1j k):=(fay k).1
theorem fbn {k : Nat} {a0 : List Stmt} {v_0 : Hd} {w : World} {r : Bool} (h : f4m k a0 = some r) (q_0 : RV w (Old No w) (sv v_0) 160 8 dStmt a0) : Calls Tryz.prog 147 #[(sv v_0)] w (Ret No w (fun s : Unit=>.bool r) (fun s=>[])):=by
 unfold f4m at h
 refine enter Tryz.func147 z z ?_
 have hS:=Sep.start w
 refine .g (.qn z (.g (.q z ?_)))
 have ⟨y1,hy1,h⟩:=bnd h
 refine .c (.call0 hS Tryz.func162 (fbs hy1 (hS.keep q_0)) z z ?_ z z z z)
 intro W hS
 refine .q z ?_
 have ⟨b1,hb1,h⟩:=bnd h
 refine .chunk 4 9 (b1) hS ?_ ?_
 ·refine .both (y1) (fun hb=>?_) (fun hb=>?_)
  ·have hg1:=hb
   have h:=sel_t hb hb1
   refine .g hg1 (.q z ?_) z
   have ⟨y2,hy2,h⟩:=bnd h
   refine .g hg1 (.c (.call0 hS Tryz.func150 (fai hy2 (hS.keep q_0)) z z ?_ z z z z)) z
   intro W hS
   refine .g hg1 (.q z (.s (pkt hg1 z z z) z ?_)) z
   cases h
   exact .nil (ck 4 hS z z z z)
  refine .xx hb z (.xx hb z (.xx hb z ?_))
  cases sel_f hb hb1
  exact .s (pkf hb z z z) z (.nil (ck 4 hS z z z z))
 intro W hS
 obtain rfl:=Option.some.inj h
 exact .qn z (.ret (fin_ret (vs:=[_]) () (rt z rn) z (hS.to [] z)))
def f7p (F : Expr → Int → Option ((List Quad))) : Prop:=∀ {a0 : Expr} {a1 : Int} {v_0_Args : Hd} {w : World} {r : (List Quad)} (h : F a0 a1 = some r) (q_0_Args : RV w (Old No w) (sv v_0_Args) 158 3 dExpr a0.Args) , Calls Tryz.prog 172 #[.agg #[.int .i64 a0.Op,.int .i64 a0.N,(sv v_0_Args)],.int .i64 a1] w (Ret No w (fun s : Hd=>(sv s)) (fun s=>[rowV (sv s) 126 5 dQuad r]))
theorem fee {k : Nat} {f5g : Expr → Int → Option ((List Quad))} (fao : f7p f5g) : f7p (f55 k f5g):=by
 intro a0 a1 v_0_Args w r h q_0_Args
 unfold f55 at h
 refine enter Tryz.func172 z z ?_
 have hS:=Sep.start w
 refine .g (.c (.box hS z z ?_ z z))
 intro g1 W hS
 refine .qn z (.seq (.g (.s (fa T.f158_0 z z z) z (.s (ld T.t3 hS z z z z z) z (.q z (.nil ?_))))))
 refine .cs z h ?_ ?_ <;> intro h
 ·refine .g (.q z (.s (fa T.f158_1 z z z) z (.s (ld T.t3 hS z z z z z) z (.s (bs T.s126 z z) z (.c (.liv [(Quad.mk 1 a1 0 0 a0.N)] dQuad T.u104 T.t126 hS z z z z ?_ z (fun _=>z) z z z z))))))
  intro v1 W hS
  cases h
  exact .qn z (.ret (fin_ret (vs:=[_]) v1 (rt z rn) z (hS.to [0] z)))
 refine .skip (.seq (.g (.s (fa T.f158_0 z z z) z (.s (ld T.t3 hS z z z z z) z (.q z (.nil ?_))))))
 refine .cs z h ?_ ?_ <;> intro h
 ·refine .g (.q z (.s (fa T.f158_1 z z z) z (.s (ld T.t3 hS z z z z z) z (.s (bs T.s126 z z) z (.c (.liv [(Quad.mk 2 a1 a0.N 0 0)] dQuad T.u104 T.t126 hS z z z z ?_ z (fun _=>z) z z z z))))))
  intro v2 W hS
  cases h
  exact .qn z (.ret (fin_ret (vs:=[_]) v2 (rt z rn) z (hS.to [0] z)))
 refine .skip (.seq (.rk 15 hS [0] T.mix ?_))
 intro W hS
 have hT:=hS.to [0] z
 refine .ts 0 z (fun W hT=>fa T.f158_2 z z z) hT z (by kernel_rfl) (.ts 1 z (fun W hT=>ld T.t156 hT z z z z z) hT z (by kernel_rfl) ?_)
 have ⟨x1,hx1,h⟩:=bnd h
 obtain ⟨k1,hd,hck1⟩:=RV.el2 q_0_Args hx1
 have hd1:=raggE (eExpr _) hd
 obtain ⟨k1,rfl,hd2⟩:=rflat q_0_Args z hd1
 obtain ⟨k1,rfl,hd3⟩:=rflat q_0_Args z hd2
 obtain ⟨v3,k1,rfl,q1,hd4⟩:=rrowv q_0_Args hd3
 obtain rfl:=rnil q_0_Args hd4
 refine .ts 2 z (fun W hT=>ixv (hS.keep q_0_Args) hx1 T.u156 T.t158 z z z) hT z (by kernel_rfl) (.ts 3 z (fun W hT=>lde (hck1 _ hT.agree) T.t158 z z z z z) hT z (by kernel_rfl) (.tp 4 z z hT (by kernel_rfl) (.ts 6 z (fun W hT=>fa T.f158_2 z z z) hT z (by kernel_rfl) (.ts 7 z (fun W hT=>ld T.t156 hT z z z z z) hT z (by kernel_rfl) ?_))))
 have ⟨x2,hx2,h⟩:=bnd h
 obtain ⟨k2,hd,hck2⟩:=RV.el2 q_0_Args hx2
 have hd1:=raggE (eExpr _) hd
 obtain ⟨k2,rfl,hd2⟩:=rflat q_0_Args z hd1
 obtain ⟨k2,rfl,hd3⟩:=rflat q_0_Args z hd2
 obtain ⟨v4,k2,rfl,q2,hd4⟩:=rrowv q_0_Args hd3
 obtain rfl:=rnil q_0_Args hd4
 refine .ts 8 z (fun W hT=>ixv (hS.keep q_0_Args) hx2 T.u156 T.t158 z z z) hT z (by kernel_rfl) (.ts 9 z (fun W hT=>lde (hck2 _ hT.agree) T.t158 z z z z z) hT z (by kernel_rfl) (.tp 10 z z hT (by kernel_rfl) (.tp 11 z z hT (by kernel_rfl) ?_)))
 have ⟨y1,hy1,h⟩:=bnd h
 refine .by1 5 z (.call1v hS Tryz.func172 (fao hy1 (hS.keep (q1 _ q_0_Args))) z z ?_ z z z z) (by kernel_rfl)
 intro v5 W hS
 have hT:=hS.to [1] z
 refine ⟨fun _=>hT,?_⟩
 have ⟨y2,hy2,h⟩:=bnd h
 refine .by1 12 z (.call1v hS Tryz.func172 (fao hy2 (hS.keep (q2 _ q_0_Args))) z z ?_ z z z z) (by kernel_rfl)
 intro v6 W hS
 have hT:=hS.to [2] z
 refine ⟨fun _=>hT,?_⟩
 have ⟨r1,hr1,h⟩:=bnd h
 have hT0:=hS.p1
 refine .by1 13 z (.apprv hr1 hT0 hT0.p1.lendv (fun _=>z) T.u104 T.t126 z z z ?_ z z z z z) (by kernel_rfl)
 intro v7 W hS
 have hT:=hS.to [2] z
 refine ⟨fun _=>hT,.tp 14 z z hT (by kernel_rfl) (.done (.g (.q z (.q z (.q z (.q z (.q z (.s (fa T.f158_0 z z z) z (.s (ld T.t3 hS.p2 z z z z z) z (.s (bs T.s126 z z) z (.c (.liv [(Quad.mk 3 a1 a1 (w64 (a1 + 1)) a0.Op)] dQuad T.u104 T.t126 hS z z z z ?_ z (fun _=>z) z z z z))))))))))) (by kernel_rfl))⟩
 intro v8 W hS
 have ⟨r2,hr2,h⟩:=bnd h
 have hT0:=hS.p1
 refine .c (.apprv hr2 hT0 hT0.p1.lendv (fun _=>z) T.u104 T.t126 z z z ?_ z z z z z)
 intro v9 W hS
 obtain rfl:=Option.some.inj h
 exact .qn z (.ret (fin_ret (vs:=[_]) v9 (rt z rn) z (hS.to [0] z)))
theorem fbk (k : Nat) : f7p (f1z k):=by
  induction k with
  | zero=>exact by intro a0 a1 v_0_Args w r h q_0_Args; exact no h
  | succ k ih=>exact fee (k:=k) ih
theorem f97 {k : Nat} : f7p (f1z k):=(fbk k)
def f2v (F : List Stmt → Int → Option ((List Quad))) : Prop:=∀ {a0 : List Stmt} {a1 : Int} {v_0 : Hd} {w : World} {r : (List Quad)} (h : F a0 a1 = some r) (q_0 : RV w (Old No w) (sv v_0) 160 8 dStmt a0) , Calls Tryz.prog 148 #[(sv v_0),.int .i64 a1] w (Ret No w (fun s : Hd=>(sv s)) (fun s=>[rowV (sv s) 126 5 dQuad r]))
def f3w (F : Stmt → Int → Option ((List Quad))) : Prop:=∀ {a0 : Stmt} {a1 : Int} {v_0_Expr_Args : Hd} {v_0_Body : Hd} {v_0_Else : Hd} {w : World} {r : (List Quad)} (h : F a0 a1 = some r) (q_0_Expr_Args : RV w (Old No w) (sv v_0_Expr_Args) 158 3 dExpr a0.Expr.Args) (q_0_Body : RV w (Old No w) (sv v_0_Body) 160 8 dStmt a0.Body) (q_0_Else : RV w (Old No w) (sv v_0_Else) 160 8 dStmt a0.Else) , Calls Tryz.prog 163 #[.agg #[.int .i64 a0.Kind,.int .i64 a0.Var,.int .i64 a0.Box,.int .i64 a0.Expr.Op,.int .i64 a0.Expr.N,(sv v_0_Expr_Args),(sv v_0_Body),(sv v_0_Else)],.int .i64 a1] w (Ret No w (fun s : Hd=>(sv s)) (fun s=>[rowV (sv s) 126 5 dQuad r]))
def f51 (F : Stmt → Int → Option ((List Quad))) : Prop:=∀ {a0 : Stmt} {a1 : Int} {v_0_Expr_Args : Hd} {v_0_Body : Hd} {v_0_Else : Hd} {w : World} {r : (List Quad)} (h : F a0 a1 = some r) (q_0_Expr_Args : RV w (Old No w) (sv v_0_Expr_Args) 158 3 dExpr a0.Expr.Args) (q_0_Body : RV w (Old No w) (sv v_0_Body) 160 8 dStmt a0.Body) (q_0_Else : RV w (Old No w) (sv v_0_Else) 160 8 dStmt a0.Else) , Calls Tryz.prog 173 #[.agg #[.int .i64 a0.Kind,.int .i64 a0.Var,.int .i64 a0.Box,.int .i64 a0.Expr.Op,.int .i64 a0.Expr.N,(sv v_0_Expr_Args),(sv v_0_Body),(sv v_0_Else)],.int .i64 a1] w (Ret No w (fun s : Hd=>(sv s)) (fun s=>[rowV (sv s) 126 5 dQuad r]))
def f3c (F : Stmt → Int → Option ((List Quad))) : Prop:=∀ {a0 : Stmt} {a1 : Int} {v_0_Expr_Args : Hd} {v_0_Body : Hd} {v_0_Else : Hd} {w : World} {r : (List Quad)} (h : F a0 a1 = some r) (q_0_Expr_Args : RV w (Old No w) (sv v_0_Expr_Args) 158 3 dExpr a0.Expr.Args) (q_0_Body : RV w (Old No w) (sv v_0_Body) 160 8 dStmt a0.Body) (q_0_Else : RV w (Old No w) (sv v_0_Else) 160 8 dStmt a0.Else) , Calls Tryz.prog 174 #[.agg #[.int .i64 a0.Kind,.int .i64 a0.Var,.int .i64 a0.Box,.int .i64 a0.Expr.Op,.int .i64 a0.Expr.N,(sv v_0_Expr_Args),(sv v_0_Body),(sv v_0_Else)],.int .i64 a1] w (Ret No w (fun s : Hd=>(sv s)) (fun s=>[rowV (sv s) 126 5 dQuad r]))
theorem fe9 {k : Nat} {f0h : List Stmt → Int → Option ((List Quad))} {f0i : Stmt → Int → Option ((List Quad))} {f0v : Stmt → Int → Option ((List Quad))} {f0l : Stmt → Int → Option ((List Quad))} (f3d : f2v f0h) (f6v : f3w f0i) (f8b : f51 f0v) (f5s : f3c f0l) : f2v (f5h k f0h f0i f0v f0l):=by
 intro a0 a1 v_0 w r h q_0
 unfold f5h at h
 refine enter Tryz.func148 z z ?_
 have hS:=Sep.start w
 refine .g (.qn z (.g (.c (.liv [] dQuad T.u104 T.t126 hS z z z z ?_ z (fun _=>z) z z z z))))
 intro v1 W hS
 refine .qn z (.seq (.g (.qn z (.block ?_))))
 have ⟨y1,hy1,h⟩:=bnd h
 refine .via (.iter (fun s1 E' W'=>∃ (v4 : Hd),SubL E' [(0,(sv v_0)),(1,.int .i64 a1),(5,(sv v4)),(6,.int .i64 s1.2)] ∧ Sep No w W' [rowV (sv v4) 126 5 dQuad s1.1]) (fun y2 x E' W'=>x = .exit 0 ∧ ∃ (v5 : Hd),SubL E' [(5,(sv v5))] ∧ Sep No w W' [rowV (sv v5) 126 5 dQuad y2]) hy1 ⟨v1,sb z,hS.to [0] z⟩ ?_) ?_
 ·intro s1 y3 E W h hI
  obtain ⟨v3,hE,hS⟩:=hI
  refine CW.sub hE ?_
  unfold f96 at h
  refine .seq (.g (.q z (.q z (.s (lenv (hS.keep q_0) T.u134 z z) z (.q z (.nil ?_))))))
  refine .cs z h ?_ ?_ <;> intro h
  ·refine .skip (.seq (.block (.region (.q z (.q z (.q z ?_))))))
   have ⟨x1,hx1,h⟩:=bnd h
   obtain ⟨k1,hd,hck1⟩:=RV.el2 q_0 hx1
   have hd1:=raggE (eStmt _) hd
   obtain ⟨k1,rfl,hd2⟩:=rflat q_0 z hd1
   obtain ⟨k1,rfl,hd3⟩:=rflat q_0 z hd2
   obtain ⟨k1,rfl,hd4⟩:=rflat q_0 z hd3
   have hd5:=raggE (eExpr _) hd4
   obtain ⟨k1,rfl,hd6⟩:=rflat q_0 z hd5
   obtain ⟨k1,rfl,hd7⟩:=rflat q_0 z hd6
   obtain ⟨v6,k1,rfl,q5,hd8⟩:=rrowv q_0 hd7
   obtain ⟨v7,k1,rfl,q6,hd9⟩:=rrowv q_0 hd8
   obtain ⟨v8,k1,rfl,q7,hd10⟩:=rrowv q_0 hd9
   obtain rfl:=rnil q_0 hd10
   refine .s (ixv (hS.keep q_0) hx1 T.u134 T.t160 z z z) z (.s (lde (hck1 _ hS.agree) T.t160 z z z z z) z (.q z (.q z (.s (lenv hS.lendv T.u104 z z) z (.q z ?_)))))
   have ⟨y4,hy4,h⟩:=bnd h
   refine .c (.call1v hS Tryz.func163 (f6v hy4 (hS.keep (q5 _ q_0)) (hS.keep (q6 _ q_0)) (hS.keep (q7 _ q_0))) z z ?_ z z z z)
   intro v9 W hS
   have ⟨r1,hr1,h⟩:=bnd h
   have hT0:=hS.p1
   refine .c (.apprv hr1 hT0 hT0.p1.lendv (fun _=>z) T.u104 T.t126 z z z ?_ z z z z z)
   intro v10 W hS
   refine .qn z (.region (.q z (.q z (.q z (.nil ?_)))))
   cases h
   exact ⟨z,v10,sb z,hS.to [0] z⟩
  refine .exit ?_
  cases h
  exact ⟨by simp,z,v3,sb z,hS.to [0] z⟩
 intro x E W hJ
 obtain ⟨rfl,v11,hE,hS⟩:=hJ
 refine ⟨_,hE.sub,?_⟩
 obtain rfl:=Option.some.inj h
 exact .g (.q z (.qn z (.ret (fin_ret (vs:=[_]) v11 (rt z rn) z (hS.to [0] z)))))
theorem fe3 {k : Nat} {f0h : List Stmt → Int → Option ((List Quad))} {f0i : Stmt → Int → Option ((List Quad))} {f0v : Stmt → Int → Option ((List Quad))} {f0l : Stmt → Int → Option ((List Quad))} (f3d : f2v f0h) (f6v : f3w f0i) (f8b : f51 f0v) (f5s : f3c f0l) : f3w (f5j k f0h f0i f0v f0l):=by
 intro a0 a1 v_0_Expr_Args v_0_Body v_0_Else w r h q_0_Expr_Args q_0_Body q_0_Else
 unfold f5j at h
 refine enter Tryz.func163 z z ?_
 have hS:=Sep.start w
 refine .g (.c (.box hS z z ?_ z z))
 intro g1 W hS
 refine .qn z (.g (.s (fa T.f160_3 z z z) z (.s (ld T.t158 hS z z z z z) z ?_)))
 have ⟨y1,hy1,h⟩:=bnd h
 refine .c (.call1v hS Tryz.func172 (f97 hy1 (hS.keep q_0_Expr_Args)) z z ?_ z z z z)
 intro v1 W hS
 refine .qn z (.seq (.g (.s (fa T.f160_0 z z z) z (.s (ld T.t3 hS.p1 z z z z z) z (.nil (.block (.g (.q z (.q z (.nil ?_))))))))))
 refine .cs z h ?_ ?_ <;> intro h
 ·refine .g (.s (ld T.t160 hS.p1 z z z z z) z (.q z ?_))
  have ⟨y2,hy2,h⟩:=bnd h
  refine .c (.call1v hS Tryz.func173 (f8b hy2 (hS.keep q_0_Expr_Args) (hS.keep q_0_Body) (hS.keep q_0_Else)) z z ?_ z z z z)
  intro v2 W hS
  obtain rfl:=Option.some.inj h
  exact .qn z (.ret (fin_ret (vs:=[_]) v2 (rt z rn) z (hS.to [0] z)))
 refine .g (.q z (.q z (.nil ?_)))
 refine .cs z h ?_ ?_ <;> intro h
 ·refine .g (.s (ld T.t160 hS.p1 z z z z z) z (.q z ?_))
  have ⟨y3,hy3,h⟩:=bnd h
  refine .c (.call1v hS Tryz.func174 (f5s hy3 (hS.keep q_0_Expr_Args) (hS.keep q_0_Body) (hS.keep q_0_Else)) z z ?_ z z z z)
  intro v3 W hS
  obtain rfl:=Option.some.inj h
  exact .qn z (.ret (fin_ret (vs:=[_]) v3 (rt z rn) z (hS.to [0] z)))
 refine .g (.q z (.q z (.nil ?_)))
 refine .cs z h ?_ ?_ <;> intro h
 ·refine .g (.q z (.s (fa T.f160_1 z z z) z (.s (ld T.t3 hS.p1 z z z z z) z (.s (bs T.s126 z z) z (.c (.liv [(Quad.mk 2 a0.Var 4 0 0)] dQuad T.u104 T.t126 hS z z z z ?_ z (fun _=>z) z z z z))))))
  intro v4 W hS
  have ⟨r1,hr1,h⟩:=bnd h
  have hT0:=hS.p1
  refine .c (.apprv hr1 hT0 hT0.p1.lendv (fun _=>z) T.u104 T.t126 z z z ?_ z z z z z)
  intro v5 W hS
  obtain rfl:=Option.some.inj h
  exact .qn z (.ret (fin_ret (vs:=[_]) v5 (rt z rn) z (hS.to [0] z)))
 refine .g (.q z (.q z (.nil ?_)))
 refine .cs z h ?_ ?_ <;> intro h
 ·refine .g (.q z (.s (fa T.f160_2 z z z) z (.s (ld T.t3 hS.p1 z z z z z) z (.s (bs T.s126 z z) z (.c (.liv [(Quad.mk 6 0 4 0 a0.Box)] dQuad T.u104 T.t126 hS z z z z ?_ z (fun _=>z) z z z z))))))
  intro v6 W hS
  have ⟨r2,hr2,h⟩:=bnd h
  have hT0:=hS.p1
  refine .c (.apprv hr2 hT0 hT0.p1.lendv (fun _=>z) T.u104 T.t126 z z z ?_ z z z z z)
  intro v7 W hS
  obtain rfl:=Option.some.inj h
  exact .qn z (.ret (fin_ret (vs:=[_]) v7 (rt z rn) z (hS.to [0] z)))
 refine .g (.q z (.q z (.nil ?_)))
 refine .cs z h ?_ ?_ <;> intro h
 ·refine .g (.q z (.s (bs T.s126 z z) z (.c (.liv [(Quad.mk 9 0 4 0 0)] dQuad T.u104 T.t126 hS z z z z ?_ z (fun _=>z) z z z z))))
  intro v8 W hS
  have ⟨r3,hr3,h⟩:=bnd h
  have hT0:=hS.p1
  refine .c (.apprv hr3 hT0 hT0.p1.lendv (fun _=>z) T.u104 T.t126 z z z ?_ z z z z z)
  intro v9 W hS
  obtain rfl:=Option.some.inj h
  exact .qn z (.ret (fin_ret (vs:=[_]) v9 (rt z rn) z (hS.to [0] z)))
 refine .g (.q z (.q z (.nil ?_)))
 refine .cs z h ?_ ?_ <;> intro h
 ·refine .g (.s (fa T.f160_1 z z z) z (.s (ld T.t3 hS.p1 z z z z z) z (.s (fa T.f160_2 z z z) z (.s (ld T.t3 hS.p1 z z z z z) z (.s (bs T.s126 z z) z (.c (.liv [(Quad.mk 7 a0.Var 0 0 a0.Box)] dQuad T.u104 T.t126 hS z z z z ?_ z (fun _=>z) z z z z)))))))
  intro v10 W hS
  cases h
  exact .qn z (.ret (fin_ret (vs:=[_]) v10 (rt z rn) z (hS.to [0] z)))
 refine .skip (.g (.s (bs T.s126 z z) z (.c (.liv [(Quad.mk 8 0 0 0 0)] dQuad T.u104 T.t126 hS z z z z ?_ z (fun _=>z) z z z z))))
 intro v11 W hS
 cases h
 exact .qn z (.ret (fin_ret (vs:=[_]) v11 (rt z rn) z (hS.to [0] z)))
theorem fei {k : Nat} {f0h : List Stmt → Int → Option ((List Quad))} {f0i : Stmt → Int → Option ((List Quad))} {f0v : Stmt → Int → Option ((List Quad))} {f0l : Stmt → Int → Option ((List Quad))} (f3d : f2v f0h) (f6v : f3w f0i) (f8b : f51 f0v) (f5s : f3c f0l) : f51 (f7a k f0h f0i f0v f0l):=by
 intro a0 a1 v_0_Expr_Args v_0_Body v_0_Else w r h q_0_Expr_Args q_0_Body q_0_Else
 unfold f7a at h
 refine enter Tryz.func173 z z ?_
 have hS:=Sep.start w
 refine .g (.c (.box hS z z ?_ z z))
 intro g1 W hS
 refine .qn z (.g (.s (fa T.f160_3 z z z) z (.s (ld T.t158 hS z z z z z) z ?_)))
 have ⟨y1,hy1,h⟩:=bnd h
 refine .c (.call1v hS Tryz.func172 (f97 hy1 (hS.keep q_0_Expr_Args)) z z ?_ z z z z)
 intro v1 W hS
 refine .qn z (.g (.s (fa T.f160_4 z z z) z (.s (ld T.t134 hS.p1 z z z z z) z (.q z (.q z (.s (lenv hS.lendv T.u104 z z) z (.q z (.q z ?_))))))))
 have ⟨y2,hy2,h⟩:=bnd h
 refine .c (.call1v hS Tryz.func148 (f3d hy2 (hS.keep q_0_Body)) z z ?_ z z z z)
 intro v2 W hS
 refine .qn z (.g (.q z (.q z (.s (lenv hS.p1.lendv T.u104 z z) z (.q z (.q z (.q z (.s (lenv hS.lendv T.u104 z z) z (.q z (.qn z (.seq (.g (.s (fa T.f160_5 z z z) z (.s (ld T.t134 hS.p2 z z z z z) z (.s (lenv (hS.keep q_0_Else) T.u134 z z) z (.q z (.nil ?_)))))))))))))))))
 refine .cs z h ?_ ?_ <;> intro h
 ·refine .g (.q z (.q z (.s (bs T.s126 z z) z (.c (.liv [(Quad.mk 5 0 4 0 (w64 ((w64 ((w64 (a1 + (y1.length : Int))) + 1)) + (y2.length : Int))))] dQuad T.u104 T.t126 hS z z z z ?_ z (fun _=>z) z z z z)))))
  intro v3 W hS
  have ⟨r1,hr1,h⟩:=bnd h
  have hT0:=hS.p2
  refine .c (.apprv hr1 hT0 hT0.p1.lendv (fun _=>z) T.u104 T.t126 z z z ?_ z z z z z)
  intro v4 W hS
  refine .qn z (.g (.q z (.q z ?_)))
  have ⟨r2,hr2,h⟩:=bnd h
  have hT0:=hS
  refine .c (.apprv hr2 hT0 hT0.p2.lendv (fun _=>z) T.u104 T.t126 z z z ?_ z z z z z)
  intro v5 W hS
  obtain rfl:=Option.some.inj h
  exact .qn z (.ret (fin_ret (vs:=[_]) v5 (rt z rn) z (hS.to [0] z)))
 refine .skip (.g (.s (fa T.f160_5 z z z) z (.s (ld T.t134 hS.p2 z z z z z) z (.q z (.q z ?_)))))
 have ⟨y3,hy3,h⟩:=bnd h
 refine .c (.call1v hS Tryz.func148 (f3d hy3 (hS.keep q_0_Else)) z z ?_ z z z z)
 intro v6 W hS
 refine .qn z (.g (.q z (.q z (.q z (.s (bs T.s126 z z) z (.c (.liv [(Quad.mk 5 0 4 0 (w64 ((w64 ((w64 ((w64 (a1 + (y1.length : Int))) + 1)) + (y2.length : Int))) + 1)))] dQuad T.u104 T.t126 hS z z z z ?_ z (fun _=>z) z z z z)))))))
 intro v7 W hS
 have ⟨r3,hr3,h⟩:=bnd h
 have hT0:=hS.p3
 refine .c (.apprv hr3 hT0 hT0.p1.lendv (fun _=>z) T.u104 T.t126 z z z ?_ z z z z z)
 intro v8 W hS
 refine .qn z (.g (.q z (.q z ?_)))
 have ⟨r4,hr4,h⟩:=bnd h
 have hT0:=hS
 refine .c (.apprv hr4 hT0 hT0.p3.lendv (fun _=>z) T.u104 T.t126 z z z ?_ z z z z z)
 intro v9 W hS
 refine .qn z (.g (.q z (.q z (.q z (.q z (.s (lenv hS.p2.lendv T.u104 z z) z (.q z (.s (bs T.s126 z z) z (.c (.liv [(Quad.mk 4 0 0 0 (w64 ((w64 ((w64 ((w64 ((w64 (a1 + (y1.length : Int))) + 1)) + (y2.length : Int))) + 1)) + (y3.length : Int))))] dQuad T.u104 T.t126 hS z z z z ?_ z (fun _=>z) z z z z))))))))))
 intro v10 W hS
 have ⟨r5,hr5,h⟩:=bnd h
 have hT0:=hS.p1
 refine .c (.apprv hr5 hT0 hT0.p1.lendv (fun _=>z) T.u104 T.t126 z z z ?_ z z z z z)
 intro v11 W hS
 refine .qn z (.g (.q z (.q z ?_)))
 have ⟨r6,hr6,h⟩:=bnd h
 have hT0:=hS
 refine .c (.apprv hr6 hT0 hT0.p3.lendv (fun _=>z) T.u104 T.t126 z z z ?_ z z z z z)
 intro v12 W hS
 obtain rfl:=Option.some.inj h
 exact .qn z (.ret (fin_ret (vs:=[_]) v12 (rt z rn) z (hS.to [0] z)))
theorem fde {k : Nat} {f0h : List Stmt → Int → Option ((List Quad))} {f0i : Stmt → Int → Option ((List Quad))} {f0v : Stmt → Int → Option ((List Quad))} {f0l : Stmt → Int → Option ((List Quad))} (f3d : f2v f0h) (f6v : f3w f0i) (f8b : f51 f0v) (f5s : f3c f0l) : f3c (f4o k f0h f0i f0v f0l):=by
 intro a0 a1 v_0_Expr_Args v_0_Body v_0_Else w r h q_0_Expr_Args q_0_Body q_0_Else
 unfold f4o at h
 refine enter Tryz.func174 z z ?_
 have hS:=Sep.start w
 refine .g (.c (.box hS z z ?_ z z))
 intro g1 W hS
 refine .qn z (.g (.s (fa T.f160_3 z z z) z (.s (ld T.t158 hS z z z z z) z ?_)))
 have ⟨y1,hy1,h⟩:=bnd h
 refine .c (.call1v hS Tryz.func172 (f97 hy1 (hS.keep q_0_Expr_Args)) z z ?_ z z z z)
 intro v1 W hS
 refine .qn z (.g (.s (fa T.f160_4 z z z) z (.s (ld T.t134 hS.p1 z z z z z) z (.q z (.q z (.s (lenv hS.lendv T.u104 z z) z (.q z (.q z ?_))))))))
 have ⟨y2,hy2,h⟩:=bnd h
 refine .c (.call1v hS Tryz.func148 (f3d hy2 (hS.keep q_0_Body)) z z ?_ z z z z)
 intro v2 W hS
 refine .qn z (.g (.q z (.q z (.q z (.s (lenv hS.p1.lendv T.u104 z z) z (.q z (.q z (.q z (.s (lenv hS.lendv T.u104 z z) z (.q z (.q z (.s (bs T.s126 z z) z (.c (.liv [(Quad.mk 5 0 4 0 (w64 ((w64 ((w64 ((w64 (a1 + (y1.length : Int))) + 1)) + (y2.length : Int))) + 1)))] dQuad T.u104 T.t126 hS z z z z ?_ z (fun _=>z) z z z z))))))))))))))
 intro v3 W hS
 have ⟨r1,hr1,h⟩:=bnd h
 have hT0:=hS.p2
 refine .c (.apprv hr1 hT0 hT0.p1.lendv (fun _=>z) T.u104 T.t126 z z z ?_ z z z z z)
 intro v4 W hS
 refine .qn z (.g (.q z (.q z ?_)))
 have ⟨r2,hr2,h⟩:=bnd h
 have hT0:=hS
 refine .c (.apprv hr2 hT0 hT0.p2.lendv (fun _=>z) T.u104 T.t126 z z z ?_ z z z z z)
 intro v5 W hS
 refine .qn z (.g (.q z (.q z (.s (bs T.s126 z z) z (.c (.liv [(Quad.mk 4 0 0 0 a1)] dQuad T.u104 T.t126 hS z z z z ?_ z (fun _=>z) z z z z))))))
 intro v6 W hS
 have ⟨r3,hr3,h⟩:=bnd h
 have hT0:=hS.p1
 refine .c (.apprv hr3 hT0 hT0.p1.lendv (fun _=>z) T.u104 T.t126 z z z ?_ z z z z z)
 intro v7 W hS
 obtain rfl:=Option.some.inj h
 exact .qn z (.ret (fin_ret (vs:=[_]) v7 (rt z rn) z (hS.to [0] z)))
theorem fbg (k : Nat) : f2v (f36 k) ∧ f3w (f4z k) ∧ f51 (f93 k) ∧ f3c (f6e k):=by
  induction k with
  | zero=>exact ⟨by intro a0 a1 v_0 w r h q_0; exact no h,by intro a0 a1 v_0_Expr_Args v_0_Body v_0_Else w r h q_0_Expr_Args q_0_Body q_0_Else; exact no h,by intro a0 a1 v_0_Expr_Args v_0_Body v_0_Else w r h q_0_Expr_Args q_0_Body q_0_Else; exact no h,by intro a0 a1 v_0_Expr_Args v_0_Body v_0_Else w r h q_0_Expr_Args q_0_Body q_0_Else; exact no h⟩
  | succ k ih=>exact ⟨fe9 (k:=k) ih.1 ih.2.1 ih.2.2.1 ih.2.2.2,fe3 (k:=k) ih.1 ih.2.1 ih.2.2.1 ih.2.2.2,fei (k:=k) ih.1 ih.2.1 ih.2.2.1 ih.2.2.2,fde (k:=k) ih.1 ih.2.1 ih.2.2.1 ih.2.2.2⟩
theorem fd6 {k : Nat} : f2v (f36 k):=(fbg k).1
theorem fbf {k : Nat} {a0 : List Stmt} {v_0 : Hd} {w : World} {r : (List Quad) × Bool} (h : f49 k a0 = some r) (q_0 : RV w (Old No w) (sv v_0) 160 8 dStmt a0) : Calls Tryz.prog 120 #[(sv v_0)] w (Ret No w (fun s : Hd=>.tuple #[(sv s),.bool r.2]) (fun s=>[rowV (sv s) 126 5 dQuad r.1])):=by
 unfold f49 at h
 refine enter Tryz.func120 z z ?_
 have hS:=Sep.start w
 refine .g (.q z (.qn z (.seq (.g (.q z ?_)))))
 have ⟨y1,hy1,h⟩:=bnd h
 refine .c (.call0 hS Tryz.func147 (fbn hy1 (hS.keep q_0)) z z ?_ z z z z)
 intro W hS
 refine .q z (.nil ?_)
 refine .cs z h ?_ ?_ <;> intro h
 ·refine .g (.c (.liv [] dQuad T.u104 T.t126 hS z z z z ?_ z (fun _=>z) z z z z))
  intro v1 W hS
  cases h
  exact .q z (.qn z (.ret (fin_ret (vs:=[_,_]) v1 (rt z (rt z rn)) z (hS.to [0] z))))
 refine .skip (.g (.q z ?_))
 have ⟨y2,hy2,h⟩:=bnd h
 refine .c (.call1v hS Tryz.func148 (fd6 hy2 (hS.keep q_0)) z z ?_ z z z z)
 intro v2 W hS
 refine .s (bs T.s126 z z) z (.c (.liv [(Quad.mk 10 0 0 0 0)] dQuad T.u104 T.t126 hS z z z z ?_ z (fun _=>z) z z z z))
 intro v3 W hS
 have ⟨r1,hr1,h⟩:=bnd h
 have hT0:=hS.p1
 refine .c (.apprv hr1 hT0 hT0.p1.lendv (fun _=>z) T.u104 T.t126 z z z ?_ z z z z z)
 intro v4 W hS
 cases h
 exact .q z (.qn z (.ret (fin_ret (vs:=[_,_]) v4 (rt z (rt z rn)) z (hS.to [0] z))))
theorem f03 {a0 : Int} {a1 : Expr} {a2 : Expr} {v_1_Args : Hd} {v_2_Args : Hd} {S : Nat → Prop} {w : World} {r : Expr} (h : f6l a0 a1 a2 = some r) (hO : Owns w [rowV (sv v_1_Args) 158 3 dExpr a1.Args,rowV (sv v_2_Args) 158 3 dExpr a2.Args] S) (hlt : ∀ b,S b → b < w.heap.size) : Calls Tryz.prog 196 #[.int .i64 a0,.agg #[.int .i64 a1.Op,.int .i64 a1.N,(sv v_1_Args)],.agg #[.int .i64 a2.Op,.int .i64 a2.N,(sv v_2_Args)]] w (Ret S w (fun s : Hd=>.agg #[.int .i64 r.Op,.int .i64 r.N,(sv s)]) (fun s=>[rowV (sv s) 158 3 dExpr r.Args])):=by
 unfold f6l at h
 refine enter Tryz.func196 z z ?_
 have hS:=Sep.startM hO hlt
 refine .g (.c (.box hS z z ?_ z z))
 intro g1 W hS
 refine .c (.box hS z z ?_ z z)
 intro g2 W hS
 refine .c (.alloc T.t158 hS ?_ z z z)
 intro g3 W hS
 refine .nil (.g (.q z (.s (ld T.t158 hS.p2 z z z z z) z (.s (ld T.t158 hS.p1 z z z z z) z (.c (.ligv (L1:=[rowV (sv v_1_Args) 158 3 dExpr a1.Args,rowV (sv v_2_Args) 158 3 dExpr a2.Args]) [(Expr.mk a1.Op a1.N a1.Args),(Expr.mk a2.Op a2.N a2.Args)] dExpr T.u156 T.t158 (hS.to [3,3,0,0,0] z) z z z (.aggE (eExpr _) (.flat (c1:=[.int .i64 a1.Op]) z (.flat (c1:=[.int .i64 a1.N]) z (.row (.aggE (eExpr _) (.flat (c1:=[.int .i64 a2.Op]) z (.flat (c1:=[.int .i64 a2.N]) z (.row .nil)))))))) ?_ z zExpr z z z z z))))))
 intro v1 W hS
 refine .s (bs T.s158 z z) z (.c (.st T.t158 hS.p1 z z z ?_ z z z z z))
 intro W hS
 cases h
 exact .nil (.ret (fin_ret (vs:=[_]) v1 (rc hS T.t158 z rn z z) z (hS.to [1] z)))
theorem f04 {a0 : Int} {a1 : Int} {w : World} {r : Expr} (h : f1y a0 a1 = some r) : Calls Tryz.prog 197 #[.int .i64 a0,.int .i64 a1] w (Ret No w (fun s : Hd=>.agg #[.int .i64 r.Op,.int .i64 r.N,(sv s)]) (fun s=>[rowV (sv s) 158 3 dExpr r.Args])):=by
 unfold f1y at h
 refine enter Tryz.func197 z z ?_
 have hS:=Sep.start w
 refine .g (.c (.alloc T.t158 hS ?_ z z z))
 intro g1 W hS
 refine .nil (.g (.q z (.q z (.c (.ligv (L1:=[]) [] dExpr T.u156 T.t158 (hS.to [0] z) z z z (.nil) ?_ z zExpr z z z z z)))))
 intro v1 W hS
 refine .s (bs T.s158 z z) z (.c (.st T.t158 hS.p1 z z z ?_ z z z z z))
 intro W hS
 cases h
 exact .nil (.ret (fin_ret (vs:=[_]) v1 (rc hS T.t158 z rn z z) z (hS.to [1] z)))
theorem fdf {a0 : L6Rd} {v_0_b : Hd} {g_0 : Nat} {S : Nat → Prop} {w : World} {r : Expr × Int} (h : f5e a0 = some r) (q_0_b : RV w (Old S w) (sv v_0_b) 5 1 (D.int .u8) a0.b) (hO : Owns w [.box g_0 100 [(sv v_0_b),.int .i64 a0.p]] S) (hlt : ∀ b,S b → b < w.heap.size) : Calls Tryz.prog 198 #[.pointer (some ⟨g_0,0,none⟩)] w (Ret S w (fun s : Hd=>.agg #[.int .i64 r.1.Op,.int .i64 r.1.N,(sv s)]) (fun s=>[.box g_0 100 [(sv v_0_b),.int .i64 r.2],rowV (sv s) 158 3 dExpr r.1.Args])):=by
 unfold f5e at h
 refine enter Tryz.func198 z z ?_
 have hS:=Sep.startM hO hlt
 refine .g (.c (.alloc T.t158 hS ?_ z z z))
 intro g1 W hS
 refine .nil (.seq (.g (.q z ?_)))
 have ⟨y1,hy1,h⟩:=bnd h
 have hS:=hS.p1
 refine .c (.callS2 (L0:=[.box g_0 100 [(sv v_0_b),.int .i64 a0.p]]) hS Tryz.func36 (fun S h1 h2 h3=>(f00 hy1 (hS.keepS q_0_b h1) h2 (zz h1))) z z ?_ z z z z)
 rintro ⟨⟩ W hS
 refine .nil (.block (.g (.q z (.qn z (.cond z (fun hb=>?_) (fun hb=>?_))))))
 ·have h:=sel_t hb h
  refine .g (.q z ?_)
  have ⟨y2,hy2,h⟩:=bnd h
  refine .c (.callS2 (L0:=[.box g_0 100 [(sv v_0_b),.int .i64 y1.2]]) hS Tryz.func36 (fun S h1 h2 h3=>(f00 hy2 (hS.keepS q_0_b h1) h2 (zz h1))) z z ?_ z z z z)
  rintro ⟨⟩ W hS
  have ⟨y3,hy3,h⟩:=bnd h
  refine .c (.call1v hS Tryz.func197 (f04 hy3) z z ?_ z z z z)
  intro v1 W hS
  refine .c (.st T.t158 hS.p2 z z z ?_ z z z z z)
  intro W hS
  cases h
  exact .nil (.ret (fin_ret (vs:=[_]) v1 (rc hS T.t158 z rn z z) z (hS.to [2,1] z)))
 have h:=sel_f hb h
 refine .g (.q z (.qn z (.cond z (fun hb=>?_) (fun hb=>?_))))
 ·have h:=sel_t hb h
  refine .g (.c (.liv [5,31,32,100,2047,2048,65536,99999] (D.int .i64) T.u25 T.t3 hS z z z z ?_ z (fun _=>z) z z z z))
  intro v2 W hS
  refine .q z ?_
  have ⟨y4,hy4,h⟩:=bnd h
  have hS:=hS.p1
  refine .c (.callS2 (L0:=[.box g_0 100 [(sv v_0_b),.int .i64 y1.2]]) hS Tryz.func36 (fun S h1 h2 h3=>(f00 hy4 (hS.keepS q_0_b h1) h2 (zz h1))) z z ?_ z z z z)
  rintro ⟨⟩ W hS
  have ⟨x1,hx1,h⟩:=bnd h
  refine .s (ixv hS.p1.lendv hx1 T.u25 T.t3 z z z) z (.s (lde (RV.flat hS.p1.lendv hx1 z) T.t3 z z z z z) z ?_)
  have ⟨y5,hy5,h⟩:=bnd h
  refine .c (.call1v hS Tryz.func197 (f04 hy5) z z ?_ z z z z)
  intro v3 W hS
  refine .c (.st T.t158 hS.p3 z z z ?_ z z z z z)
  intro W hS
  cases h
  exact .nil (.ret (fin_ret (vs:=[_]) v3 (rc hS T.t158 z rn z z) z (hS.to [2,1] z)))
 have h:=sel_f hb h
 refine .skip (.g (.q z ?_))
 have ⟨y6,hy6,h⟩:=bnd h
 refine .c (.callS2 (L0:=[.box g_0 100 [(sv v_0_b),.int .i64 y1.2]]) hS Tryz.func36 (fun S h1 h2 h3=>(f00 hy6 (hS.keepS q_0_b h1) h2 (zz h1))) z z ?_ z z z z)
 rintro ⟨⟩ W hS
 have ⟨y7,hy7,h⟩:=bnd h
 refine .c (.call1v hS Tryz.func197 (f04 hy7) z z ?_ z z z z)
 intro v4 W hS
 refine .c (.st T.t158 hS.p2 z z z ?_ z z z z z)
 intro W hS
 cases h
 exact .nil (.ret (fin_ret (vs:=[_]) v4 (rc hS T.t158 z rn z z) z (hS.to [2,1] z)))
def f7l (F : L6Rd → Int → Option (Expr × Int)) : Prop:=∀ {a0 : L6Rd} {a1 : Int} {v_0_b : Hd} {g_0 : Nat} {S : Nat → Prop} {w : World} {r : Expr × Int} (h : F a0 a1 = some r) (q_0_b : RV w (Old S w) (sv v_0_b) 5 1 (D.int .u8) a0.b) (hO : Owns w [.box g_0 100 [(sv v_0_b),.int .i64 a0.p]] S) (hlt : ∀ b,S b → b < w.heap.size) , Calls Tryz.prog 179 #[.pointer (some ⟨g_0,0,none⟩),.int .i64 a1] w (Ret S w (fun s : Hd=>.agg #[.int .i64 r.1.Op,.int .i64 r.1.N,(sv s)]) (fun s=>[.box g_0 100 [(sv v_0_b),.int .i64 r.2],rowV (sv s) 158 3 dExpr r.1.Args]))
end Go.Proofs.YtmpplggjpmmhlaaGreatDoor.N
namespace Go.Proofs.YtmpplggjpmmhlaaGreatDoor.N
open Go.Proofs.YtmpplggjpmmhlaaGreatDoor.X
theorem fe7 {k : Nat} {f5m : L6Rd → Int → Option (Expr × Int)} (far : f7l f5m) : f7l (f54 k f5m):=by
 intro a0 a1 v_0_b g_0 S w r h q_0_b hO hlt
 unfold f54 at h
 refine enter Tryz.func179 z z ?_
 have hS:=Sep.startM hO hlt
 refine .g (.c (.alloc T.t158 hS ?_ z z z))
 intro g1 W hS
 refine .nil (.seq (.g (.q z (.q z (.q z ?_)))))
 have ⟨b1,hb1,h⟩:=bnd h
 refine .chunkL 4 13 (b1.1) (M:=S) (w0:=w) (L:=[.box g1 158 [.int .i64 0,.int .i64 0,(sv nilH)],.box g_0 100 [(sv v_0_b),.int .i64 b1.2]]) ?_ ?_
 ·refine .both (decide (a1 < 2)) (fun hb=>?_) (fun hb=>?_)
  ·refine .xx hb z (.xx hb z (.xx hb z ?_))
   cases sel_t hb hb1
   exact .s (pkt hb z z z) z (.nil (ck 4 (hS.to [0,0] z) z z z z))
  have hg1:=hb
  have h:=sel_f hb hb1
  refine .g hg1 (.q z ?_) z
  have ⟨y1,hy1,h⟩:=bnd h
  have hS:=hS.p1
  refine .g hg1 (.c (.callS2 (L0:=[.box g_0 100 [(sv v_0_b),.int .i64 a0.p]]) hS Tryz.func36 (fun S h1 h2 h3=>(f00 hy1 (hS.keepS q_0_b h1) h2 (zz h1))) z z ?_ z z z z)) z
  rintro ⟨⟩ W hS
  refine .g hg1 (.q z (.s (pkf hg1 z z z) z ?_)) z
  cases h
  exact .nil (ck 4 (hS.to [1,0] z) z z z z)
 intro W hS
 refine .nil (.cond z (fun hb=>?_) (fun hb=>?_))
 ·have h:=sel_t hb h
  refine .g (.q z ?_)
  have ⟨y2,hy2,h⟩:=bnd h
  have hS:=hS.p1
  refine .c (.callS2 (L0:=[.box g_0 100 [(sv v_0_b),.int .i64 b1.2]]) hS Tryz.func198 (fun S h1 h2 h3=>(fdf hy2 (hS.keepS q_0_b h1) h2 (zz h1))) z z ?_ z z z z)
  rintro v1 W hS
  refine .c (.st T.t158 hS.p2 z z z ?_ z z z z z)
  intro W hS
  cases h
  exact .nil (.ret (fin_ret (vs:=[_]) v1 (rc hS T.t158 z rn z z) z (hS.to [1,1] z)))
 have h:=sel_f hb h
 refine .skip (.g (.q z ?_))
 have ⟨y3,hy3,h⟩:=bnd h
 have hS:=hS.p1
 refine .c (.callS2 (L0:=[.box g_0 100 [(sv v_0_b),.int .i64 b1.2]]) hS Tryz.func161 (fun S h1 h2 h3=>(fbd hy3 (hS.keepS q_0_b h1) h2 (zz h1))) z z ?_ z z z z)
 rintro ⟨⟩ W hS
 refine .qn z (.g (.q z (.q z (.q z ?_))))
 have ⟨y4,hy4,h⟩:=bnd h
 refine .c (.callS2 (L0:=[.box g_0 100 [(sv v_0_b),.int .i64 y3.2]]) hS Tryz.func179 (fun S h1 h2 h3=>(far hy4 (hS.keepS q_0_b h1) h2 (zz h1))) z z ?_ z z z z)
 rintro v2 W hS
 refine .c (.alloc T.t158 hS ?_ z z z)
 intro g2 W hS
 refine .c (.st T.t158 hS z z z ?_ z z z z z)
 intro W hS
 refine .nil (.seq (.rk 7 hS [0,2] T.mix ?_))
 intro W hS
 have hT:=hS.to [0,2] z
 refine .tp 0 z z hT (by kernel_rfl) (.ts 1 z (fun W hT=>ld T.t158 hT z z z z z) hT z (by kernel_rfl) (.tp 2 z z hT (by kernel_rfl) (.tp 3 z z hT (by kernel_rfl) (.tp 4 z z hT (by kernel_rfl) ?_))))
 have ⟨y5,hy5,h⟩:=bnd h
 have hS:=hS.p1
 refine .by1 5 z (.callS2 (L0:=[.box g_0 100 [(sv v_0_b),.int .i64 y4.2]]) hS Tryz.func179 (fun S h1 h2 h3=>(far hy5 (hS.keepS q_0_b h1) h2 (zz h1))) z z ?_ z z z z) (by kernel_rfl)
 rintro v3 W hS
 have hT:=hS.to [2,3] z
 refine ⟨fun _=>hT,?_⟩
 have ⟨y6,hy6,h⟩:=bnd h
 have hS:=hS.p1
 have hS:=hS.p3
 refine .by1 6 z (.callS2 (L0:=[rowV (sv v2) 158 3 dExpr y4.1.Args,rowV (sv v3) 158 3 dExpr y5.1.Args]) hS Tryz.func196 (fun S h1 h2 h3=>(f03 hy6 h2 (zz h1))) z z ?_ z z z z) (by kernel_rfl)
 rintro v4 W hS
 have hT:=hS.to [2,2] z
 refine ⟨fun _=>hT,.by1 7 z (.st T.t158 hS.p3 z z z ?_ z z z z z) (by kernel_rfl)⟩
 intro W hS
 refine ⟨fun h=>absurd z h,?_⟩
 cases h
 exact .done (.ret (fin_ret (vs:=[_]) v4 (rc hS T.t158 z rn z z) z (hS.to [2,1] z))) (by kernel_rfl)
theorem fbj (k : Nat) : f7l (f2i k):=by
  induction k with
  | zero=>exact by intro a0 a1 v_0_b g_0 S w r h q_0_b hO hlt; exact no h
  | succ k ih=>exact fe7 (k:=k) ih
theorem f6w {k : Nat} : f7l (f2i k):=(fbj k)
theorem fax {k : Nat} {a0 : L6Rd} {v_0_b : Hd} {g_0 : Nat} {S : Nat → Prop} {w : World} {r : Stmt × Int} (h : f6m k a0 = some r) (q_0_b : RV w (Old S w) (sv v_0_b) 5 1 (D.int .u8) a0.b) (hO : Owns w [.box g_0 100 [(sv v_0_b),.int .i64 a0.p]] S) (hlt : ∀ b,S b → b < w.heap.size) : Calls Tryz.prog 175 #[.pointer (some ⟨g_0,0,none⟩)] w (Ret S w (fun s : Hd × Hd × Hd=>.agg #[.int .i64 r.1.Kind,.int .i64 r.1.Var,.int .i64 r.1.Box,.int .i64 r.1.Expr.Op,.int .i64 r.1.Expr.N,(sv s.1),(sv s.2.1),(sv s.2.2)]) (fun s=>[.box g_0 100 [(sv v_0_b),.int .i64 r.2],rowV (sv s.1) 158 3 dExpr r.1.Expr.Args,rowV (sv s.2.1) 160 8 dStmt r.1.Body,rowV (sv s.2.2) 160 8 dStmt r.1.Else])):=by
 unfold f6m at h
 refine enter Tryz.func175 z z ?_
 have hS:=Sep.startM hO hlt
 refine .g (.c (.alloc T.t160 hS ?_ z z z))
 intro g1 W hS
 refine .nil (.g (.q z ?_))
 have ⟨y1,hy1,h⟩:=bnd h
 have hS:=hS.p1
 refine .c (.callS2 (L0:=[.box g_0 100 [(sv v_0_b),.int .i64 a0.p]]) hS Tryz.func36 (fun S h1 h2 h3=>(f00 hy1 (hS.keepS q_0_b h1) h2 (zz h1))) z z ?_ z z z z)
 rintro ⟨⟩ W hS
 refine .qn z (.g (.q z (.q z (.q z ?_))))
 have ⟨y2,hy2,h⟩:=bnd h
 refine .c (.callS2 (L0:=[.box g_0 100 [(sv v_0_b),.int .i64 y1.2]]) hS Tryz.func36 (fun S h1 h2 h3=>(f00 hy2 (hS.keepS q_0_b h1) h2 (zz h1))) z z ?_ z z z z)
 rintro ⟨⟩ W hS
 refine .q z ?_
 have ⟨y3,hy3,h⟩:=bnd h
 refine .c (.callS2 (L0:=[.box g_0 100 [(sv v_0_b),.int .i64 y2.2]]) hS Tryz.func179 (fun S h1 h2 h3=>(f6w hy3 (hS.keepS q_0_b h1) h2 (zz h1))) z z ?_ z z z z)
 rintro v1 W hS
 refine .s (bs T.s160 z z) z (.c (.st T.t160 hS.p2 z z z ?_ z z z z z))
 intro W hS
 refine .nil (.ret ?_)
 have hS:=hS.nilv 160 8 dStmt
 have hS:=hS.nilv 160 8 dStmt
 cases h
 exact fin_ret (vs:=[_]) (v1,nilH,nilH) (rc hS.p2 T.t160 z rn z z) z (hS.to [3,3,1,0] z)
theorem fdr {k : Nat} {a0 : L6Rd} {a1 : Int} {v_0_b : Hd} {g_0 : Nat} {S : Nat → Prop} {w : World} {r : Stmt × Int} (h : f7b k a0 a1 = some r) (q_0_b : RV w (Old S w) (sv v_0_b) 5 1 (D.int .u8) a0.b) (hO : Owns w [.box g_0 100 [(sv v_0_b),.int .i64 a0.p]] S) (hlt : ∀ b,S b → b < w.heap.size) : Calls Tryz.prog 178 #[.pointer (some ⟨g_0,0,none⟩),.int .i64 a1] w (Ret S w (fun s : Hd × Hd × Hd=>.agg #[.int .i64 r.1.Kind,.int .i64 r.1.Var,.int .i64 r.1.Box,.int .i64 r.1.Expr.Op,.int .i64 r.1.Expr.N,(sv s.1),(sv s.2.1),(sv s.2.2)]) (fun s=>[.box g_0 100 [(sv v_0_b),.int .i64 r.2],rowV (sv s.1) 158 3 dExpr r.1.Expr.Args,rowV (sv s.2.1) 160 8 dStmt r.1.Body,rowV (sv s.2.2) 160 8 dStmt r.1.Else])):=by
 unfold f7b at h
 refine enter Tryz.func178 z z ?_
 have hS:=Sep.startM hO hlt
 refine .g (.c (.alloc T.t160 hS ?_ z z z))
 intro g1 W hS
 refine .nil (.seq (.g (.q z (.qn z (.cond z (fun hb=>?_) (fun hb=>?_))))))
 ·have h:=sel_t hb h
  refine .g (.q z ?_)
  have ⟨y1,hy1,h⟩:=bnd h
  have hS:=hS.p1
  refine .c (.callS2 (L0:=[.box g_0 100 [(sv v_0_b),.int .i64 a0.p]]) hS Tryz.func175 (fun S h1 h2 h3=>(fax hy1 (hS.keepS q_0_b h1) h2 (zz h1))) z z ?_ z z z z)
  rintro ⟨v1,v2,v3⟩ W hS
  refine .c (.st T.t160 hS.p4 z z z ?_ z z z z z)
  intro W hS
  cases h
  exact .nil (.ret (fin_ret (vs:=[_]) (v1,v2,v3) (rc hS T.t160 z rn z z) z (hS.to [1,1,1,1] z)))
 have h:=sel_f hb h
 refine .skip (.g (.q z (.q z ?_)))
 have ⟨y2,hy2,h⟩:=bnd h
 have hS:=hS.p1
 refine .c (.callS2 (L0:=[.box g_0 100 [(sv v_0_b),.int .i64 a0.p]]) hS Tryz.func36 (fun S h1 h2 h3=>(f00 hy2 (hS.keepS q_0_b h1) h2 (zz h1))) z z ?_ z z z z)
 rintro ⟨⟩ W hS
 refine .qn z (.seq (.g (.q z ?_)))
 have ⟨y3,hy3,h⟩:=bnd h
 refine .c (.callS2 (L0:=[.box g_0 100 [(sv v_0_b),.int .i64 y2.2]]) hS Tryz.func36 (fun S h1 h2 h3=>(f00 hy3 (hS.keepS q_0_b h1) h2 (zz h1))) z z ?_ z z z z)
 rintro ⟨⟩ W hS
 refine .qn z (.cond z (fun hb=>?_) (fun hb=>?_))
 ·have h:=sel_t hb h
  refine .g (.q z (.q z (.q z ?_)))
  have ⟨y4,hy4,h⟩:=bnd h
  refine .c (.callS2 (L0:=[.box g_0 100 [(sv v_0_b),.int .i64 y3.2]]) hS Tryz.func36 (fun S h1 h2 h3=>(f00 hy4 (hS.keepS q_0_b h1) h2 (zz h1))) z z ?_ z z z z)
  rintro ⟨⟩ W hS
  refine .q z ?_
  have ⟨y5,hy5,h⟩:=bnd h
  refine .c (.callS2 (L0:=[.box g_0 100 [(sv v_0_b),.int .i64 y4.2]]) hS Tryz.func179 (fun S h1 h2 h3=>(f6w hy5 (hS.keepS q_0_b h1) h2 (zz h1))) z z ?_ z z z z)
  rintro v4 W hS
  refine .s (bs T.s160 z z) z (.c (.st T.t160 hS.p2 z z z ?_ z z z z z))
  intro W hS
  refine .nil (.ret ?_)
  have hS:=hS.nilv 160 8 dStmt
  have hS:=hS.nilv 160 8 dStmt
  cases h
  exact fin_ret (vs:=[_]) (v4,nilH,nilH) (rc hS.p2 T.t160 z rn z z) z (hS.to [3,3,1,0] z)
 have h:=sel_f hb h
 refine .skip (.g (.q z (.q z ?_)))
 have ⟨y6,hy6,h⟩:=bnd h
 refine .c (.callS2 (L0:=[.box g_0 100 [(sv v_0_b),.int .i64 y3.2]]) hS Tryz.func36 (fun S h1 h2 h3=>(f00 hy6 (hS.keepS q_0_b h1) h2 (zz h1))) z z ?_ z z z z)
 rintro ⟨⟩ W hS
 refine .s (bs T.s160 z z) z (.c (.st T.t160 hS.p1 z z z ?_ z z z z z))
 intro W hS
 refine .nil (.ret ?_)
 have hS:=hS.nilv 158 3 dExpr
 have hS:=hS.nilv 160 8 dStmt
 have hS:=hS.nilv 160 8 dStmt
 cases h
 exact fin_ret (vs:=[_]) (nilH,nilH,nilH) (rc hS.p3 T.t160 z rn z z) z (hS.to [4,2,1,0] z)
def f2e (F : L6Rd → Int → Int → Int → Bool → Option ((List Stmt) × Int)) : Prop:=∀ {a0 : L6Rd} {a1 : Int} {a2 : Int} {a3 : Int} {a4 : Bool} {v_0_b : Hd} {g_0 : Nat} {S : Nat → Prop} {w : World} {r : (List Stmt) × Int} (h : F a0 a1 a2 a3 a4 = some r) (q_0_b : RV w (Old S w) (sv v_0_b) 5 1 (D.int .u8) a0.b) (hO : Owns w [.box g_0 100 [(sv v_0_b),.int .i64 a0.p]] S) (hlt : ∀ b,S b → b < w.heap.size) , Calls Tryz.prog 149 #[.pointer (some ⟨g_0,0,none⟩),.int .i64 a1,.int .i64 a2,.int .i64 a3,.bool a4] w (Ret S w (fun s : Hd=>(sv s)) (fun s=>[.box g_0 100 [(sv v_0_b),.int .i64 r.2],rowV (sv s) 160 8 dStmt r.1]))
def f3v (F : L6Rd → Int → Int → Bool → Option ((List Stmt) × Int)) : Prop:=∀ {a0 : L6Rd} {a1 : Int} {a2 : Int} {a3 : Bool} {v_0_b : Hd} {g_0 : Nat} {S : Nat → Prop} {w : World} {r : (List Stmt) × Int} (h : F a0 a1 a2 a3 = some r) (q_0_b : RV w (Old S w) (sv v_0_b) 5 1 (D.int .u8) a0.b) (hO : Owns w [.box g_0 100 [(sv v_0_b),.int .i64 a0.p]] S) (hlt : ∀ b,S b → b < w.heap.size) , Calls Tryz.prog 164 #[.pointer (some ⟨g_0,0,none⟩),.int .i64 a1,.int .i64 a2,.bool a3] w (Ret S w (fun s : Hd=>(sv s)) (fun s=>[.box g_0 100 [(sv v_0_b),.int .i64 r.2],rowV (sv s) 160 8 dStmt r.1]))
def f5l (F : L6Rd → Int → Int → Bool → Option (Stmt × Int)) : Prop:=∀ {a0 : L6Rd} {a1 : Int} {a2 : Int} {a3 : Bool} {v_0_b : Hd} {g_0 : Nat} {S : Nat → Prop} {w : World} {r : Stmt × Int} (h : F a0 a1 a2 a3 = some r) (q_0_b : RV w (Old S w) (sv v_0_b) 5 1 (D.int .u8) a0.b) (hO : Owns w [.box g_0 100 [(sv v_0_b),.int .i64 a0.p]] S) (hlt : ∀ b,S b → b < w.heap.size) , Calls Tryz.prog 176 #[.pointer (some ⟨g_0,0,none⟩),.int .i64 a1,.int .i64 a2,.bool a3] w (Ret S w (fun s : Hd × Hd × Hd=>.agg #[.int .i64 r.1.Kind,.int .i64 r.1.Var,.int .i64 r.1.Box,.int .i64 r.1.Expr.Op,.int .i64 r.1.Expr.N,(sv s.1),(sv s.2.1),(sv s.2.2)]) (fun s=>[.box g_0 100 [(sv v_0_b),.int .i64 r.2],rowV (sv s.1) 158 3 dExpr r.1.Expr.Args,rowV (sv s.2.1) 160 8 dStmt r.1.Body,rowV (sv s.2.2) 160 8 dStmt r.1.Else]))
def f3z (F : L6Rd → Int → Int → Option ((List Stmt) × Int)) : Prop:=∀ {a0 : L6Rd} {a1 : Int} {a2 : Int} {v_0_b : Hd} {g_0 : Nat} {S : Nat → Prop} {w : World} {r : (List Stmt) × Int} (h : F a0 a1 a2 = some r) (q_0_b : RV w (Old S w) (sv v_0_b) 5 1 (D.int .u8) a0.b) (hO : Owns w [.box g_0 100 [(sv v_0_b),.int .i64 a0.p]] S) (hlt : ∀ b,S b → b < w.heap.size) , Calls Tryz.prog 177 #[.pointer (some ⟨g_0,0,none⟩),.int .i64 a1,.int .i64 a2] w (Ret S w (fun s : Hd=>(sv s)) (fun s=>[.box g_0 100 [(sv v_0_b),.int .i64 r.2],rowV (sv s) 160 8 dStmt r.1]))
theorem fd7 {k : Nat} {f0d : L6Rd → Int → Int → Int → Bool → Option ((List Stmt) × Int)} {f0j : L6Rd → Int → Int → Bool → Option ((List Stmt) × Int)} {f0w : L6Rd → Int → Int → Bool → Option (Stmt × Int)} {f0o : L6Rd → Int → Int → Option ((List Stmt) × Int)} (f30 : f2e f0d) (f6p : f3v f0j) (f8d : f5l f0w) (f6u : f3z f0o) : f2e (f4p k f0d f0j f0w f0o):=by
 intro a0 a1 a2 a3 a4 v_0_b g_0 S w r h q_0_b hO hlt
 unfold f4p at h
 refine enter Tryz.func149 z z ?_
 have hS:=Sep.startM hO hlt
 refine .g (.qn z (.g (.c (.ligv (L1:=[]) [] dStmt T.u134 T.t160 (hS.to [0] z) z z z (.nil) ?_ z zStmt z z z z z))))
 intro v1 W hS
 refine .qn z (.seq (.g (.qn z (.block ?_))))
 have ⟨y1,hy1,h⟩:=bnd h
 refine .via (.iter (fun s1 E' W'=>∃ (v4 : Hd),SubL E' [(0,.pointer (some ⟨g_0,0,none⟩)),(1,.int .i64 a1),(2,.int .i64 a2),(3,.int .i64 a3),(4,.bool a4),(11,(sv v4)),(12,.int .i64 s1.2.1)] ∧ Sep S w W' [.box g_0 100 [(sv v_0_b),.int .i64 s1.2.2],rowV (sv v4) 160 8 dStmt s1.1]) (fun y2 x E' W'=>x = .exit 0 ∧ ∃ (v5 : Hd),SubL E' [(11,(sv v5))] ∧ Sep S w W' [.box g_0 100 [(sv v_0_b),.int .i64 y2.2],rowV (sv v5) 160 8 dStmt y2.1]) hy1 ⟨v1,sb z,hS.to [1,0] z⟩ ?_) ?_
 ·intro s1 y3 E W h hI
  obtain ⟨v3,hE,hS⟩:=hI
  refine CW.sub hE ?_
  unfold f8j at h
  refine .seq (.g (.q z (.q z (.qn z (.cond z (fun hb=>?_) (fun hb=>?_))))))
  ·have h:=sel_t hb h
   refine .skip (.seq (.block (.region (.q z (.q z (.q z (.q z (.q z ?_))))))))
   have ⟨y4,hy4,h⟩:=bnd h
   refine .c (.callS2 (L0:=[.box g_0 100 [(sv v_0_b),.int .i64 s1.2.2]]) hS Tryz.func164 (fun S h1 h2 h3=>(f6p hy4 (hS.keepS q_0_b h1) h2 (zz h1))) z z ?_ z z z z)
   rintro v6 W hS
   have ⟨r1,hr1,h⟩:=bnd h
   refine .c (.appv hr1 (hS.to [2,1,0] z) T.u134 T.t160 z z z ?_ z z z z z)
   intro v7 W hS
   refine .qn z (.region (.q z (.q z (.q z (.nil ?_)))))
   cases h
   exact ⟨z,v7,sb z,hS.to [1,0] z⟩
  have h:=sel_f hb h
  refine .exit ?_
  cases h
  exact ⟨by simp,z,v3,sb z,hS.to [0,0] z⟩
 intro x E W hJ
 obtain ⟨rfl,v8,hE,hS⟩:=hJ
 refine ⟨_,hE.sub,?_⟩
 cases h
 exact .g (.q z (.qn z (.ret (fin_ret (vs:=[_]) v8 (rt z rn) z (hS.to [0,0] z)))))
def fe2 (w : World) (S : Nat → Prop) (v_0_b : Hd) (g_0 : Nat) (a0 : L6Rd) (a1 : Int) (a2 : Int) (a3 : Bool) (r : (List Stmt) × Int) : Env → World → Prop:=Fin Tryz.prog Tryz.f164 S w (fun s : Hd=>(sv s)) (fun s=>[.box g_0 100 [(sv v_0_b),.int .i64 r.2],rowV (sv s) 160 8 dStmt r.1]) .ret
theorem fea {k : Nat} {f0d : L6Rd → Int → Int → Int → Bool → Option ((List Stmt) × Int)} {f0j : L6Rd → Int → Int → Bool → Option ((List Stmt) × Int)} {f0w : L6Rd → Int → Int → Bool → Option (Stmt × Int)} {f0o : L6Rd → Int → Int → Option ((List Stmt) × Int)} (f30 : f2e f0d) (f6p : f3v f0j) (f8d : f5l f0w) (f6u : f3z f0o) : f3v (f5d k f0d f0j f0w f0o):=by
 intro a0 a1 a2 a3 v_0_b g_0 S w r h q_0_b hO hlt
 unfold f5d at h
 refine enter Tryz.func164 z z ?_
 have hS:=Sep.startM hO hlt
 refine .g (.q z (.nil ?_))
 have ⟨y1,hy1,h⟩:=bnd h
 refine .seq (CW.via (R':=fun x E' W'=>(match y1 with | .inl o1=>x = .normal ∧ SubL E' [(0,.pointer (some ⟨g_0,0,none⟩))] ∧ Sep S w W' [.box g_0 100 [(sv v_0_b),.int .i64 o1]] | .inr o2=>x = .ret ∧ fe2 w S v_0_b g_0 a0 a1 a2 a3 o2 E' W')) ?_ ?_)
 ·have h:=hy1
  refine .g (.q z ?_)
  have ⟨y2,hy2,h⟩:=bnd h
  refine .c (.callS2 (L0:=[.box g_0 100 [(sv v_0_b),.int .i64 a0.p]]) hS Tryz.func36 (fun S h1 h2 h3=>(f00 hy2 (hS.keepS q_0_b h1) h2 (zz h1))) z z ?_ z z z z)
  rintro ⟨⟩ W hS
  refine .nil (.block ?_)
  have ⟨y3,hy3,h⟩:=bnd h
  refine .seq (CW.via (R':=fun x E' W'=>x = .normal ∧ SubL E' [(0,.pointer (some ⟨g_0,0,none⟩)),(1,.int .i64 a1),(2,.int .i64 a2),(3,.bool a3),(10,.int .i64 y2.1),(11,.bool y3)] ∧ Sep S w W' [.box g_0 100 [(sv v_0_b),.int .i64 y2.2]]) ?_ ?_)
  ·have h:=hy3
   refine .g (.q z (.q z (.nil ?_)))
   refine .cs z h ?_ ?_ <;> intro h
   ·refine .skip ?_
    cases h
    exact ⟨z,sb z,hS.to [0] z⟩
   refine .region (.q z (.q z (.nil ?_)))
   cases h
   exact ⟨z,sb z,hS.to [0] z⟩
  intro x E W hJ
  obtain ⟨rfl,hE,hS⟩:=hJ
  refine ⟨_,hE.sub,?_⟩
  refine .cond z (fun hb=>?_) (fun hb=>?_)
  ·have h:=sel_t hb h
   refine .g (.q z ?_)
   have ⟨y4,hy4,h⟩:=bnd h
   refine .c (.callS2 (L0:=[.box g_0 100 [(sv v_0_b),.int .i64 y2.2]]) hS Tryz.func175 (fun S h1 h2 h3=>(fax hy4 (hS.keepS q_0_b h1) h2 (zz h1))) z z ?_ z z z z)
   rintro ⟨v1,v2,v3⟩ W hS
   refine .c (.ligv (L1:=[rowV (sv v1) 158 3 dExpr y4.1.Expr.Args,rowV (sv v2) 160 8 dStmt y4.1.Body,rowV (sv v3) 160 8 dStmt y4.1.Else]) [(Stmt.mk y4.1.Kind y4.1.Var y4.1.Box (Expr.mk y4.1.Expr.Op y4.1.Expr.N y4.1.Expr.Args) y4.1.Body y4.1.Else)] dStmt T.u134 T.t160 (hS.to [1,1,1,0] z) z z z (.aggE (eStmt _) (.flat (c1:=[.int .i64 y4.1.Kind]) z (.flat (c1:=[.int .i64 y4.1.Var]) z (.flat (c1:=[.int .i64 y4.1.Box]) z (.aggE (eExpr _) (.flat (c1:=[.int .i64 y4.1.Expr.Op]) z (.flat (c1:=[.int .i64 y4.1.Expr.N]) z (.row (.row (.row .nil)))))))))) ?_ z zStmt z z z z z)
   intro v4 W hS
   refine .qn z (.ret ?_)
   cases h
   exact ⟨z,fin_ret (vs:=[_]) v4 (rt z rn) z (hS.to [1,0] z)⟩
  have h:=sel_f hb h
  refine .g (.q z (.q z (.nil ?_)))
  refine .cs z h ?_ ?_ <;> intro h
  ·refine .g (.q z (.qn z (.cond z (fun hb=>?_) (fun hb=>?_))))
   ·have h:=sel_t hb h
    refine .g (.q z (.q z (.q z (.q z ?_))))
    have ⟨y5,hy5,h⟩:=bnd h
    refine .c (.callS2 (L0:=[.box g_0 100 [(sv v_0_b),.int .i64 y2.2]]) hS Tryz.func176 (fun S h1 h2 h3=>(f8d hy5 (hS.keepS q_0_b h1) h2 (zz h1))) z z ?_ z z z z)
    rintro ⟨v5,v6,v7⟩ W hS
    refine .c (.ligv (L1:=[rowV (sv v5) 158 3 dExpr y5.1.Expr.Args,rowV (sv v6) 160 8 dStmt y5.1.Body,rowV (sv v7) 160 8 dStmt y5.1.Else]) [(Stmt.mk y5.1.Kind y5.1.Var y5.1.Box (Expr.mk y5.1.Expr.Op y5.1.Expr.N y5.1.Expr.Args) y5.1.Body y5.1.Else)] dStmt T.u134 T.t160 (hS.to [1,1,1,0] z) z z z (.aggE (eStmt _) (.flat (c1:=[.int .i64 y5.1.Kind]) z (.flat (c1:=[.int .i64 y5.1.Var]) z (.flat (c1:=[.int .i64 y5.1.Box]) z (.aggE (eExpr _) (.flat (c1:=[.int .i64 y5.1.Expr.Op]) z (.flat (c1:=[.int .i64 y5.1.Expr.N]) z (.row (.row (.row .nil)))))))))) ?_ z zStmt z z z z z)
    intro v8 W hS
    refine .qn z (.ret ?_)
    cases h
    exact ⟨z,fin_ret (vs:=[_]) v8 (rt z rn) z (hS.to [1,0] z)⟩
   have h:=sel_f hb h
   refine .skip ?_
   cases h
   exact ⟨z,sb z,hS.to [0] z⟩
  refine .g (.q z (.q z (.nil ?_)))
  refine .cs z h ?_ ?_ <;> intro h
  ·refine .g (.q z (.q z (.q z (.chunk 2 33 ((decide (a2 > 0)) && a3) hS ?_ ?_))))
   ·refine .both (decide (a2 > 0)) (fun hb=>?_) (fun hb=>?_)
    ·have hg1:=hb
     exact .g hg1 (.q z (.s (pkt hg1 z z z) z (.nil (ck 2 hS z (and_t hg1) z z)))) z
    exact .xx hb z (.s (pkf hb z z z) z (.nil (ck 2 hS z (and_f hb) z z)))
   intro W hS
   refine .nil (.cond z (fun hb=>?_) (fun hb=>?_))
   ·have h:=sel_t hb h
    refine .g (.q z (.q z (.q z ?_)))
    have ⟨y6,hy6,h⟩:=bnd h
    refine .c (.callS2 (L0:=[.box g_0 100 [(sv v_0_b),.int .i64 y2.2]]) hS Tryz.func177 (fun S h1 h2 h3=>(f6u hy6 (hS.keepS q_0_b h1) h2 (zz h1))) z z ?_ z z z z)
    rintro v9 W hS
    refine .qn z (.ret ?_)
    cases h
    exact ⟨z,fin_ret (vs:=[_]) v9 (rt z rn) z (hS.to [0,0] z)⟩
   have h:=sel_f hb h
   refine .skip ?_
   cases h
   exact ⟨z,sb z,hS.to [0] z⟩
  have ⟨y7,hy7,h⟩:=bnd h
  refine .seq (CW.via (R':=fun x E' W'=>x = .normal ∧ SubL E' [(0,.pointer (some ⟨g_0,0,none⟩)),(1,.int .i64 a1),(10,.int .i64 y2.1),(38,.bool y7)] ∧ Sep S w W' [.box g_0 100 [(sv v_0_b),.int .i64 y2.2]]) ?_ ?_)
  ·have h:=hy7
   refine .g (.q z (.q z (.nil ?_)))
   refine .cs z h ?_ ?_ <;> intro h
   ·refine .skip ?_
    cases h
    exact ⟨z,sb z,hS.to [0] z⟩
   refine .g (.q z (.q z (.nil ?_)))
   refine .cs z h ?_ ?_ <;> intro h
   ·refine .skip ?_
    cases h
    exact ⟨z,sb z,hS.to [0] z⟩
   refine .region (.q z (.q z (.nil ?_)))
   cases h
   exact ⟨z,sb z,hS.to [0] z⟩
  intro x E W hJ
  obtain ⟨rfl,hE,hS⟩:=hJ
  refine ⟨_,hE.sub,?_⟩
  refine .cond z (fun hb=>?_) (fun hb=>?_)
  ·have h:=sel_t hb h
   refine .g (.q z (.q z ?_))
   have ⟨y8,hy8,h⟩:=bnd h
   refine .c (.callS2 (L0:=[.box g_0 100 [(sv v_0_b),.int .i64 y2.2]]) hS Tryz.func178 (fun S h1 h2 h3=>(fdr hy8 (hS.keepS q_0_b h1) h2 (zz h1))) z z ?_ z z z z)
   rintro ⟨v10,v11,v12⟩ W hS
   refine .c (.ligv (L1:=[rowV (sv v10) 158 3 dExpr y8.1.Expr.Args,rowV (sv v11) 160 8 dStmt y8.1.Body,rowV (sv v12) 160 8 dStmt y8.1.Else]) [(Stmt.mk y8.1.Kind y8.1.Var y8.1.Box (Expr.mk y8.1.Expr.Op y8.1.Expr.N y8.1.Expr.Args) y8.1.Body y8.1.Else)] dStmt T.u134 T.t160 (hS.to [1,1,1,0] z) z z z (.aggE (eStmt _) (.flat (c1:=[.int .i64 y8.1.Kind]) z (.flat (c1:=[.int .i64 y8.1.Var]) z (.flat (c1:=[.int .i64 y8.1.Box]) z (.aggE (eExpr _) (.flat (c1:=[.int .i64 y8.1.Expr.Op]) z (.flat (c1:=[.int .i64 y8.1.Expr.N]) z (.row (.row (.row .nil)))))))))) ?_ z zStmt z z z z z)
   intro v13 W hS
   refine .qn z (.ret ?_)
   cases h
   exact ⟨z,fin_ret (vs:=[_]) v13 (rt z rn) z (hS.to [1,0] z)⟩
  have h:=sel_f hb h
  refine .g (.q z (.q z (.nil ?_)))
  refine .cs z h ?_ ?_ <;> intro h
  ·refine .g (.s (bs T.s160 z z) z ?_)
   have hS:=hS.nilv 158 3 dExpr
   have hS:=hS.nilv 160 8 dStmt
   have hS:=hS.nilv 160 8 dStmt
   refine .c (.ligv (L1:=[rowV (sv nilH) 158 3 dExpr [],rowV (sv nilH) 160 8 dStmt [],rowV (sv nilH) 160 8 dStmt []]) [(Stmt.mk 6 0 0 (Expr.mk 0 0 []) [] [])] dStmt T.u134 T.t160 (hS.to [2,1,0,0] z) z z z (.aggE (eStmt _) (.flat (c1:=[.int .i64 6]) z (.flat (c1:=[.int .i64 0]) z (.flat (c1:=[.int .i64 0]) z (.aggE (eExpr _) (.flat (c1:=[.int .i64 0]) z (.flat (c1:=[.int .i64 0]) z (.row (.row (.row .nil)))))))))) ?_ z zStmt z z z z z)
   intro v14 W hS
   refine .qn z (.ret ?_)
   cases h
   exact ⟨z,fin_ret (vs:=[_]) v14 (rt z rn) z (hS.to [1,0] z)⟩
  refine .skip ?_
  cases h
  exact ⟨z,sb z,hS.to [0] z⟩
 intro x E W hJ
 rcases y1 with o3 | o4
 ·obtain ⟨rfl,hE,hS⟩:=hJ
  refine ⟨_,hE.sub,?_⟩
  refine .g (.q z (.q z ?_))
  have ⟨y9,hy9,h⟩:=bnd h
  refine .c (.callS2 (L0:=[.box g_0 100 [(sv v_0_b),.int .i64 o3]]) hS Tryz.func36 (fun S h1 h2 h3=>(f00 hy9 (hS.keepS q_0_b h1) h2 (zz h1))) z z ?_ z z z z)
  rintro ⟨⟩ W hS
  refine .q z ?_
  have ⟨y10,hy10,h⟩:=bnd h
  refine .c (.callS2 (L0:=[.box g_0 100 [(sv v_0_b),.int .i64 y9.2]]) hS Tryz.func179 (fun S h1 h2 h3=>(f6w hy10 (hS.keepS q_0_b h1) h2 (zz h1))) z z ?_ z z z z)
  rintro v15 W hS
  refine .s (bs T.s160 z z) z ?_
  have hS:=hS.nilv 160 8 dStmt
  have hS:=hS.nilv 160 8 dStmt
  refine .c (.ligv (L1:=[rowV (sv v15) 158 3 dExpr y10.1.Args,rowV (sv nilH) 160 8 dStmt [],rowV (sv nilH) 160 8 dStmt []]) [(Stmt.mk 7 0 0 (Expr.mk y10.1.Op y10.1.N y10.1.Args) [] [])] dStmt T.u134 T.t160 (hS.to [3,1,0,0] z) z z z (.aggE (eStmt _) (.flat (c1:=[.int .i64 7]) z (.flat (c1:=[.int .i64 0]) z (.flat (c1:=[.int .i64 0]) z (.aggE (eExpr _) (.flat (c1:=[.int .i64 y10.1.Op]) z (.flat (c1:=[.int .i64 y10.1.N]) z (.row (.row (.row .nil)))))))))) ?_ z zStmt z z z z z)
  intro v16 W hS
  cases h
  exact .qn z (.ret (fin_ret (vs:=[_]) v16 (rt z rn) z (hS.to [1,0] z)))
 obtain ⟨rfl,hF⟩:=hJ
 refine ⟨_,fun _ _ h=>h,?_⟩
 cases h
 exact hF
theorem fel {k : Nat} {f0d : L6Rd → Int → Int → Int → Bool → Option ((List Stmt) × Int)} {f0j : L6Rd → Int → Int → Bool → Option ((List Stmt) × Int)} {f0w : L6Rd → Int → Int → Bool → Option (Stmt × Int)} {f0o : L6Rd → Int → Int → Option ((List Stmt) × Int)} (f30 : f2e f0d) (f6p : f3v f0j) (f8d : f5l f0w) (f6u : f3z f0o) : f5l (f7k k f0d f0j f0w f0o):=by
 intro a0 a1 a2 a3 v_0_b g_0 S w r h q_0_b hO hlt
 unfold f7k at h
 refine enter Tryz.func176 z z ?_
 have hS:=Sep.startM hO hlt
 refine .g (.c (.alloc T.t160 hS ?_ z z z))
 intro g1 W hS
 refine .nil (.g (.q z (.q z ?_)))
 have ⟨y1,hy1,h⟩:=bnd h
 have hS:=hS.p1
 refine .c (.callS2 (L0:=[.box g_0 100 [(sv v_0_b),.int .i64 a0.p]]) hS Tryz.func36 (fun S h1 h2 h3=>(f00 hy1 (hS.keepS q_0_b h1) h2 (zz h1))) z z ?_ z z z z)
 rintro ⟨⟩ W hS
 refine .q z ?_
 have ⟨y2,hy2,h⟩:=bnd h
 refine .c (.callS2 (L0:=[.box g_0 100 [(sv v_0_b),.int .i64 y1.2]]) hS Tryz.func179 (fun S h1 h2 h3=>(f6w hy2 (hS.keepS q_0_b h1) h2 (zz h1))) z z ?_ z z z z)
 rintro v1 W hS
 refine .c (.alloc T.t158 hS ?_ z z z)
 intro g2 W hS
 refine .c (.st T.t158 hS z z z ?_ z z z z z)
 intro W hS
 refine .nil (.g (.q z (.q z (.q z (.q z (.q z ?_))))))
 have ⟨y3,hy3,h⟩:=bnd h
 have hS:=hS.p1
 refine .c (.callS2 (L0:=[.box g_0 100 [(sv v_0_b),.int .i64 y2.2]]) hS Tryz.func36 (fun S h1 h2 h3=>(f00 hy3 (hS.keepS q_0_b h1) h2 (zz h1))) z z ?_ z z z z)
 rintro ⟨⟩ W hS
 refine .q z ?_
 have ⟨y4,hy4,h⟩:=bnd h
 refine .c (.callS2 (L0:=[.box g_0 100 [(sv v_0_b),.int .i64 y3.2]]) hS Tryz.func149 (fun S h1 h2 h3=>(f30 hy4 (hS.keepS q_0_b h1) h2 (zz h1))) z z ?_ z z z z)
 rintro v2 W hS
 refine .qn z (.seq (.rk 11 hS [1,1,1,1] T.mix ?_))
 intro W hS
 have hT:=hS.to [1,1,1,1] z
 refine .ts 0 z (fun W hT=>ld T.t158 hT.p1 z z z z z) hT z (by kernel_rfl) (.tp 1 z z hT (by kernel_rfl) (.tp 2 z z hT (by kernel_rfl) (.tp 3 z z hT (by kernel_rfl) (.tp 4 z z hT (by kernel_rfl) (.tp 5 z z hT (by kernel_rfl) (.tp 6 z z hT (by kernel_rfl) (.tp 8 z z hT (by kernel_rfl) ?_)))))))
 have ⟨y5,hy5,h⟩:=bnd h
 refine .by1 7 z (.callS2 (L0:=[.box g_0 100 [(sv v_0_b),.int .i64 y4.2]]) hS Tryz.func36 (fun S h1 h2 h3=>(f00 hy5 (hS.keepS q_0_b h1) h2 (zz h1))) z z ?_ z z z z) (by kernel_rfl)
 rintro ⟨⟩ W hS
 have hT:=hS.to [1,1,1,1] z
 refine ⟨fun _=>hT,?_⟩
 have ⟨y6,hy6,h⟩:=bnd h
 refine .by1 9 z (.callS2 (L0:=[.box g_0 100 [(sv v_0_b),.int .i64 y5.2]]) hS Tryz.func149 (fun S h1 h2 h3=>(f30 hy6 (hS.keepS q_0_b h1) h2 (zz h1))) z z ?_ z z z z) (by kernel_rfl)
 rintro v3 W hS
 have hT:=hS.to [2,2,2,2] z
 refine ⟨fun _=>hT,.ts 10 z (fun W hT=>bs T.s160 z z) hT z (by kernel_rfl) (.by1 11 z (.st T.t160 hS.p5 z z z ?_ z z z z z) (by kernel_rfl))⟩
 intro W hS
 refine ⟨fun h=>absurd z h,?_⟩
 cases h
 exact .done (.ret (fin_ret (vs:=[_]) (v1,v2,v3) (rc hS T.t160 z rn z z) z (hS.to [1,4,2,1] z))) (by kernel_rfl)
end Go.Proofs.YtmpplggjpmmhlaaGreatDoor.N
