/- The program logic: a row's first element is taken out: append(l[:0], l[1:]...). The program logic: what is left of a region whose order is drawn is shown once,  -/
import Derived.Test.YtcljimkjmklkmaaGreatDoorK1
import Derived.Test.YtcljimkjmklkmaaGreatDoorProg
set_option linter.unusedVariables false
set_option linter.unusedSimpArgs false
set_option maxRecDepth 100000
set_option maxHeartbeats 4000000
namespace Go.Proofs.YtcljimkjmklkmaaGreatDoor.X
noncomputable section
variable {P : Program} {n : Nat} {ops : Array Oper} {o : Oper} {E : Env} {W W' w0 : World} {v : Value} {K : Env → World → Prop} {M : Nat → Prop} {L : List Ent}
variable {t e : TypeId} {ag : Bool} {zv : Value} {size bytes : Nat} {α : Type} {enc : α → D} {l r r2 : List α}
theorem yL : cut l 0 0 = some []:=by
 unfold cut
 rw [if_pos ⟨Int.le_refl _,Int.le_refl _,by omega⟩]
 rfl
theorem OpW.tak {h : Hd} {p q : Operand} (hc : cut l 1 (l.length : Int) = some r) (hr : X.app bytes [] r = some r2) (hS : Sep M w0 W (ae (sv h) e size enc l :: L)) (hfl : ∀ x,(fw (enc x)).isSome = true) (hu : P.underlying t = some (.slice e)) (ht : bK P e = some (ag,some zv,size,bytes))
  (ho : o.op = .call { callee:=.builtin .append,args:=#[p,q],argTypes:=#[t,t] }) (hp : ev E p = some (sv (pT h (Int.toNat 0) size 0))) (hq : ev E q = some (sv (pT h (Int.toNat 1) size r.length)))
  (hk : ∀ (v : Hd) W',Sep M w0 W' (ae (sv v) e size enc r2 :: L) → K (put E o.dst (sv v)) W')
  (hz : zv.cells.size = size:=by exact rfl) (h0 : Nat.blt 0 size = true:=by exact rfl) (hb0 : Nat.blt 0 bytes = true:=by exact rfl) (hg : o.guard = none:=by exact rfl) (hd : okD n o.dst = true:=by exact rfl) : OpW P n ops o E W K:=by
 obtain ⟨hrr2,hroom⟩:=pP hr
 have hr2 : r2 = r:=by simpa using hrr2
 rw [hr2] at hk
 have hrd:=uU hc hS.lv
 obtain ⟨hrr,_,hl1,_⟩:=nS hc
 obtain ⟨S1,hS1,⟨v1,k1,e1,⟨r1,b1⟩,s1,S1',p1,o1⟩,hrest⟩:=hS.own
 simp only [List.cons.injEq,and_true] at e1
 subst e1
 rw [List.length_map] at r1
 obtain ⟨i0,hi,hz0,hz1,hz2⟩:=lj ht
 rcases r1.2 with ⟨hv,hn⟩ | ⟨g,cap,cur,hv,hb,hgc,hnc,hcm,hcs,htake⟩
 ·omega
 ·obtain ⟨A,m,c⟩:=h
  simp only [sv,Value.slice.injEq] at hv
  obtain ⟨rfl,rfl,rfl⟩:=hv
  have ha0 : pT ⟨some ⟨g,0,none⟩,l.length,c⟩ (Int.toNat 0) size 0 = ⟨some ⟨g,0,none⟩,0,c⟩:=by
   unfold pT th
   simp [Addr.add]
  rw [ha0] at hp
  have hown0 : W.ownsRow 0 e size (.slice (some ⟨g,0,none⟩) 0 c) 0 []:=⟨by simp,.inr ⟨g,c,cur,rfl,hb,hgc,Nat.zero_le _,hcm,hcs,by simp⟩⟩
  obtain ⟨A',cap',cs,q1,q2,q3,q4,q5,q6⟩:=hrd
  have o2:=s8 (fun x _=>hfl x) q6
  have hlen : cs.length = r.length * size:=by rw [D.owns_length o2,qw q4,List.length_map]
  simp only [pT,sv,List.cons.injEq,and_true,Value.slice.injEq] at q1
  obtain ⟨q1a,_,q1c⟩:=q1
  have hrl : r.length ≤ l.length:=by rw [hrr]; simp
  have run : ∃ v' W',(Builtin.append_ #[t,t] o.type #[.slice (some ⟨g,0,none⟩) 0 c,sv (pT ⟨some ⟨g,0,none⟩,l.length,c⟩ (Int.toNat 1) size r.length)]).run P W = .ok v' W' ∧ W'.ownsRow 0 e size v' r.length cs ∧ W.grownBy W' (some g) ∧ (v'.ownBlock = some g ∨ v'.ownBlock = some W.heap.size):=by
   by_cases hne : r = []
   ·subst hne
    have hcs0 : cs = []:=List.eq_nil_of_length_eq_zero (by simpa using hlen)
    subst hcs0
    refine ⟨.slice (some ⟨g,0,none⟩) 0 c,W,?_,hown0,⟨rfl,rfl,rfl,Nat.le_refl _,fun _ _ _=>rfl⟩,.inl rfl⟩
    simp only [pT,sv,List.length_nil]
    generalize th (some ⟨g,0,none⟩) c (Int.toNat 1) size = A2
    cases A2 <;> simp [Builtin.append_,run_underlying hu,sizeOf,typeInfo,hi,Builtin.lenOf,Builtin.firstCells,storeCells,loadCells,loadCellsFrom]
   ·obtain ⟨ad,had,_,f3⟩:=q5 (by simpa using hne)
    obtain ⟨v',W',hrun,hown,hgrow,hn0,hat⟩:=run_append_own_at (P:=P) W 0 t o.type e i0 zv size bytes hu hi hz0 hz1 hz2 hz (by simpa [Nat.blt_eq] using h0) _ _ _ hown0 ad r.length cap' cs hlen f3 (D.owns_one o2) (by have:=Rd.lt hS.lend; simp only [maxLen] at *; omega) (by simpa using hroom) (Nat.zero_le _)
    refine ⟨v',W',?_,by simpa using hown,hgrow,hat⟩
    rw [← hrun,← had,← q1a,← q1c]
    rfl
  obtain ⟨v',W',hrun,hown,hgrow,hat⟩:=run
  obtain ⟨vh,rfl⟩ : ∃ vh : Hd,v' = sv vh:=by
   rcases hown.2 with ⟨h1,h2⟩ | ⟨g,cap,cur,h1,_⟩
   ·exact ⟨aP,h1⟩
   ·exact ⟨⟨_,_,_⟩,h1⟩
  have hgS : S1 g:=b1 g rfl
  refine .runs (W':=W') (v:=sv vh) (fun a ha=>?_) hg hd (hk vh _ (Sep.of_parts (L':=[ae (sv vh) e size enc r]) hS.frame (S:=S1) hS1 hrest (ea.of_grown hgrow fun b hb=>by injection hb with hb; exact hb ▸ hgS)
   ⟨fun b=>S1 b ∨ (W.heap.size ≤ b ∧ b < W'.heap.size),fun b hb=>hb,⟨_,cs,rfl,⟨by simpa using hown,fun g' hg'=>?_⟩,fun x hx=>q4 x hx,fun _=>False,fun _ hf=>hf.elim,?_⟩,trivial⟩))
  ·unfold execOp
   simp only [ho,resolve,Deferred.ofValue,invoke,builtin,Sem.run_bind,Sem.run_pure,Result.andThen_ok]
   have hp' : a.eval p = .slice (some ⟨g,0,none⟩) 0 c:=ha.ev hp
   have hq':=ha.ev hq
   generalize sv (pT ⟨some ⟨g,0,none⟩,l.length,c⟩ (Int.toNat 1) size r.length) = qv at hq' hrun
   simp [hp',hq',hrun]
  ·rcases hat with hat | hat
   ·rw [hat] at hg'; injection hg' with hg'; exact .inl (hg' ▸ hgS)
   ·have : g' = W.heap.size:=by rw [hat] at hg'; injection hg' with hg'; exact hg'.symm
    subst this
    rcases hown.lt W.heap.size hat with ⟨_,h2⟩
    exact .inr ⟨Nat.le_refl _,h2⟩
  ·-- fw data lie in no block
   have key : ∀ {xs : List α} {c2 : List Value} {T : Nat → Prop},D.rds W (xs.map enc) T c2 → D.owns W' (xs.map enc) (fun _=>False) c2:=by
    intro xs
    induction xs with
    | nil=>intro c2 T h; exact h
    | cons x xs ih =>
     intro c2 T ⟨d1,d2,g1,g2,g3,g4⟩
     obtain ⟨cx,hcx⟩:=Option.isSome_iff_exists.1 (hfl x)
     have:=mx hcx g3
     subst this
     exact ⟨fun _=>False,_,d2,g1,g2,fun _ hf=>hf,lh hcx,D.owns_mono (ih g4) fun _ hf=>hf.elim⟩
   exact key q6
end
noncomputable section
variable {P : Program} {n : Nat} {ops : Array Oper} {E E' : Env} {W : World} {K : Env → World → Prop} {SW : World → Prop} {k : Nat}
def ky (n : Nat) (is : List Nat) : Array Bool:=is.foldl (fun l i=>l.setIfInBounds i true) (Array.replicate n false)
def nX : List Bool → List Bool → Bool
 | [],[]=>true
 | true :: r,true :: q=>nX r q
 | false :: r,false :: q=>nX r q
 | _,_=>false
theorem qG : ∀ {l q : List Bool},nX l q = true → l = q
 | [],[],_=>rfl
 | true :: r,true :: q,h=>by rw [qG (l:=r) (q:=q) h]
 | false :: r,false :: q,h=>by rw [qG (l:=r) (q:=q) h]
 | [],_ :: _,h=>by simp [nX] at h
 | _ :: _,[],h=>by simp [nX] at h
 | true :: _,false :: _,h=>by simp [nX] at h
 | false :: _,true :: _,h=>by simp [nX] at h
theorem RK.sub {f : Nat} {l : Array Bool} (hs : aK E E') (h : RK P n ops SW k f l E' W K) : RK P n ops SW k f l E W K:=fun a Q ha hk=>h a Q (ha.sub hs.sub) hk
theorem RK.atl {f : Nat} {l l' : Array Bool} (h : RK P n ops SW k f l' E W K) (hl : nX l.toList l'.toList = true) : RK P n ops SW k f l E W K:=by
 have : l = l':=Array.ext' (qG hl)
 exact this ▸ h
theorem RK.memo {f : Nat} {l : Array Bool} (X : Env → World → Prop) (f' : Nat) (l' : Array Bool) (hJ : ∀ E W,X E W → RK P n ops SW k f' l' E W K) (h : (∀ E W,X E W → RK P n ops SW k f' l' E W K) → RK P n ops SW k f l E W K) : RK P n ops SW k f l E W K:=h hJ
end
end Go.Proofs.YtcljimkjmklkmaaGreatDoor.X
namespace Go.Proofs.YtcljimkjmklkmaaGreatDoor.N
open Go.Proofs.YtcljimkjmklkmaaGreatDoor.X
noncomputable section
structure ll where
 name : ByteArray
 opcode : Int
 funct3 : Int
 funct7 : Int
structure aU where
 b : List Int
 p : Int
structure al where
 Op : Int
 Dst : Int
 A : Int
 B : Int
 N : Int
def aX (x : al) : D:=.agg [.int .i64 x.Op,.int .i64 x.Dst,.int .i64 x.A,.int .i64 x.B,.int .i64 x.N]
structure Expr where
 Op : Int
 N : Int
 Args : List Expr
mutual
def bg : Expr → D
 | ⟨x0,x1,x2⟩=>.agg [.int .i64 x0,.int .i64 x1,.row 158 3 (uW x2)]
def uW : List Expr → List D
 | []=>[]
 | x :: r=>bg x :: uW r
end
theorem tu : ∀ l,uW l = l.map bg
 | []=>rfl
 | x :: r=>by rw [uW,tu r,List.map]
theorem eP (x : Expr) : bg x = .agg [.int .i64 x.Op,.int .i64 x.N,.row 158 3 (x.Args.map bg)]:=by
 cases x; simp only [bg,tu]
theorem yM (x : Expr) : (bg x).sz = 3:=by simp only [eP,D.sz,D.szs]
structure az where
 Kind : Int
 Var : Int
 Box : Int
 Expr : Expr
 Body : List az
 Else : List az
mutual
def aG : az → D
 | ⟨x0,x1,x2,x3,x4,x5⟩=>.agg [.int .i64 x0,.int .i64 x1,.int .i64 x2,bg x3,.row 160 8 (tv x4),.row 160 8 (tv x5)]
def tv : List az → List D
 | []=>[]
 | x :: r=>aG x :: tv r
end
theorem tw : ∀ l,tv l = l.map aG
 | []=>rfl
 | x :: r=>by rw [tv,tw r,List.map]
theorem gG (x : az) : aG x = .agg [.int .i64 x.Kind,.int .i64 x.Var,.int .i64 x.Box,bg x.Expr,.row 160 8 (x.Body.map aG),.row 160 8 (x.Else.map aG)]:=by
 cases x; simp only [aG,tw]
theorem kz (x : az) : (aG x).sz = 8:=by simp only [gG,D.sz,D.szs,yM]
structure bi where
 Kind : Int
 N : Int
def bZ (x : bi) : D:=.agg [.int .i64 x.Kind,.int .i64 x.N]
structure Instr where
 Op : Int
 Rd : Int
 Rs : Int
 Rt : Int
 Imm : Int
def br (x : Instr) : D:=.agg [.int .i64 x.Op,.int .i64 x.Rd,.int .i64 x.Rs,.int .i64 x.Rt,.int .i64 x.Imm]
structure Box where
 Room : Int
 Items : List Int
def a6 (x : Box) : D:=.agg [.int .i64 x.Room,.row 3 1 (x.Items.map (D.int .i64))]
structure ah where
 Regs : List Int
 Pc : Int
 Mem : List Int
def aq (x : ah) : D:=.agg [.row 3 1 (x.Regs.map (D.int .i64)),.int .i64 x.Pc,.row 3 1 (x.Mem.map (D.int .i64))]
structure aH where
 Harts : List ah
 Boxes : List Box
 Turn : Int
 Idle : Int
 Out : List Int
def l9 : List Int:=[8,9,10,11,12,3,1,2,6,7,5]
def kB : List ll:=[⟨⟨#[97,100,100]⟩,51,0,0⟩,⟨⟨#[115,117,98]⟩,51,0,32⟩,⟨⟨#[109,117,108]⟩,51,0,1⟩,⟨⟨#[100,105,118]⟩,51,4,1⟩,⟨⟨#[114,101,109]⟩,51,6,1⟩,⟨⟨#[97,110,100]⟩,51,7,0⟩,⟨⟨#[111,114]⟩,51,6,0⟩,⟨⟨#[120,111,114]⟩,51,4,0⟩,⟨⟨#[115,108,108]⟩,51,1,0⟩,⟨⟨#[115,114,97]⟩,51,5,32⟩,⟨⟨#[115,108,116]⟩,51,2,0⟩,⟨⟨#[97,100,100,105]⟩,19,0,0⟩,⟨⟨#[115,108,116,105,117]⟩,19,3,0⟩,⟨⟨#[108,119]⟩,3,2,0⟩,⟨⟨#[106,97,108,114]⟩,103,0,0⟩,⟨⟨#[115,119]⟩,35,2,0⟩,⟨⟨#[98,101,113]⟩,99,0,0⟩,⟨⟨#[98,110,101]⟩,99,1,0⟩,⟨⟨#[108,117,105]⟩,55,0,0⟩,⟨⟨#[106,97,108]⟩,111,0,0⟩,⟨⟨#[101,99,97,108,108]⟩,115,0,0⟩]
def NGl : Nat:=2
def Gl (w : World) : Prop:=Tab 0 1 (fun x : Int=>[.int .i64 x]) l9 w ∧ Tab 1 4 (fun x : ll=>[.string x.name,.int .i64 x.opcode,.int .i64 x.funct3,.int .i64 x.funct7]) kB w
theorem Gl.at {w W : World} {M : Nat → Prop} {L : List Ent} (h : Gl w) (hS : Sep M w W L) (hM : ∀ g,g < NGl → ¬ M g) : Gl W:=⟨Tab.at h.1 hS (hM 0 (by decide)),Tab.at h.2 hS (hM 1 (by decide))⟩
theorem Gl.noS {w W : World} {M S : Nat → Prop} (h : Gl w) (hM : ∀ g,g < NGl → ¬ M g) (h1 : ∀ b,S b → OkS M w W b) : ∀ g,g < NGl → ¬ S g:=fun g hg hs=>by
 have h3 : 1 < w.heap.size:=h.2.1
 have hg' : g < 2:=hg
 rcases (h1 g hs).1 with h4 | h4
 ·omega
 ·exact hM g hg h4
theorem T.u22 : Tryz.prog.underlying 22 = some (.slice 5):=by kernel_rfl
theorem T.t5 : bK Tryz.prog 5 = some (false,some (.int .u8 0),1,1):=by kernel_rfl
theorem T.s74 : mP Tryz.prog 74 = some ([(0,1),(1,1)],[.slice none 0 0,.int .i64 0]):=by kernel_rfl
theorem T.f74_1 : fv Tryz.prog 74 1 = some (1,1,false):=by kernel_rfl
theorem T.t3 : bK Tryz.prog 3 = some (false,some (.int .i64 0),1,8):=by kernel_rfl
theorem T.f74_0 : fv Tryz.prog 74 0 = some (0,1,false):=by kernel_rfl
theorem T.t22 : bK Tryz.prog 22 = some (false,some (.slice none 0 0),1,24):=by kernel_rfl
theorem T.u5 : Tryz.prog.underlying 5 = some (.int .u8):=by kernel_rfl
theorem T.u3 : Tryz.prog.underlying 3 = some (.int .i64):=by kernel_rfl
theorem T.mix : Tryz.prog.follows .mixedOrders = true:=by kernel_rfl
theorem T.u23 : Tryz.prog.underlying 23 = some (.slice 3):=by kernel_rfl
theorem T.t107 : bK Tryz.prog 107 = some (true,some (.agg #[.int .i64 0,.int .i64 0,.int .i64 0,.int .i64 0,.int .i64 0]),5,40):=by kernel_rfl
theorem T.s107 : mP Tryz.prog 107 = some ([(0,1),(1,1),(2,1),(3,1),(4,1)],[.int .i64 0,.int .i64 0,.int .i64 0,.int .i64 0,.int .i64 0]):=by kernel_rfl
theorem T.u78 : Tryz.prog.underlying 78 = some (.slice 107):=by kernel_rfl
theorem T.u123 : Tryz.prog.underlying 123 = some (.slice 160):=by kernel_rfl
theorem T.t160 : bK Tryz.prog 160 = some (true,some (.agg #[.int .i64 0,.int .i64 0,.int .i64 0,.int .i64 0,.int .i64 0,.slice none 0 0,.slice none 0 0,.slice none 0 0]),8,112):=by kernel_rfl
theorem T.f160_4 : fv Tryz.prog 160 4 = some (6,1,false):=by kernel_rfl
theorem T.t123 : bK Tryz.prog 123 = some (false,some (.slice none 0 0),1,24):=by kernel_rfl
theorem T.f160_5 : fv Tryz.prog 160 5 = some (7,1,false):=by kernel_rfl
theorem T.f160_1 : fv Tryz.prog 160 1 = some (1,1,false):=by kernel_rfl
theorem T.f160_2 : fv Tryz.prog 160 2 = some (2,1,false):=by kernel_rfl
theorem T.f158_0 : fv Tryz.prog 158 0 = some (0,1,false):=by kernel_rfl
theorem T.f158_1 : fv Tryz.prog 158 1 = some (1,1,false):=by kernel_rfl
theorem T.f158_2 : fv Tryz.prog 158 2 = some (2,1,false):=by kernel_rfl
theorem T.t156 : bK Tryz.prog 156 = some (false,some (.slice none 0 0),1,24):=by kernel_rfl
theorem T.u156 : Tryz.prog.underlying 156 = some (.slice 158):=by kernel_rfl
theorem T.t158 : bK Tryz.prog 158 = some (true,some (.agg #[.int .i64 0,.int .i64 0,.slice none 0 0]),3,40):=by kernel_rfl
theorem T.f160_0 : fv Tryz.prog 160 0 = some (0,1,false):=by kernel_rfl
theorem T.f160_3 : fv Tryz.prog 160 3 = some (3,3,true):=by kernel_rfl
theorem T.s158 : mP Tryz.prog 158 = some ([(0,1),(1,1),(2,1)],[.int .i64 0,.int .i64 0,.slice none 0 0]):=by kernel_rfl
theorem T.s160 : mP Tryz.prog 160 = some ([(0,1),(1,1),(2,1),(3,3),(6,1),(7,1)],[.int .i64 0,.int .i64 0,.int .i64 0,.int .i64 0,.int .i64 0,.slice none 0 0,.slice none 0 0,.slice none 0 0]):=by kernel_rfl
theorem T.f107_1 : fv Tryz.prog 107 1 = some (1,1,false):=by kernel_rfl
theorem T.f107_2 : fv Tryz.prog 107 2 = some (2,1,false):=by kernel_rfl
theorem T.f107_3 : fv Tryz.prog 107 3 = some (3,1,false):=by kernel_rfl
theorem T.f107_0 : fv Tryz.prog 107 0 = some (0,1,false):=by kernel_rfl
theorem T.f107_4 : fv Tryz.prog 107 4 = some (4,1,false):=by kernel_rfl
theorem T.u176 : Tryz.prog.underlying 176 = some (.slice 196):=by kernel_rfl
theorem T.t196 : bK Tryz.prog 196 = some (true,some (.agg #[.int .i64 0,.int .i64 0]),2,16):=by kernel_rfl
theorem T.f196_0 : fv Tryz.prog 196 0 = some (0,1,false):=by kernel_rfl
theorem T.f196_1 : fv Tryz.prog 196 1 = some (1,1,false):=by kernel_rfl
theorem T.s196 : mP Tryz.prog 196 = some ([(0,1),(1,1)],[.int .i64 0,.int .i64 0]):=by kernel_rfl
theorem T.e196 : rT Tryz.prog 196 = some [(0,.int .i64),(1,.int .i64)]:=by kernel_rfl
theorem T.u173 : Tryz.prog.underlying 173 = some (.slice 176):=by kernel_rfl
theorem T.t176 : bK Tryz.prog 176 = some (false,some (.slice none 0 0),1,24):=by kernel_rfl
theorem T.u177 : Tryz.prog.underlying 177 = some (.slice 23):=by kernel_rfl
theorem T.t23 : bK Tryz.prog 23 = some (false,some (.slice none 0 0),1,24):=by kernel_rfl
theorem T.u184 : Tryz.prog.underlying 184 = some (.slice 4):=by kernel_rfl
theorem T.t4 : bK Tryz.prog 4 = some (false,some (.bool false),1,1):=by kernel_rfl
theorem T.u181 : Tryz.prog.underlying 181 = some (.slice 184):=by kernel_rfl
theorem T.t184 : bK Tryz.prog 184 = some (false,some (.slice none 0 0),1,24):=by kernel_rfl
theorem T.u4 : Tryz.prog.underlying 4 = some (.bool):=by kernel_rfl
theorem T.u75 : Tryz.prog.underlying 75 = some (.slice 78):=by kernel_rfl
theorem T.t78 : bK Tryz.prog 78 = some (false,some (.slice none 0 0),1,24):=by kernel_rfl
theorem T.s51 : mP Tryz.prog 51 = some ([(0,1),(1,1),(2,1),(3,1),(4,1)],[.int .i64 0,.int .i64 0,.int .i64 0,.int .i64 0,.int .i64 0]):=by kernel_rfl
theorem T.u35 : Tryz.prog.underlying 35 = some (.slice 51):=by kernel_rfl
theorem T.t51 : bK Tryz.prog 51 = some (true,some (.agg #[.int .i64 0,.int .i64 0,.int .i64 0,.int .i64 0,.int .i64 0]),5,40):=by kernel_rfl
theorem T.u24 : Tryz.prog.underlying 24 = some (.slice 35):=by kernel_rfl
theorem T.t35 : bK Tryz.prog 35 = some (false,some (.slice none 0 0),1,24):=by kernel_rfl
theorem T.s44 : mP Tryz.prog 44 = some ([(0,1),(1,1)],[.int .i64 0,.slice none 0 0]):=by kernel_rfl
theorem T.u28 : Tryz.prog.underlying 28 = some (.slice 44):=by kernel_rfl
theorem T.t44 : bK Tryz.prog 44 = some (true,some (.agg #[.int .i64 0,.slice none 0 0]),2,32):=by kernel_rfl
theorem T.u21 : Tryz.prog.underlying 21 = some (.int .i32):=by kernel_rfl
theorem T.u118 : Tryz.prog.underlying 118 = some (.int .u32):=by kernel_rfl
theorem T.f51_1 : fv Tryz.prog 51 1 = some (1,1,false):=by kernel_rfl
theorem T.f51_2 : fv Tryz.prog 51 2 = some (2,1,false):=by kernel_rfl
theorem T.f51_3 : fv Tryz.prog 51 3 = some (3,1,false):=by kernel_rfl
theorem T.f51_4 : fv Tryz.prog 51 4 = some (4,1,false):=by kernel_rfl
theorem T.f51_0 : fv Tryz.prog 51 0 = some (0,1,false):=by kernel_rfl
theorem T.e51 : rT Tryz.prog 51 = some [(0,.int .i64),(1,.int .i64),(2,.int .i64),(3,.int .i64),(4,.int .i64)]:=by kernel_rfl
theorem T.u115 : Tryz.prog.underlying 115 = some (.array 21 114):=by kernel_rfl
theorem T.t114 : bK Tryz.prog 114 = some (true,some (.agg #[.string ⟨#[]⟩,.int .i64 0,.int .i64 0,.int .i64 0]),4,40):=by kernel_rfl
theorem T.f114_2 : fv Tryz.prog 114 2 = some (2,1,false):=by kernel_rfl
theorem T.f114_1 : fv Tryz.prog 114 1 = some (1,1,false):=by kernel_rfl
theorem T.f114_3 : fv Tryz.prog 114 3 = some (3,1,false):=by kernel_rfl
theorem T.t38 : bK Tryz.prog 38 = some (true,some (.agg #[.slice none 0 0,.int .i64 0,.slice none 0 0]),3,56):=by kernel_rfl
theorem T.s38 : mP Tryz.prog 38 = some ([(0,1),(1,1),(2,1)],[.slice none 0 0,.int .i64 0,.slice none 0 0]):=by kernel_rfl
theorem T.f38_0 : fv Tryz.prog 38 0 = some (0,1,false):=by kernel_rfl
theorem T.f38_2 : fv Tryz.prog 38 2 = some (2,1,false):=by kernel_rfl
theorem T.t30 : bK Tryz.prog 30 = some (true,some (.agg #[.slice none 0 0,.slice none 0 0,.int .i64 0,.int .i64 0,.slice none 0 0]),5,88):=by kernel_rfl
theorem T.s30 : mP Tryz.prog 30 = some ([(0,1),(1,1),(2,1),(3,1),(4,1)],[.slice none 0 0,.slice none 0 0,.int .i64 0,.int .i64 0,.slice none 0 0]):=by kernel_rfl
theorem T.f30_0 : fv Tryz.prog 30 0 = some (0,1,false):=by kernel_rfl
theorem T.t27 : bK Tryz.prog 27 = some (false,some (.slice none 0 0),1,24):=by kernel_rfl
theorem T.u27 : Tryz.prog.underlying 27 = some (.slice 38):=by kernel_rfl
theorem T.f38_1 : fv Tryz.prog 38 1 = some (1,1,false):=by kernel_rfl
theorem T.f44_0 : fv Tryz.prog 44 0 = some (0,1,false):=by kernel_rfl
theorem T.f44_1 : fv Tryz.prog 44 1 = some (1,1,false):=by kernel_rfl
theorem T.f30_2 : fv Tryz.prog 30 2 = some (2,1,false):=by kernel_rfl
theorem T.f30_3 : fv Tryz.prog 30 3 = some (3,1,false):=by kernel_rfl
theorem T.f30_1 : fv Tryz.prog 30 1 = some (1,1,false):=by kernel_rfl
theorem T.t28 : bK Tryz.prog 28 = some (false,some (.slice none 0 0),1,24):=by kernel_rfl
theorem T.f30_4 : fv Tryz.prog 30 4 = some (4,1,false):=by kernel_rfl
theorem T.u91 : Tryz.prog.underlying 91 = some (.pointer 3):=by kernel_rfl
theorem T.u98 : Tryz.prog.underlying 98 = some (.array 11 3):=by kernel_rfl
def lm (a0 : List Int) : Option (aU):=
(sel (decide ((a0.length : Int) > 2000)) ((cut a0 0 2000).bind fun r1 =>
some r1) <|
some a0 : Option ((List Int))).bind fun y1 =>
some (aU.mk y1 0)
def ar (a0 : aU) (a1 : Int) : Option (Int × Int):=
sel ((decide (a1 < 1)) || ((a0.b.length : Int) == 0)) (some (0,w64 (a0.p + 1))) <|
sel (decide ((w64 ((w64 (a0.p + 1)) - 1)) < (a0.b.length : Int))) ((nth a0.b (w64 ((w64 (a0.p + 1)) - 1))).bind fun x1 =>
(mv (w64 (x1)) a1).bind fun d1 =>
some (d1,w64 (a0.p + 1))) <|
(mv (w64 ((w64 (a0.p + 1)) - 1)) (a0.b.length : Int)).bind fun d2 =>
(nth a0.b d2).bind fun x2 =>
(mv (w64 ((w64 ((w64 ((w64 (a0.p + 1)) - 1)) * 7)) + 3)) (a0.b.length : Int)).bind fun d3 =>
(nth a0.b d3).bind fun x3 =>
(pR .i64 (w64 ((w64 (a0.p + 1)) - 1)) (a0.b.length : Int)).bind fun d4 =>
(mv (aN .xor .i64 (w64 ((w64 ((w64 ((w64 ((w64 (x2)) * 131)) + (w64 ((w64 (x3)) * 1117)))) + (w64 ((w64 ((w64 (a0.p + 1)) - 1)) * 29)))) + (w64 (d4 * 53)))) (w64 (Int.tdiv (w64 ((w64 ((w64 ((w64 ((w64 (x2)) * 131)) + (w64 ((w64 (x3)) * 1117)))) + (w64 ((w64 ((w64 (a0.p + 1)) - 1)) * 29)))) + (w64 (d4 * 53)))) 64))) a1).bind fun d5 =>
some (d5,w64 (a0.p + 1))
def c6 (a0 : aU) : Option (Int × Int):=
(ar (aU.mk a0.b a0.p) 6).bind fun y1 =>
some (y1.1,y1.2)
def bW (a0 : Int) : Option (Int):=
sel (decide ((Int.tmod a0 4294967296) > 2147483647)) (some (w64 ((Int.tmod a0 4294967296) - 4294967296))) <|
sel (decide ((Int.tmod a0 4294967296) < (-2147483648))) (some (w64 ((Int.tmod a0 4294967296) + 4294967296))) <|
some (Int.tmod a0 4294967296)
def jM (a0 : aU) : Option (Int × Int):=
(ar (aU.mk a0.b a0.p) 6).bind fun y1 =>
sel (y1.1 == 0) ((ar (aU.mk a0.b y1.2) 8).bind fun y2 =>
(nth [(-2147483648),2147483647,(-1),0,1,(-2147483647),65536,(-65536)] y2.1).bind fun x1 =>
some (x1,y2.2)) <|
sel (y1.1 == 1) ((ar (aU.mk a0.b y1.2) 256).bind fun y3 =>
(ar (aU.mk a0.b y3.2) 256).bind fun y4 =>
(ar (aU.mk a0.b y4.2) 256).bind fun y5 =>
(ar (aU.mk a0.b y5.2) 200).bind fun y6 =>
(bW (w64 ((w64 ((w64 ((w64 (y3.1 * 65536)) + (w64 (y4.1 * 256)))) + y5.1)) * (w64 (1 + y6.1))))).bind fun y7 =>
some (y7,y6.2)) <|
sel (y1.1 == 2) ((ar (aU.mk a0.b y1.2) 200).bind fun y8 =>
some (w64 (0 - y8.1),y8.2)) <|
(ar (aU.mk a0.b y1.2) 20).bind fun y9 =>
some (y9.1,y9.2)
def kC (a0 : aU) : Option (Int × Int):=
(ar (aU.mk a0.b a0.p) 12).bind fun y1 =>
some (w64 (1 + y1.1),y1.2)
def jN (a0 : aU) (a1 : Int) : Option (al × Int):=
(ar (aU.mk a0.b a0.p) 12).bind fun y1 =>
(sel (y1.1 == 0) (some (y1.1 == 0)) <|
some (y1.1 == 1) : Option (Bool)).bind fun y2 =>
sel y2 ((c6 (aU.mk a0.b y1.2)).bind fun y3 =>
(jM (aU.mk a0.b y3.2)).bind fun y4 =>
(ar (aU.mk a0.b y4.2) 4).bind fun y5 =>
(nth [0,1,2,y4.1] y5.1).bind fun x1 =>
some ((al.mk 1 y3.1 0 0 x1),y5.2)) <|
(sel (y1.1 == 2) (some (y1.1 == 2)) <|
some (y1.1 == 3) : Option (Bool)).bind fun y6 =>
sel y6 ((c6 (aU.mk a0.b y1.2)).bind fun y7 =>
(c6 (aU.mk a0.b y7.2)).bind fun y8 =>
some ((al.mk 2 y7.1 y8.1 0 0),y8.2)) <|
(sel (y1.1 == 4) (some (y1.1 == 4)) <|
sel (y1.1 == 5) (some (y1.1 == 5)) <|
some (y1.1 == 6) : Option (Bool)).bind fun y9 =>
sel y9 ((c6 (aU.mk a0.b y1.2)).bind fun y10 =>
(c6 (aU.mk a0.b y10.2)).bind fun y11 =>
(c6 (aU.mk a0.b y11.2)).bind fun y12 =>
(kC (aU.mk a0.b y12.2)).bind fun y13 =>
some ((al.mk 3 y10.1 y11.1 y12.1 y13.1),y13.2)) <|
sel (y1.1 == 7) ((ar (aU.mk a0.b y1.2) a1).bind fun y14 =>
some ((al.mk 4 0 0 0 y14.1),y14.2)) <|
sel (y1.1 == 8) ((c6 (aU.mk a0.b y1.2)).bind fun y15 =>
(ar (aU.mk a0.b y15.2) a1).bind fun y16 =>
some ((al.mk 5 0 y15.1 0 y16.1),y16.2)) <|
sel (y1.1 == 9) ((c6 (aU.mk a0.b y1.2)).bind fun y17 =>
(ar (aU.mk a0.b y17.2) 2).bind fun y18 =>
some ((al.mk 6 0 y17.1 0 y18.1),y18.2)) <|
sel (y1.1 == 10) ((c6 (aU.mk a0.b y1.2)).bind fun y19 =>
(ar (aU.mk a0.b y19.2) 2).bind fun y20 =>
some ((al.mk 7 y19.1 0 0 y20.1),y20.2)) <|
(ar (aU.mk a0.b y1.2) 4).bind fun y21 =>
sel (y21.1 == 0) (some ((al.mk 8 0 0 0 0),y21.2)) <|
(c6 (aU.mk a0.b y21.2)).bind fun y22 =>
some ((al.mk 9 0 y22.1 0 0),y22.2)
def jO (a0 : aU) (y1 : Int × Int) (s1 : (List al) × Int × Int) : Option (((List al) × Int × Int) ⊕ ((List al) × Int)):=
sel (decide ((w64 (s1.2.1 + 1)) < (w64 (1 + y1.1)))) ((jN (aU.mk a0.b s1.2.2) (w64 (1 + y1.1))).bind fun y5 =>
(app 40 s1.1 [y5.1]).bind fun r1 =>
some (.inl (r1,w64 (s1.2.1 + 1),y5.2))) <|
some (.inr (s1.1,s1.2.2))
def fy (a0 : aU) : Option ((List al) × Int):=
(ar (aU.mk a0.b a0.p) 14).bind fun y1 =>
(bQ (jO a0 y1) ([],0,y1.2)).bind fun y2 =>
(ar (aU.mk a0.b y2.2) 3).bind fun y6 =>
sel (y6.1 == 0) ((ar (aU.mk a0.b y6.2) (w64 (1 + y1.1))).bind fun y7 =>
(app 40 y2.1 [(al.mk 4 0 0 0 y7.1)]).bind fun r2 =>
some (r2,y7.2)) <|
(app 40 y2.1 [(al.mk 10 0 0 0 0)]).bind fun r3 =>
some (r3,y6.2)
def ik (a0 : List az) (dW : List az → Option (Int)) (s1 : Int × Int) : Option ((Int × Int) ⊕ Int):=
sel (decide (s1.2 < (a0.length : Int))) ((nth a0 s1.2).bind fun x1 =>
(nth a0 s1.2).bind fun x2 =>
(dW x1.Body).bind fun y4 =>
(dW x2.Else).bind fun y5 =>
some (.inl (w64 ((w64 ((w64 (s1.1 + 1)) + y4)) + y5),w64 (s1.2 + 1)))) <|
some (.inr s1.1)
def dX (k : Nat) (dW : List az → Option (Int)) (a0 : List az) : Option (Int):=
(bQ (ik a0 dW) (0,0)).bind fun y1 =>
some y1
def mz : Nat → (List az → Option (Int))
 | 0=>((fun _=>none))
 | k + 1=>(dX k (mz k))
def dH (k : Nat) : List az → Option (Int):=(mz k)
def aB (a0 : Int) (a1 : Int) (a2 : Int) : Option (Bool):=
some ((decide (a0 ≥ a1)) && (decide (a0 ≤ a2)))
def eR (a0 : az) (a1 : Bool) : Option (Bool):=
sel a1 ((aB a0.Var 0 3).bind fun y1 =>
some y1) <|
some (a0.Var == 0)
def eS (a0 : az) (a1 : Bool) : Option (Bool):=
sel a1 ((aB a0.Box 0 2).bind fun y1 =>
some y1) <|
some (a0.Box == 0)
def eT (a0 : Int) : Option (Bool):=
(aB a0 1 12).bind fun y1 =>
some y1
def ln (k : Nat) (lq : Expr → Int → Option (Bool)) (a0 : Expr) (a1 : Int) : Option (Bool):=
sel (decide (a1 < 1)) (some false) <|
sel (a0.Op == 0) ((aB a0.N 0 99999).bind fun y1 =>
some (y1 && ((a0.Args.length : Int) == 0))) <|
sel (a0.Op == 13) ((aB a0.N 0 3).bind fun y2 =>
some (y2 && ((a0.Args.length : Int) == 0))) <|
(eT a0.Op).bind fun y3 =>
(sel ((y3 && (a0.N == 0)) && ((a0.Args.length : Int) == 2)) ((nth a0.Args 0).bind fun x1=>(lq (Expr.mk x1.Op x1.N x1.Args) (w64 (a1 - 1))).bind fun y4=>some y4) (some false) : Option (Bool)).bind fun b1 =>
(sel b1 ((nth a0.Args 1).bind fun x2=>(lq (Expr.mk x2.Op x2.N x2.Args) (w64 (a1 - 1))).bind fun y5=>some y5) (some false) : Option (Bool)).bind fun b2 =>
some b2
def o0 : Nat → (Expr → Int → Option (Bool))
 | 0=>((fun _ _=>none))
 | k + 1=>(ln k (o0 k))
def mS (k : Nat) : Expr → Int → Option (Bool):=(o0 k)
def dw (k : Nat) (a0 : Expr) : Option (Bool):=
(mS k (Expr.mk a0.Op a0.N a0.Args) 5).bind fun y1 =>
some y1
def gq (a0 : Expr) : Option (Bool):=
some (((a0.Op == 0) && (a0.N == 0)) && ((a0.Args.length : Int) == 0))
def fz (k : Nat) (a0 : az) : Option (Bool):=
sel ((decide ((a0.Body.length : Int) > 0)) || (decide ((a0.Else.length : Int) > 0))) (some false) <|
sel (a0.Kind == 1) ((eR (az.mk a0.Kind a0.Var a0.Box (Expr.mk a0.Expr.Op a0.Expr.N a0.Expr.Args) a0.Body a0.Else) true).bind fun y1 =>
(sel y1 ((eS (az.mk a0.Kind a0.Var a0.Box (Expr.mk a0.Expr.Op a0.Expr.N a0.Expr.Args) a0.Body a0.Else) false).bind fun y2=>some y2) (some false) : Option (Bool)).bind fun b1 =>
(sel b1 ((dw k (Expr.mk a0.Expr.Op a0.Expr.N a0.Expr.Args)).bind fun y3=>some y3) (some false) : Option (Bool)).bind fun b2 =>
some b2) <|
sel (a0.Kind == 4) ((eR (az.mk a0.Kind a0.Var a0.Box (Expr.mk a0.Expr.Op a0.Expr.N a0.Expr.Args) a0.Body a0.Else) false).bind fun y4 =>
(sel y4 ((eS (az.mk a0.Kind a0.Var a0.Box (Expr.mk a0.Expr.Op a0.Expr.N a0.Expr.Args) a0.Body a0.Else) true).bind fun y5=>some y5) (some false) : Option (Bool)).bind fun b3 =>
(sel b3 ((dw k (Expr.mk a0.Expr.Op a0.Expr.N a0.Expr.Args)).bind fun y6=>some y6) (some false) : Option (Bool)).bind fun b4 =>
some b4) <|
sel (a0.Kind == 5) ((eR (az.mk a0.Kind a0.Var a0.Box (Expr.mk a0.Expr.Op a0.Expr.N a0.Expr.Args) a0.Body a0.Else) true).bind fun y7 =>
(sel y7 ((eS (az.mk a0.Kind a0.Var a0.Box (Expr.mk a0.Expr.Op a0.Expr.N a0.Expr.Args) a0.Body a0.Else) true).bind fun y8=>some y8) (some false) : Option (Bool)).bind fun b5 =>
(sel b5 ((gq (Expr.mk a0.Expr.Op a0.Expr.N a0.Expr.Args)).bind fun y9=>some y9) (some false) : Option (Bool)).bind fun b6 =>
some b6) <|
sel (a0.Kind == 6) ((eR (az.mk a0.Kind a0.Var a0.Box (Expr.mk a0.Expr.Op a0.Expr.N a0.Expr.Args) a0.Body a0.Else) false).bind fun y10 =>
(sel y10 ((eS (az.mk a0.Kind a0.Var a0.Box (Expr.mk a0.Expr.Op a0.Expr.N a0.Expr.Args) a0.Body a0.Else) false).bind fun y11=>some y11) (some false) : Option (Bool)).bind fun b7 =>
(sel b7 ((gq (Expr.mk a0.Expr.Op a0.Expr.N a0.Expr.Args)).bind fun y12=>some y12) (some false) : Option (Bool)).bind fun b8 =>
some b8) <|
sel (a0.Kind == 7) ((eR (az.mk a0.Kind a0.Var a0.Box (Expr.mk a0.Expr.Op a0.Expr.N a0.Expr.Args) a0.Body a0.Else) false).bind fun y13 =>
(sel y13 ((eS (az.mk a0.Kind a0.Var a0.Box (Expr.mk a0.Expr.Op a0.Expr.N a0.Expr.Args) a0.Body a0.Else) false).bind fun y14=>some y14) (some false) : Option (Bool)).bind fun b9 =>
(sel b9 ((dw k (Expr.mk a0.Expr.Op a0.Expr.N a0.Expr.Args)).bind fun y15=>some y15) (some false) : Option (Bool)).bind fun b10 =>
some b10) <|
some false
def jP (a0 : List az) (a1 : Int) (dI : az → Int → Option (Bool)) (s1 : Int) : Option (Int ⊕ (Bool ⊕ Unit)):=
sel (decide (s1 < (a0.length : Int))) ((nth a0 s1).bind fun x1 =>
(dI (az.mk x1.Kind x1.Var x1.Box (Expr.mk x1.Expr.Op x1.Expr.N x1.Expr.Args) x1.Body x1.Else) a1).bind fun y4 =>
sel (!y4) (some (.inr (.inl false))) <|
some (.inl (w64 (s1 + 1)))) <|
some (.inr (.inr ()))
def fA (k : Nat) (cP : List az → Int → Option (Bool)) (dI : az → Int → Option (Bool)) (a0 : List az) (a1 : Int) : Option (Bool):=
(bQ (jP a0 a1 dI) 0).bind fun y1 =>
fq y1 (fun o3=>some o3) (fun o4 =>
some true)
def jQ (k : Nat) (cP : List az → Int → Option (Bool)) (dI : az → Int → Option (Bool)) (a0 : az) (a1 : Int) : Option (Bool):=
sel ((a0.Kind != 2) && (a0.Kind != 3)) ((fz k (az.mk a0.Kind a0.Var a0.Box (Expr.mk a0.Expr.Op a0.Expr.N a0.Expr.Args) a0.Body a0.Else)).bind fun y1 =>
some y1) <|
sel ((decide (a1 < 1)) || ((a0.Kind == 3) && (decide ((a0.Else.length : Int) > 0)))) (some false) <|
(eR (az.mk a0.Kind a0.Var a0.Box (Expr.mk a0.Expr.Op a0.Expr.N a0.Expr.Args) a0.Body a0.Else) false).bind fun y2 =>
(sel y2 ((eS (az.mk a0.Kind a0.Var a0.Box (Expr.mk a0.Expr.Op a0.Expr.N a0.Expr.Args) a0.Body a0.Else) false).bind fun y3=>some y3) (some false) : Option (Bool)).bind fun b1 =>
(sel b1 ((dw k (Expr.mk a0.Expr.Op a0.Expr.N a0.Expr.Args)).bind fun y4=>some y4) (some false) : Option (Bool)).bind fun b2 =>
(sel b2 ((cP a0.Body (w64 (a1 - 1))).bind fun y5=>some y5) (some false) : Option (Bool)).bind fun b3 =>
(sel b3 ((cP a0.Else (w64 (a1 - 1))).bind fun y6=>some y6) (some false) : Option (Bool)).bind fun b4 =>
some b4
def dG : Nat → (List az → Int → Option (Bool)) × (az → Int → Option (Bool))
 | 0=>((fun _ _=>none),(fun _ _=>none))
 | k + 1=>(fA k (dG k).1 (dG k).2,jQ k (dG k).1 (dG k).2)
def db (k : Nat) : List az → Int → Option (Bool):=(dG k).1
def po (k : Nat) : az → Int → Option (Bool):=(dG k).2
def gg (k : Nat) (a0 : List az) : Option (Bool):=
(db k a0 3).bind fun y1 =>
(sel y1 ((dH k a0).bind fun y2=>some (decide (y2 ≤ 16))) (some false) : Option (Bool)).bind fun b1 =>
some b1
def gH (k : Nat) (gI : Expr → Int → Option ((List al))) (a0 : Expr) (a1 : Int) : Option ((List al)):=
sel (a0.Op == 0) (some [(al.mk 1 a1 0 0 a0.N)]) <|
sel (a0.Op == 13) (some [(al.mk 2 a1 a0.N 0 0)]) <|
(nth a0.Args 0).bind fun x1 =>
(nth a0.Args 1).bind fun x2 =>
(gI (Expr.mk x1.Op x1.N x1.Args) a1).bind fun y1 =>
(gI (Expr.mk x2.Op x2.N x2.Args) (w64 (a1 + 1))).bind fun y2 =>
(app 40 y1 y2).bind fun r1 =>
(app 40 r1 [(al.mk 3 a1 a1 (w64 (a1 + 1)) a0.Op)]).bind fun r2 =>
some r2
def mT : Nat → (Expr → Int → Option ((List al)))
 | 0=>((fun _ _=>none))
 | k + 1=>(gH k (mT k))
def dJ (k : Nat) : Expr → Int → Option ((List al)):=(mT k)
def lA (a0 : List az) (a1 : Int) (bz : az → Int → Option ((List al))) (s1 : (List al) × Int) : Option (((List al) × Int) ⊕ ((List al))):=
sel (decide (s1.2 < (a0.length : Int))) ((nth a0 s1.2).bind fun x1 =>
(bz (az.mk x1.Kind x1.Var x1.Box (Expr.mk x1.Expr.Op x1.Expr.N x1.Expr.Args) x1.Body x1.Else) (w64 (a1 + (s1.1.length : Int)))).bind fun y4 =>
(app 40 s1.1 y4).bind fun r1 =>
some (.inl (r1,w64 (s1.2 + 1)))) <|
some (.inr s1.1)
def gJ (k : Nat) (bA : List az → Int → Option ((List al))) (bz : az → Int → Option ((List al))) (cr : az → Int → Option ((List al))) (bF : az → Int → Option ((List al))) (a0 : List az) (a1 : Int) : Option ((List al)):=
(bQ (lA a0 a1 bz) ([],0)).bind fun y1 =>
some y1
def gK (k : Nat) (bA : List az → Int → Option ((List al))) (bz : az → Int → Option ((List al))) (cr : az → Int → Option ((List al))) (bF : az → Int → Option ((List al))) (a0 : az) (a1 : Int) : Option ((List al)):=
(dJ k (Expr.mk a0.Expr.Op a0.Expr.N a0.Expr.Args) 4).bind fun y1 =>
sel (a0.Kind == 2) ((cr (az.mk a0.Kind a0.Var a0.Box (Expr.mk a0.Expr.Op a0.Expr.N a0.Expr.Args) a0.Body a0.Else) a1).bind fun y2 =>
some y2) <|
sel (a0.Kind == 3) ((bF (az.mk a0.Kind a0.Var a0.Box (Expr.mk a0.Expr.Op a0.Expr.N a0.Expr.Args) a0.Body a0.Else) a1).bind fun y3 =>
some y3) <|
sel (a0.Kind == 1) ((app 40 y1 [(al.mk 2 a0.Var 4 0 0)]).bind fun r1 =>
some r1) <|
sel (a0.Kind == 4) ((app 40 y1 [(al.mk 6 0 4 0 a0.Box)]).bind fun r2 =>
some r2) <|
sel (a0.Kind == 7) ((app 40 y1 [(al.mk 9 0 4 0 0)]).bind fun r3 =>
some r3) <|
sel (a0.Kind == 5) (some [(al.mk 7 a0.Var 0 0 a0.Box)]) <|
some [(al.mk 8 0 0 0 0)]
def jR (k : Nat) (bA : List az → Int → Option ((List al))) (bz : az → Int → Option ((List al))) (cr : az → Int → Option ((List al))) (bF : az → Int → Option ((List al))) (a0 : az) (a1 : Int) : Option ((List al)):=
(dJ k (Expr.mk a0.Expr.Op a0.Expr.N a0.Expr.Args) 4).bind fun y1 =>
(bA a0.Body (w64 ((w64 (a1 + (y1.length : Int))) + 1))).bind fun y2 =>
sel ((a0.Else.length : Int) == 0) ((app 40 y1 [(al.mk 5 0 4 0 (w64 ((w64 ((w64 (a1 + (y1.length : Int))) + 1)) + (y2.length : Int))))]).bind fun r1 =>
(app 40 r1 y2).bind fun r2 =>
some r2) <|
(bA a0.Else (w64 ((w64 ((w64 ((w64 (a1 + (y1.length : Int))) + 1)) + (y2.length : Int))) + 1))).bind fun y3 =>
(app 40 y1 [(al.mk 5 0 4 0 (w64 ((w64 ((w64 ((w64 (a1 + (y1.length : Int))) + 1)) + (y2.length : Int))) + 1)))]).bind fun r3 =>
(app 40 r3 y2).bind fun r4 =>
(app 40 r4 [(al.mk 4 0 0 0 (w64 ((w64 ((w64 ((w64 ((w64 (a1 + (y1.length : Int))) + 1)) + (y2.length : Int))) + 1)) + (y3.length : Int))))]).bind fun r5 =>
(app 40 r5 y3).bind fun r6 =>
some r6
def gh (k : Nat) (bA : List az → Int → Option ((List al))) (bz : az → Int → Option ((List al))) (cr : az → Int → Option ((List al))) (bF : az → Int → Option ((List al))) (a0 : az) (a1 : Int) : Option ((List al)):=
(dJ k (Expr.mk a0.Expr.Op a0.Expr.N a0.Expr.Args) 4).bind fun y1 =>
(bA a0.Body (w64 ((w64 (a1 + (y1.length : Int))) + 1))).bind fun y2 =>
(app 40 y1 [(al.mk 5 0 4 0 (w64 ((w64 ((w64 ((w64 (a1 + (y1.length : Int))) + 1)) + (y2.length : Int))) + 1)))]).bind fun r1 =>
(app 40 r1 y2).bind fun r2 =>
(app 40 r2 [(al.mk 4 0 0 0 a1)]).bind fun r3 =>
some r3
def a8 : Nat → (List az → Int → Option ((List al))) × (az → Int → Option ((List al))) × (az → Int → Option ((List al))) × (az → Int → Option ((List al)))
 | 0=>((fun _ _=>none),(fun _ _=>none),(fun _ _=>none),(fun _ _=>none))
 | k + 1=>(gJ k (a8 k).1 (a8 k).2.1 (a8 k).2.2.1 (a8 k).2.2.2,gK k (a8 k).1 (a8 k).2.1 (a8 k).2.2.1 (a8 k).2.2.2,jR k (a8 k).1 (a8 k).2.1 (a8 k).2.2.1 (a8 k).2.2.2,gh k (a8 k).1 (a8 k).2.1 (a8 k).2.2.1 (a8 k).2.2.2)
def eU (k : Nat) : List az → Int → Option ((List al)):=(a8 k).1
def il (k : Nat) : az → Int → Option ((List al)):=(a8 k).2.1
def ma (k : Nat) : az → Int → Option ((List al)):=(a8 k).2.2.1
def iX (k : Nat) : az → Int → Option ((List al)):=(a8 k).2.2.2
def fB (k : Nat) (a0 : List az) : Option ((List al) × Bool):=
(gg k a0).bind fun y1 =>
sel (!y1) (some ([],false)) <|
(eU k a0 0).bind fun y2 =>
(app 40 y2 [(al.mk 10 0 0 0 0)]).bind fun r1 =>
some (r1,true)
def jH (a0 : Int) (a1 : Expr) (a2 : Expr) : Option (Expr):=
some (Expr.mk a0 0 [(Expr.mk a1.Op a1.N a1.Args),(Expr.mk a2.Op a2.N a2.Args)])
def dS (a0 : Int) (a1 : Int) : Option (Expr):=
some (Expr.mk a0 a1 [])
def io (a0 : aU) : Option (Expr × Int):=
(ar (aU.mk a0.b a0.p) 4).bind fun y1 =>
sel (y1.1 == 0) ((ar (aU.mk a0.b y1.2) 4).bind fun y2 =>
(dS 0 y2.1).bind fun y3 =>
some ((Expr.mk y3.Op y3.N y3.Args),y2.2)) <|
sel (y1.1 == 1) ((ar (aU.mk a0.b y1.2) 8).bind fun y4 =>
(nth [5,31,32,100,2047,2048,65536,99999] y4.1).bind fun x1 =>
(dS 0 x1).bind fun y5 =>
some ((Expr.mk y5.Op y5.N y5.Args),y4.2)) <|
(ar (aU.mk a0.b y1.2) 4).bind fun y6 =>
(dS 13 y6.1).bind fun y7 =>
some ((Expr.mk y7.Op y7.N y7.Args),y6.2)
def gL (k : Nat) (gM : aU → Int → Option (Expr × Int)) (a0 : aU) (a1 : Int) : Option (Expr × Int):=
(sel (decide (a1 < 2)) (some (true,a0.p)) ((ar (aU.mk a0.b a0.p) 3).bind fun y1=>some (y1.1 == 0,y1.2)) : Option (Bool × Int)).bind fun b1 =>
sel b1.1 ((io (aU.mk a0.b b1.2)).bind fun y2 =>
some ((Expr.mk y2.1.Op y2.1.N y2.1.Args),y2.2)) <|
(kC (aU.mk a0.b b1.2)).bind fun y3 =>
(gM (aU.mk a0.b y3.2) (w64 (a1 - 1))).bind fun y4 =>
(gM (aU.mk a0.b y4.2) (w64 (a1 - 1))).bind fun y5 =>
(jH y3.1 (Expr.mk y4.1.Op y4.1.N y4.1.Args) (Expr.mk y5.1.Op y5.1.N y5.1.Args)).bind fun y6 =>
some ((Expr.mk y6.Op y6.N y6.Args),y5.2)
def mU : Nat → (aU → Int → Option (Expr × Int))
 | 0=>((fun _ _=>none))
 | k + 1=>(gL k (mU k))
def ed (k : Nat) : aU → Int → Option (Expr × Int):=(mU k)
def jI (k : Nat) (a0 : aU) : Option (az × Int):=
(ar (aU.mk a0.b a0.p) 3).bind fun y1 =>
(ar (aU.mk a0.b y1.2) 3).bind fun y2 =>
(ed k (aU.mk a0.b y2.2) (w64 (1 + y2.1))).bind fun y3 =>
some ((az.mk 1 y1.1 0 (Expr.mk y3.1.Op y3.1.N y3.1.Args) [] []),y3.2)
def jS (k : Nat) (a0 : aU) (a1 : Int) : Option (az × Int):=
sel (decide (a1 < 1)) ((jI k (aU.mk a0.b a0.p)).bind fun y1 =>
some ((az.mk y1.1.Kind y1.1.Var y1.1.Box (Expr.mk y1.1.Expr.Op y1.1.Expr.N y1.1.Expr.Args) y1.1.Body y1.1.Else),y1.2)) <|
(ar (aU.mk a0.b a0.p) a1).bind fun y2 =>
(ar (aU.mk a0.b y2.2) 2).bind fun y3 =>
sel (y3.1 == 0) ((ar (aU.mk a0.b y3.2) 3).bind fun y4 =>
(ed k (aU.mk a0.b y4.2) (w64 (1 + y4.1))).bind fun y5 =>
some ((az.mk 4 0 y2.1 (Expr.mk y5.1.Op y5.1.N y5.1.Args) [] []),y5.2)) <|
(ar (aU.mk a0.b y3.2) 3).bind fun y6 =>
some ((az.mk 5 y6.1 y2.1 (Expr.mk 0 0 []) [] []),y6.2)
def kD (a0 : aU) (a1 : Int) (a2 : Int) (a3 : Int) (a4 : Bool) (bB : aU → Int → Int → Bool → Option ((List az) × Int)) (s1 : (List az) × Int × Int) : Option (((List az) × Int × Int) ⊕ ((List az) × Int)):=
sel (decide (s1.2.1 < a3)) ((bB (aU.mk a0.b s1.2.2) a1 a2 a4).bind fun y4 =>
(app 112 s1.1 y4.1).bind fun r1 =>
some (.inl (r1,w64 (s1.2.1 + 1),y4.2))) <|
some (.inr (s1.1,s1.2.2))
def gi (k : Nat) (bk : aU → Int → Int → Int → Bool → Option ((List az) × Int)) (bB : aU → Int → Int → Bool → Option ((List az) × Int)) (cw : aU → Int → Int → Bool → Option (az × Int)) (bR : aU → Int → Int → Option ((List az) × Int)) (a0 : aU) (a1 : Int) (a2 : Int) (a3 : Int) (a4 : Bool) : Option ((List az) × Int):=
(bQ (kD a0 a1 a2 a3 a4 bB) ([],0,a0.p)).bind fun y1 =>
some (y1.1,y1.2)
def gN (k : Nat) (bk : aU → Int → Int → Int → Bool → Option ((List az) × Int)) (bB : aU → Int → Int → Bool → Option ((List az) × Int)) (cw : aU → Int → Int → Bool → Option (az × Int)) (bR : aU → Int → Int → Option ((List az) × Int)) (a0 : aU) (a1 : Int) (a2 : Int) (a3 : Bool) : Option ((List az) × Int):=
((ar (aU.mk a0.b a0.p) 10).bind fun y2 =>
(sel (y2.1 == 0) (some (y2.1 == 0)) <|
some (y2.1 == 1) : Option (Bool)).bind fun y3 =>
sel y3 ((jI k (aU.mk a0.b y2.2)).bind fun y4 =>
some (.inr ([(az.mk y4.1.Kind y4.1.Var y4.1.Box (Expr.mk y4.1.Expr.Op y4.1.Expr.N y4.1.Expr.Args) y4.1.Body y4.1.Else)],y4.2))) <|
sel (y2.1 == 2) (sel (decide (a2 > 0)) ((cw (aU.mk a0.b y2.2) a1 a2 a3).bind fun y5 =>
some (.inr ([(az.mk y5.1.Kind y5.1.Var y5.1.Box (Expr.mk y5.1.Expr.Op y5.1.Expr.N y5.1.Expr.Args) y5.1.Body y5.1.Else)],y5.2))) <|
some (.inl y2.2)) <|
sel (y2.1 == 3) (sel ((decide (a2 > 0)) && a3) ((bR (aU.mk a0.b y2.2) a1 a2).bind fun y6 =>
some (.inr (y6.1,y6.2))) <|
some (.inl y2.2)) <|
(sel (y2.1 == 4) (some (y2.1 == 4)) <|
sel (y2.1 == 5) (some (y2.1 == 5)) <|
some (y2.1 == 6) : Option (Bool)).bind fun y7 =>
sel y7 ((jS k (aU.mk a0.b y2.2) a1).bind fun y8 =>
some (.inr ([(az.mk y8.1.Kind y8.1.Var y8.1.Box (Expr.mk y8.1.Expr.Op y8.1.Expr.N y8.1.Expr.Args) y8.1.Body y8.1.Else)],y8.2))) <|
sel (y2.1 == 7) (some (.inr ([(az.mk 6 0 0 (Expr.mk 0 0 []) [] [])],y2.2))) <|
some (.inl y2.2) : Option (Int ⊕ ((List az) × Int))).bind fun y1 =>
fq y1 (fun o3=>(ar (aU.mk a0.b o3) 3).bind fun y9 =>
(ed k (aU.mk a0.b y9.2) (w64 (1 + y9.1))).bind fun y10 =>
some ([(az.mk 7 0 0 (Expr.mk y10.1.Op y10.1.N y10.1.Args) [] [])],y10.2)) (fun o4 =>
some o4)
def jT (k : Nat) (bk : aU → Int → Int → Int → Bool → Option ((List az) × Int)) (bB : aU → Int → Int → Bool → Option ((List az) × Int)) (cw : aU → Int → Int → Bool → Option (az × Int)) (bR : aU → Int → Int → Option ((List az) × Int)) (a0 : aU) (a1 : Int) (a2 : Int) (a3 : Bool) : Option (az × Int):=
(ar (aU.mk a0.b a0.p) 2).bind fun y1 =>
(ed k (aU.mk a0.b y1.2) (w64 (1 + y1.1))).bind fun y2 =>
(ar (aU.mk a0.b y2.2) 3).bind fun y3 =>
(bk (aU.mk a0.b y3.2) a1 (w64 (a2 - 1)) y3.1 a3).bind fun y4 =>
(ar (aU.mk a0.b y4.2) 3).bind fun y5 =>
(bk (aU.mk a0.b y5.2) a1 (w64 (a2 - 1)) y5.1 a3).bind fun y6 =>
some ((az.mk 2 0 0 (Expr.mk y2.1.Op y2.1.N y2.1.Args) y4.1 y6.1),y6.2)
def gO (k : Nat) (bk : aU → Int → Int → Int → Bool → Option ((List az) × Int)) (bB : aU → Int → Int → Bool → Option ((List az) × Int)) (cw : aU → Int → Int → Bool → Option (az × Int)) (bR : aU → Int → Int → Option ((List az) × Int)) (a0 : aU) (a1 : Int) (a2 : Int) : Option ((List az) × Int):=
(ar (aU.mk a0.b a0.p) 3).bind fun y1 =>
(bk (aU.mk a0.b y1.2) a1 (w64 (a2 - 1)) y1.1 false).bind fun y2 =>
(dS 13 3).bind fun y3 =>
(dS 0 1).bind fun y4 =>
(jH 8 (Expr.mk y3.Op y3.N y3.Args) (Expr.mk y4.Op y4.N y4.Args)).bind fun y5 =>
(dS 13 3).bind fun y6 =>
(ar (aU.mk a0.b y2.2) 3).bind fun y7 =>
(dS 0 (w64 (1 + y7.1))).bind fun y8 =>
(jH 5 (Expr.mk y6.Op y6.N y6.Args) (Expr.mk y8.Op y8.N y8.Args)).bind fun y9 =>
(app 112 y2.1 [(az.mk 1 3 0 (Expr.mk y5.Op y5.N y5.Args) [] [])]).bind fun r1 =>
(dS 0 0).bind fun y10 =>
some ([(az.mk 1 3 0 (Expr.mk y10.Op y10.N y10.Args) [] []),(az.mk 3 0 0 (Expr.mk y9.Op y9.N y9.Args) r1 [])],y7.2)
def a5 : Nat → (aU → Int → Int → Int → Bool → Option ((List az) × Int)) × (aU → Int → Int → Bool → Option ((List az) × Int)) × (aU → Int → Int → Bool → Option (az × Int)) × (aU → Int → Int → Option ((List az) × Int))
 | 0=>((fun _ _ _ _ _=>none),(fun _ _ _ _=>none),(fun _ _ _ _=>none),(fun _ _ _=>none))
 | k + 1=>(gi k (a5 k).1 (a5 k).2.1 (a5 k).2.2.1 (a5 k).2.2.2,gN k (a5 k).1 (a5 k).2.1 (a5 k).2.2.1 (a5 k).2.2.2,jT k (a5 k).1 (a5 k).2.1 (a5 k).2.2.1 (a5 k).2.2.2,gO k (a5 k).1 (a5 k).2.1 (a5 k).2.2.1 (a5 k).2.2.2)
def dK (k : Nat) : aU → Int → Int → Int → Bool → Option ((List az) × Int):=(a5 k).1
def ip (k : Nat) : aU → Int → Int → Bool → Option ((List az) × Int):=(a5 k).2.1
def mb (k : Nat) : aU → Int → Int → Bool → Option (az × Int):=(a5 k).2.2.1
def jU (k : Nat) : aU → Int → Int → Option ((List az) × Int):=(a5 k).2.2.2
def kE (k : Nat) (s1 : (List az)) : Option (((List az)) ⊕ ((List az))):=
(dH k s1).bind fun y6 =>
sel (decide (y6 > 16)) ((cut s1 0 (w64 ((s1.length : Int) - 1))).bind fun r1 =>
some (.inl r1)) <|
some (.inr s1)
def iY (k : Nat) (a0 : aU) (a1 : Int) : Option ((List az) × Int):=
(ar (aU.mk a0.b a0.p) 6).bind fun y1 =>
(dK k (aU.mk a0.b y1.2) a1 3 (w64 (1 + y1.1)) true).bind fun y2 =>
(bQ (kE k) y2.1).bind fun y3 =>
some (y3,y2.2)
def cj (a0 : Int) : Option (Bool):=
(aB a0 (-2147483648) 2147483647).bind fun y1 =>
some y1
def gP (a0 : Int) (a1 : Bool) : Option (Bool):=
sel a1 ((aB a0 0 11).bind fun y1 =>
some y1) <|
some (a0 == 0)
def cQ (a0 : al) (a1 : Bool) (a2 : Bool) (a3 : Bool) : Option (Bool):=
(gP a0.Dst a1).bind fun y1 =>
(sel y1 ((gP a0.A a2).bind fun y2=>some y2) (some false) : Option (Bool)).bind fun b1 =>
(sel b1 ((gP a0.B a3).bind fun y3=>some y3) (some false) : Option (Bool)).bind fun b2 =>
some b2
def ew (a0 : al) (a1 : Int) : Option (Bool):=
sel (a0.Op == 1) ((cQ a0 true false false).bind fun y1 =>
(sel y1 ((cj a0.N).bind fun y2=>some y2) (some false) : Option (Bool)).bind fun b1 =>
some b1) <|
sel (a0.Op == 2) ((cQ a0 true true false).bind fun y3 =>
some (y3 && (a0.N == 0))) <|
sel (a0.Op == 3) ((cQ a0 true true true).bind fun y4 =>
(sel y4 ((eT a0.N).bind fun y5=>some y5) (some false) : Option (Bool)).bind fun b2 =>
some b2) <|
sel (a0.Op == 4) ((cQ a0 false false false).bind fun y6 =>
some ((y6 && (decide (a0.N ≥ 0))) && (decide (a0.N < a1)))) <|
sel (a0.Op == 5) ((cQ a0 false true false).bind fun y7 =>
some ((y7 && (decide (a0.N ≥ 0))) && (decide (a0.N < a1)))) <|
sel (a0.Op == 6) ((cQ a0 false true false).bind fun y8 =>
(sel y8 ((aB a0.N 0 2).bind fun y9=>some y9) (some false) : Option (Bool)).bind fun b3 =>
some b3) <|
sel (a0.Op == 7) ((cQ a0 true false false).bind fun y10 =>
(sel y10 ((aB a0.N 0 2).bind fun y11=>some y11) (some false) : Option (Bool)).bind fun b4 =>
some b4) <|
sel (a0.Op == 9) ((cQ a0 false true false).bind fun y12 =>
some (y12 && (a0.N == 0))) <|
(sel (a0.Op == 8) (some (a0.Op == 8)) <|
some (a0.Op == 10) : Option (Bool)).bind fun y13 =>
sel y13 ((cQ a0 false false false).bind fun y14 =>
some (y14 && (a0.N == 0))) <|
some false
def jV (a0 : List al) (s1 : Int) : Option (Int ⊕ (Bool ⊕ Unit)):=
sel (decide (s1 < (a0.length : Int))) ((nth a0 s1).bind fun x1 =>
(ew x1 (a0.length : Int)).bind fun y5 =>
sel (!y5) (some (.inr (.inl false))) <|
some (.inl (w64 (s1 + 1)))) <|
some (.inr (.inr ()))
def ca (a0 : List al) : Option (Bool):=
(aB (a0.length : Int) 1 600).bind fun y1 =>
sel (!y1) (some false) <|
(bQ (jV a0) 0).bind fun y2 =>
fq y2 (fun o3=>some o3) (fun o4 =>
(nth a0 (w64 ((a0.length : Int) - 1))).bind fun x2 =>
(sel (x2.Op == 10) (some true) ((nth a0 (w64 ((a0.length : Int) - 1))).bind fun x3=>some (x3.Op == 4)) : Option (Bool)).bind fun b1 =>
some b1)
def dL (a0 : List al) (a1 : Int) : Option ((List Int)):=
(nth a0 a1).bind fun x1 =>
sel (x1.Op == 10) (some []) <|
sel (x1.Op == 4) (some [x1.N]) <|
sel ((x1.Op == 5) && (decide (x1.N < (w64 (a1 + 1))))) (some [x1.N,w64 (a1 + 1)]) <|
sel ((x1.Op == 5) && (decide (x1.N > (w64 (a1 + 1))))) (some [w64 (a1 + 1),x1.N]) <|
some [w64 (a1 + 1)]
def iZ (a0 : List al) (a1 : List bi) (a2 : Int) : Option ((List Int)):=
(nth a0 a2).bind fun x1 =>
(sel (x1.Op != 5) (some true) ((nth a1 x1.A).bind fun x2=>some (x2.Kind != 1)) : Option (Bool)).bind fun b1 =>
sel b1 ((dL a0 a2).bind fun y1 =>
some y1) <|
(nth a1 x1.A).bind fun x3 =>
sel (x3.N == 0) (some [x1.N]) <|
some [w64 (a2 + 1)]
def fS (a0 : Bool) : Option (Int):=
sel a0 (some 1) <|
some 0
def eV (a0 : Int) (a1 : Int) (a2 : Bool) : Option (Int):=
sel a2 ((shO .shr .i64 a0 (aN .and .i64 a1 31)).bind fun d1 =>
some d1) <|
(shO .shl .i64 a0 (aN .and .i64 a1 31)).bind fun d2 =>
(bW d2).bind fun y1 =>
some y1
def gr (a0 : Int) (a1 : Int) : Option (Int):=
sel (a1 == 0) (some (-1)) <|
(pR .i64 a0 a1).bind fun d1 =>
(bW d1).bind fun y1 =>
some y1
def gu (a0 : Int) (a1 : Int) : Option (Int):=
sel (a1 == 0) (some a0) <|
(mv a0 a1).bind fun d1 =>
some d1
def gQ (a0 : Int) (a1 : Int) (a2 : Int) : Option (Int × Bool):=
(eT a0).bind fun y1 =>
(sel (!y1) (some true) ((cj a1).bind fun y2=>some (!y2)) : Option (Bool)).bind fun b1 =>
(sel b1 (some true) ((cj a2).bind fun y3=>some (!y3)) : Option (Bool)).bind fun b2 =>
sel b2 (some (0,false)) <|
sel (a0 == 1) (some (aN .or .i64 a1 a2,true)) <|
sel (a0 == 2) (some (aN .xor .i64 a1 a2,true)) <|
sel (a0 == 3) (some (aN .and .i64 a1 a2,true)) <|
sel (a0 == 4) ((fS (a1 == a2)).bind fun y4 =>
some (y4,true)) <|
sel (a0 == 5) ((fS (decide (a1 < a2))).bind fun y5 =>
some (y5,true)) <|
sel (a0 == 6) ((eV a1 a2 false).bind fun y6 =>
some (y6,true)) <|
sel (a0 == 7) ((eV a1 a2 true).bind fun y7 =>
some (y7,true)) <|
sel (a0 == 8) ((bW (w64 (a1 + a2))).bind fun y8 =>
some (y8,true)) <|
sel (a0 == 9) ((bW (w64 (a1 - a2))).bind fun y9 =>
some (y9,true)) <|
sel (a0 == 10) ((bW (w64 (a1 * a2))).bind fun y10 =>
some (y10,true)) <|
sel (a0 == 11) ((gr a1 a2).bind fun y11 =>
some (y11,true)) <|
(gu a1 a2).bind fun y12 =>
some (y12,true)
def fC (a0 : al) (a1 : bi) (a2 : bi) : Option (bi):=
sel ((a1.Kind != 1) || (a2.Kind != 1)) (some (bi.mk 2 0)) <|
(gQ a0.N a1.N a2.N).bind fun y1 =>
some (bi.mk 1 y1.1)
def i3 (a0 : al) (a1 : List bi) : Option ((List bi)):=
(app 16 [] a1).bind fun r1 =>
sel (a0.Op == 1) ((nth r1 a0.Dst).bind fun x1 =>
(upd r1 a0.Dst (bi.mk 1 a0.N)).bind fun r2 =>
some r2) <|
sel (a0.Op == 2) ((nth a1 a0.A).bind fun x2 =>
(nth r1 a0.Dst).bind fun x3 =>
(upd r1 a0.Dst x2).bind fun r3 =>
some r3) <|
sel (a0.Op == 7) ((nth r1 a0.Dst).bind fun x4 =>
(upd r1 a0.Dst (bi.mk 2 0)).bind fun r4 =>
some r4) <|
sel (a0.Op == 3) ((nth a1 a0.A).bind fun x5 =>
(nth a1 a0.B).bind fun x6 =>
(fC a0 x5 x6).bind fun y1 =>
(nth r1 a0.Dst).bind fun x7 =>
(upd r1 a0.Dst y1).bind fun r5 =>
some r5) <|
some r1
def jW (a0 : bi) (a1 : bi) : Option (bi):=
sel (a0.Kind == 0) (some a1) <|
sel ((a1.Kind == 0) || ((a0.Kind == a1.Kind) && ((a0.N == a1.N) && true))) (some a0) <|
some (bi.mk 2 0)
def kF (a1 : Int) (a2 : List bi) (s1 : Bool × Int × (List (List bi))) : Option ((Bool × Int × (List (List bi))) ⊕ (Bool × (List (List bi)))):=
sel (decide (s1.2.1 < 12)) (((nth s1.2.2 a1).bind fun x1 =>
(nth x1 s1.2.1).bind fun x4 =>
(nth a2 s1.2.1).bind fun x5 =>
(jW x4 x5).bind fun y6 =>
(nth s1.2.2 a1).bind fun x6 =>
(nth x6 s1.2.1).bind fun x8 =>
sel (!((y6.Kind == x8.Kind) && ((y6.N == x8.N) && true))) ((nth x6 s1.2.1).bind fun x9 =>
(upd x6 s1.2.1 y6).bind fun r1 =>
some (true,(s1.2.2.set (Int.toNat a1) r1))) <|
some (s1.1,s1.2.2) : Option (Bool × (List (List bi)))).bind fun y4 =>
some (.inl (y4.1,w64 (s1.2.1 + 1),y4.2))) <|
some (.inr (s1.1,s1.2.2))
def i4 (a0 : List (List bi)) (a1 : Int) (a2 : List bi) : Option (Bool × (List (List bi))):=
(bQ (kF a1 a2) (false,0,a0)).bind fun y1 =>
some (y1.1,y1.2)
def kG (y5 : (List Int)) (y6 : (List bi)) (s2 : Bool × Int × (List (List bi))) : Option ((Bool × Int × (List (List bi))) ⊕ (Bool × (List (List bi)))):=
sel (decide (s2.2.1 < (y5.length : Int))) (((nth y5 s2.2.1).bind fun x4 =>
(i4 s2.2.2 x4 y6).bind fun y11 =>
sel y11.1 (some (true,y11.2)) <|
some (s2.1,y11.2) : Option (Bool × (List (List bi)))).bind fun y10 =>
some (.inl (y10.1,w64 (s2.2.1 + 1),y10.2))) <|
some (.inr (s2.1,s2.2.2))
def kH (a0 : List al) (s1 : Bool × Int × (List (List bi))) : Option ((Bool × Int × (List (List bi))) ⊕ (Bool × (List (List bi)))):=
sel (decide (s1.2.1 < (a0.length : Int))) (((nth s1.2.2 s1.2.1).bind fun x1 =>
(nth x1 0).bind fun x2 =>
sel (x2.Kind == 0) (some (s1.1,s1.2.2)) <|
(iZ a0 x1 s1.2.1).bind fun y5 =>
(nth a0 s1.2.1).bind fun x3 =>
(i3 x3 x1).bind fun y6 =>
(bQ (kG y5 y6) (s1.1,0,s1.2.2)).bind fun y7 =>
some (y7.1,y7.2) : Option (Bool × (List (List bi)))).bind fun y4 =>
some (.inl (y4.1,w64 (s1.2.1 + 1),y4.2))) <|
some (.inr (s1.1,s1.2.2))
def i5 (a0 : List al) (a1 : List (List bi)) : Option (Bool × (List (List bi))):=
(bQ (kH a0) (false,0,a1)).bind fun y1 =>
some (y1.1,y1.2)
def lB (a0 : List al) (s1 : (List (List bi)) × Int) : Option (((List (List bi)) × Int) ⊕ ((List (List bi)))):=
sel (decide (s1.2 < (a0.length : Int))) ((mk 16 12 (bi.mk 0 0)).bind fun r1 =>
(app 24 s1.1 [r1]).bind fun r2 =>
some (.inl (r2,w64 (s1.2 + 1)))) <|
some (.inr s1.1)
def lC (s2 : Int × (List (List bi))) : Option ((Int × (List (List bi))) ⊕ ((List (List bi)))):=
sel (decide (s2.1 < 12)) ((nth s2.2 0).bind fun x1 =>
(nth x1 s2.1).bind fun x2 =>
(upd x1 s2.1 (bi.mk 1 0)).bind fun r3 =>
some (.inl (w64 (s2.1 + 1),(s2.2.set (Int.toNat 0) r3)))) <|
some (.inr s2.2)
def lD (a0 : List al) (s3 : (List (List bi))) : Option (((List (List bi))) ⊕ ((List (List bi)))):=
(i5 a0 s3).bind fun y11 =>
sel y11.1 (some (.inl y11.2)) <|
some (.inr y11.2)
def jX (a0 : List al) : Option ((List (List bi))):=
(ca a0).bind fun y1 =>
sel (!y1) (some []) <|
(bQ (lB a0) ([],0)).bind fun y2 =>
(bQ (lC) (0,y2)).bind fun y5 =>
(bQ (lD a0) y5).bind fun y8 =>
some y8
def fg (a0 : bi) (a1 : Int) : Option (Bool):=
some ((a0.Kind == 1) && (a0.N == a1))
def mc (a0 : List Int) (a1 : Int) (s1 : Int) : Option (Int ⊕ (Bool ⊕ Unit)):=
sel (decide (s1 < (a0.length : Int))) ((nth a0 s1).bind fun x1 =>
sel (x1 == a1) (some (.inr (.inl true))) <|
some (.inl (w64 (s1 + 1)))) <|
some (.inr (.inr ()))
def lr (a0 : List Int) (a1 : Int) : Option (Bool):=
(bQ (mc a0 a1) 0).bind fun y1 =>
fq y1 (fun o3=>some o3) (fun o4 =>
some false)
def fT (a0 : Int) (a1 : List Int) : Option (Bool):=
(lr a1 a0).bind fun y1 =>
some y1
def lu (a0 : al) (a1 : bi) (a2 : bi) : Option (al):=
(fC a0 a1 a2).bind fun y1 =>
sel (y1.Kind == 1) (some (al.mk 1 a0.Dst 0 0 y1.N)) <|
(fg a2 0).bind fun y2 =>
(sel y2 ((fT a0.N [1,2,6,7,8,9]).bind fun y3=>some y3) (some false) : Option (Bool)).bind fun b1 =>
sel b1 (some (al.mk 2 a0.Dst a0.A 0 0)) <|
(fg a2 1).bind fun y4 =>
(sel y4 ((fT a0.N [10,11]).bind fun y5=>some y5) (some false) : Option (Bool)).bind fun b2 =>
sel b2 (some (al.mk 2 a0.Dst a0.A 0 0)) <|
(fg a1 0).bind fun y6 =>
(sel y6 ((fT a0.N [1,2,8]).bind fun y7=>some y7) (some false) : Option (Bool)).bind fun b3 =>
sel b3 (some (al.mk 2 a0.Dst a0.B 0 0)) <|
(fg a1 1).bind fun y8 =>
sel (y8 && (a0.N == 10)) (some (al.mk 2 a0.Dst a0.B 0 0)) <|
(fg a1 0).bind fun y9 =>
(sel y9 (some true) ((fg a2 0).bind fun y10=>some y10) : Option (Bool)).bind fun b4 =>
(sel b4 ((fT a0.N [3,10]).bind fun y11=>some y11) (some false) : Option (Bool)).bind fun b5 =>
sel b5 (some (al.mk 1 a0.Dst 0 0 0)) <|
some a0
def jY (a0 : al) (a1 : List bi) (a2 : Int) : Option (al):=
(nth a1 0).bind fun x1 =>
sel (x1.Kind == 0) (some a0) <|
sel (a0.Op == 2) ((nth a1 a0.A).bind fun x2 =>
sel (x2.Kind == 1) ((nth a1 a0.A).bind fun x3 =>
some (al.mk 1 a0.Dst 0 0 x3.N)) <|
some a0) <|
sel (a0.Op == 3) ((nth a1 a0.A).bind fun x4 =>
(nth a1 a0.B).bind fun x5 =>
(lu a0 x4 x5).bind fun y1 =>
some y1) <|
sel (a0.Op == 5) ((nth a1 a0.A).bind fun x6 =>
(fg x6 0).bind fun y2 =>
sel y2 (some (al.mk 4 0 0 0 a0.N)) <|
(nth a1 a0.A).bind fun x7 =>
sel (x7.Kind == 1) (some (al.mk 4 0 0 0 (w64 (a2 + 1)))) <|
some a0) <|
some a0
def iq (a0 : List al) (y2 : (List (List bi))) (s1 : (List al) × Int) : Option (((List al) × Int) ⊕ ((List al))):=
sel (decide (s1.2 < (a0.length : Int))) ((nth y2 s1.2).bind fun x1 =>
(nth a0 s1.2).bind fun x3 =>
(jY x3 x1 s1.2).bind fun y7 =>
(app 40 s1.1 [y7]).bind fun r2 =>
some (.inl (r2,w64 (s1.2 + 1)))) <|
some (.inr s1.1)
def i6 (a0 : List al) : Option ((List al) × Bool):=
(ca a0).bind fun y1 =>
sel (!y1) (some ([],false)) <|
(jX a0).bind fun y2 =>
(bQ (iq a0 y2) ([],0)).bind fun y3 =>
some (y3,true)
def lF (s1 : (List Int) × Int) : Option (((List Int) × Int) ⊕ ((List Int))):=
sel (decide (s1.2 < 12)) ((app 8 s1.1 [s1.2]).bind fun r1 =>
some (.inl (r1,w64 (s1.2 + 1)))) <|
some (.inr s1.1)
def ir : Option ((List Int)):=
(bQ (lF) ([],0)).bind fun y1 =>
some y1
def dM (a0 : al) : Option (Int):=
(ew a0 600).bind fun y1 =>
sel (!y1) (some (-1)) <|
(sel (a0.Op == 1) (some (a0.Op == 1)) <|
sel (a0.Op == 2) (some (a0.Op == 2)) <|
sel (a0.Op == 3) (some (a0.Op == 3)) <|
some (a0.Op == 7) : Option (Bool)).bind fun y2 =>
sel y2 (some a0.Dst) <|
some (-1)
def kI (y1 : Int) (s1 : Int × (List Int)) : Option ((Int × (List Int)) ⊕ ((List Int))):=
sel (decide (s1.1 < 12)) (((nth s1.2 s1.1).bind fun x1 =>
sel (x1 == y1) ((nth s1.2 s1.1).bind fun x2 =>
(upd s1.2 s1.1 s1.1).bind fun r2 =>
some r2) <|
some s1.2 : Option ((List Int))).bind fun y5 =>
some (.inl (w64 (s1.1 + 1),y5))) <|
some (.inr s1.2)
def i7 (a0 : al) (a1 : List Int) : Option ((List Int)):=
(app 8 [] a1).bind fun r1 =>
(dM a0).bind fun y1 =>
sel (decide (y1 < 0)) (some r1) <|
(bQ (kI y1) (0,r1)).bind fun y2 =>
(nth y2 y1).bind fun x3 =>
(upd y2 y1 y1).bind fun r3 =>
sel (a0.Op == 2) ((nth r3 y1).bind fun x4 =>
(upd r3 y1 a0.A).bind fun r4 =>
some r4) <|
some r3
def kJ (a1 : Int) (a2 : List Int) (s1 : Bool × Int × (List (List Int))) : Option ((Bool × Int × (List (List Int))) ⊕ (Bool × (List (List Int)))):=
sel (decide (s1.2.1 < 12)) (((nth s1.2.2 a1).bind fun x2 =>
(nth x2 s1.2.1).bind fun x6 =>
(sel (x6 != s1.2.1) ((nth x2 s1.2.1).bind fun b_1=>(nth a2 s1.2.1).bind fun b_2=>some (b_1 != b_2)) (some false)).bind fun b2 =>
sel b2 ((nth s1.2.2 a1).bind fun x9 =>
(nth x9 s1.2.1).bind fun x10 =>
(upd x9 s1.2.1 s1.2.1).bind fun r2 =>
some (true,(s1.2.2.set (Int.toNat a1) r2))) <|
some (s1.1,s1.2.2) : Option (Bool × (List (List Int)))).bind fun y4 =>
some (.inl (y4.1,w64 (s1.2.1 + 1),y4.2))) <|
some (.inr (s1.1,s1.2.2))
def i9 (a0 : List (List Int)) (a1 : Int) (a2 : List Int) : Option (Bool × (List (List Int))):=
(nth a0 a1).bind fun x1 =>
sel ((x1.length : Int) == 0) ((app 8 [] a2).bind fun r1 =>
some (true,(a0.set (Int.toNat a1) r1))) <|
(bQ (kJ a1 a2) (false,0,a0)).bind fun y1 =>
some (y1.1,y1.2)
def kK (y5 : (List Int)) (y6 : (List Int)) (s2 : Bool × Int × (List (List Int))) : Option ((Bool × Int × (List (List Int))) ⊕ (Bool × (List (List Int)))):=
sel (decide (s2.2.1 < (y5.length : Int))) (((nth y5 s2.2.1).bind fun x3 =>
(i9 s2.2.2 x3 y6).bind fun y11 =>
sel y11.1 (some (true,y11.2)) <|
some (s2.1,y11.2) : Option (Bool × (List (List Int)))).bind fun y10 =>
some (.inl (y10.1,w64 (s2.2.1 + 1),y10.2))) <|
some (.inr (s2.1,s2.2.2))
def kL (a0 : List al) (s1 : Bool × Int × (List (List Int))) : Option ((Bool × Int × (List (List Int))) ⊕ (Bool × (List (List Int)))):=
sel (decide (s1.2.1 < (a0.length : Int))) (((nth s1.2.2 s1.2.1).bind fun x1 =>
sel ((x1.length : Int) == 0) (some (s1.1,s1.2.2)) <|
(dL a0 s1.2.1).bind fun y5 =>
(nth a0 s1.2.1).bind fun x2 =>
(i7 x2 x1).bind fun y6 =>
(bQ (kK y5 y6) (s1.1,0,s1.2.2)).bind fun y7 =>
some (y7.1,y7.2) : Option (Bool × (List (List Int)))).bind fun y4 =>
some (.inl (y4.1,w64 (s1.2.1 + 1),y4.2))) <|
some (.inr (s1.1,s1.2.2))
def ja (a0 : List al) (a1 : List (List Int)) : Option (Bool × (List (List Int))):=
(bQ (kL a0) (false,0,a1)).bind fun y1 =>
some (y1.1,y1.2)
def kM (a0 : List al) (s1 : (List (List Int)) × Int) : Option (((List (List Int)) × Int) ⊕ ((List (List Int)))):=
sel (decide (s1.2 < (a0.length : Int))) ((app 24 s1.1 [[]]).bind fun r1 =>
some (.inl (r1,w64 (s1.2 + 1)))) <|
some (.inr s1.1)
def kN (a0 : List al) (s2 : (List (List Int))) : Option (((List (List Int))) ⊕ ((List (List Int)))):=
(ja a0 s2).bind fun y9 =>
sel y9.1 (some (.inl y9.2)) <|
some (.inr y9.2)
def kO (a0 : List al) (s3 : Int × (List (List Int))) : Option ((Int × (List (List Int))) ⊕ ((List (List Int)))):=
sel (decide (s3.1 < (a0.length : Int))) (((nth s3.2 s3.1).bind fun x2 =>
sel ((x2.length : Int) == 0) ((ir).bind fun y14 =>
some (s3.2.set (Int.toNat s3.1) y14)) <|
some s3.2 : Option ((List (List Int)))).bind fun y13 =>
some (.inl (w64 (s3.1 + 1),y13))) <|
some (.inr s3.2)
def jb (a0 : List al) : Option ((List (List Int))):=
(ca a0).bind fun y1 =>
sel (!y1) (some []) <|
(bQ (kM a0) ([],0)).bind fun y2 =>
(ir).bind fun y5 =>
(nth y2 0).bind fun x1 =>
(bQ (kN a0) (y2.set (Int.toNat 0) y5)).bind fun y6 =>
(bQ (kO a0) (0,y6)).bind fun y10 =>
some y10
def jZ (a0 : al) (a1 : List Int) : Option (al):=
(sel (a0.Op == 2) (some (a0.Op == 2)) <|
sel (a0.Op == 5) (some (a0.Op == 5)) <|
sel (a0.Op == 6) (some (a0.Op == 6)) <|
some (a0.Op == 9) : Option (Bool)).bind fun y1 =>
sel y1 ((nth a1 a0.A).bind fun x1 =>
some (al.mk a0.Op a0.Dst x1 a0.B a0.N)) <|
sel (a0.Op == 3) ((nth a1 a0.A).bind fun x2 =>
(nth a1 a0.B).bind fun x3 =>
some (al.mk a0.Op a0.Dst x2 x3 a0.N)) <|
some a0
def iu (a0 : List al) (y2 : (List (List Int))) (s1 : (List al) × Int) : Option (((List al) × Int) ⊕ ((List al))):=
sel (decide (s1.2 < (a0.length : Int))) ((nth y2 s1.2).bind fun x1 =>
(nth a0 s1.2).bind fun x3 =>
(jZ x3 x1).bind fun y7 =>
(app 40 s1.1 [y7]).bind fun r2 =>
some (.inl (r2,w64 (s1.2 + 1)))) <|
some (.inr s1.1)
def jc (a0 : List al) : Option ((List al) × Bool):=
(ca a0).bind fun y1 =>
sel (!y1) (some ([],false)) <|
(jb a0).bind fun y2 =>
(bQ (iu a0 y2) ([],0)).bind fun y3 =>
some (y3,true)
def j0 (a0 : List al) (s1 : Int × Int) : Option ((Int × Int) ⊕ (Int ⊕ Unit)):=
sel (decide (s1.2 < (a0.length : Int))) ((nth a0 s1.1).bind fun x1 =>
sel (x1.Op != 4) (some (.inr (.inl s1.1))) <|
(nth a0 s1.1).bind fun x2 =>
some (.inl (x2.N,w64 (s1.2 + 1)))) <|
some (.inr (.inr ()))
def gR (a0 : List al) (a1 : Int) : Option (Int):=
(bQ (j0 a0) (a1,0)).bind fun y1 =>
fq y1 (fun o3=>some o3) (fun o4 =>
some a1)
def iw (a0 : List al) (s1 : (List al) × Int) : Option (((List al) × Int) ⊕ ((List al))):=
sel (decide (s1.2 < (a0.length : Int))) ((nth a0 s1.2).bind fun x1 =>
(sel ((x1.Op == 4) || (x1.Op == 5)) ((gR a0 x1.N).bind fun y6 =>
some (al.mk x1.Op x1.Dst x1.A x1.B y6)) <|
some x1 : Option (al)).bind fun y5 =>
(app 40 s1.1 [y5]).bind fun r1 =>
some (.inl (r1,w64 (s1.2 + 1)))) <|
some (.inr s1.1)
def jd (a0 : List al) : Option ((List al) × Bool):=
(ca a0).bind fun y1 =>
sel (!y1) (some ([],false)) <|
(bQ (iw a0) ([],0)).bind fun y2 =>
some (y2,true)
def kP (a1 : List (List Bool)) (y1 : (List Int)) (s1 : Int × (List Bool)) (s2 : Int × (List Bool)) : Option ((Int × (List Bool)) ⊕ ((List Bool))):=
sel (decide (s2.1 < 12)) ((nth s2.2 s2.1).bind fun x1 =>
(sel x1 (some true) ((nth y1 s1.1).bind fun x2=>(nth a1 x2).bind fun x3=>(nth x3 s2.1).bind fun x4=>some x4) : Option (Bool)).bind fun b1 =>
(nth s2.2 s2.1).bind fun x5 =>
(upd s2.2 s2.1 b1).bind fun r2 =>
some (.inl (w64 (s2.1 + 1),r2))) <|
some (.inr s2.2)
def kQ (a1 : List (List Bool)) (y1 : (List Int)) (s1 : Int × (List Bool)) : Option ((Int × (List Bool)) ⊕ ((List Bool))):=
sel (decide (s1.1 < (y1.length : Int))) ((bQ (kP a1 y1 s1) (0,s1.2)).bind fun y5 =>
some (.inl (w64 (s1.1 + 1),y5))) <|
some (.inr s1.2)
def gv (a0 : List al) (a1 : List (List Bool)) (a2 : Int) : Option ((List Bool)):=
(mk 1 12 false).bind fun r1 =>
(dL a0 a2).bind fun y1 =>
(bQ (kQ a1 y1) (0,r1)).bind fun y2 =>
some y2
def je (a0 : al) : Option ((List Int)):=
(ew a0 600).bind fun y1 =>
sel (!y1) (some []) <|
(sel (a0.Op == 2) (some (a0.Op == 2)) <|
sel (a0.Op == 5) (some (a0.Op == 5)) <|
sel (a0.Op == 6) (some (a0.Op == 6)) <|
some (a0.Op == 9) : Option (Bool)).bind fun y2 =>
sel y2 (some [a0.A]) <|
sel (a0.Op == 3) (sel (a0.A == a0.B) (some [a0.A]) <|
some [min a0.A a0.B,max a0.A a0.B]) <|
some []
def j1 (y4 : (List Int)) (s1 : Int × (List Bool)) : Option ((Int × (List Bool)) ⊕ ((List Bool))):=
sel (decide (s1.1 < (y4.length : Int))) ((nth y4 s1.1).bind fun x2 =>
(nth s1.2 x2).bind fun x3 =>
(upd s1.2 x2 true).bind fun r3 =>
some (.inl (w64 (s1.1 + 1),r3))) <|
some (.inr s1.2)
def gS (a0 : al) (a1 : List Bool) : Option ((List Bool)):=
(app 1 [] a1).bind fun r1 =>
((dM a0).bind fun y2 =>
sel (decide (y2 ≥ 0)) ((dM a0).bind fun y3 =>
(nth r1 y3).bind fun x1 =>
(upd r1 y3 false).bind fun r2 =>
some r2) <|
some r1 : Option ((List Bool))).bind fun y1 =>
(je a0).bind fun y4 =>
(bQ (j1 y4) (0,y1)).bind fun y5 =>
some y5
def lG (a0 : List Bool) (a1 : List Bool) (s1 : Int) : Option (Int ⊕ (Bool ⊕ Unit)):=
sel (decide (s1 < (a0.length : Int))) ((nth a0 s1).bind fun x1 =>
(nth a1 s1).bind fun x2 =>
sel (x1 != x2) (some (.inr (.inl false))) <|
some (.inl (w64 (s1 + 1)))) <|
some (.inr (.inr ()))
def j2 (a0 : List Bool) (a1 : List Bool) : Option (Bool):=
(bQ (lG a0 a1) 0).bind fun y1 =>
fq y1 (fun o3=>some o3) (fun o4 =>
some ((a0.length : Int) == (a1.length : Int)))
def kR (a0 : List al) (s1 : Bool × Int × (List (List Bool))) : Option ((Bool × Int × (List (List Bool))) ⊕ (Bool × (List (List Bool)))):=
sel (decide (s1.2.1 ≥ 0)) (((nth a0 s1.2.1).bind fun x1 =>
(gv a0 s1.2.2 s1.2.1).bind fun y5 =>
(gS x1 y5).bind fun y6 =>
(nth s1.2.2 s1.2.1).bind fun x2 =>
(j2 y6 x2).bind fun y7 =>
sel (!y7) (some (true,(s1.2.2.set (Int.toNat s1.2.1) y6))) <|
some (s1.1,s1.2.2) : Option (Bool × (List (List Bool)))).bind fun y4 =>
some (.inl (y4.1,w64 (s1.2.1 - 1),y4.2))) <|
some (.inr (s1.1,s1.2.2))
def jf (a0 : List al) (a1 : List (List Bool)) : Option (Bool × (List (List Bool))):=
(bQ (kR a0) (false,w64 ((a0.length : Int) - 1),a1)).bind fun y1 =>
some (y1.1,y1.2)
def md (a0 : List al) (s1 : (List (List Bool)) × Int) : Option (((List (List Bool)) × Int) ⊕ ((List (List Bool)))):=
sel (decide (s1.2 < (a0.length : Int))) ((mk 1 12 false).bind fun r1 =>
(app 24 s1.1 [r1]).bind fun r2 =>
some (.inl (r2,w64 (s1.2 + 1)))) <|
some (.inr s1.1)
def me (a0 : List al) (s2 : (List (List Bool))) : Option (((List (List Bool))) ⊕ ((List (List Bool)))):=
(jf a0 s2).bind fun y8 =>
sel y8.1 (some (.inl y8.2)) <|
some (.inr y8.2)
def lw (a0 : List al) : Option ((List (List Bool))):=
(ca a0).bind fun y1 =>
sel (!y1) (some []) <|
(bQ (md a0) ([],0)).bind fun y2 =>
(bQ (me a0) y2).bind fun y5 =>
some y5
def j3 (a0 : al) (a1 : List Bool) : Option (Bool):=
(sel (a0.Op == 1) (some (a0.Op == 1)) <|
sel (a0.Op == 2) (some (a0.Op == 2)) <|
some (a0.Op == 3) : Option (Bool)).bind fun y1 =>
sel y1 ((nth a1 a0.Dst).bind fun x1 =>
some (!x1)) <|
some false
def iy (a0 : List al) (y2 : (List (List Bool))) (s1 : (List al) × Int) : Option (((List al) × Int) ⊕ ((List al))):=
sel (decide (s1.2 < (a0.length : Int))) ((nth a0 s1.2).bind fun x1 =>
((gv a0 y2 s1.2).bind fun y7 =>
(j3 x1 y7).bind fun y8 =>
sel y8 (some (al.mk 4 0 0 0 (w64 (s1.2 + 1)))) <|
some x1 : Option (al)).bind fun y6 =>
(app 40 s1.1 [y6]).bind fun r1 =>
some (.inl (r1,w64 (s1.2 + 1)))) <|
some (.inr s1.1)
def jg (a0 : List al) : Option ((List al) × Bool):=
(ca a0).bind fun y1 =>
sel (!y1) (some ([],false)) <|
(lw a0).bind fun y2 =>
(bQ (iy a0 y2) ([],0)).bind fun y3 =>
some (y3,true)
def j4 (y5 : (List Int)) (s2 : Bool × Int × (List Bool)) : Option ((Bool × Int × (List Bool)) ⊕ (Bool × (List Bool))):=
sel (decide (s2.2.1 < (y5.length : Int))) (((nth y5 s2.2.1).bind fun x2 =>
(nth s2.2.2 x2).bind fun x3 =>
sel (!x3) ((nth y5 s2.2.1).bind fun x4 =>
(nth s2.2.2 x4).bind fun x5 =>
(upd s2.2.2 x4 true).bind fun r1 =>
some (true,r1)) <|
some (s2.1,s2.2.2) : Option (Bool × (List Bool))).bind fun y9 =>
some (.inl (y9.1,w64 (s2.2.1 + 1),y9.2))) <|
some (.inr (s2.1,s2.2.2))
def j5 (a0 : List al) (s1 : Bool × Int × (List Bool)) : Option ((Bool × Int × (List Bool)) ⊕ (Bool × (List Bool))):=
sel (decide (s1.2.1 < (a0.length : Int))) (((nth s1.2.2 s1.2.1).bind fun x1 =>
sel (!x1) (some (s1.1,s1.2.2)) <|
(dL a0 s1.2.1).bind fun y5 =>
(bQ (j4 y5) (s1.1,0,s1.2.2)).bind fun y6 =>
some (y6.1,y6.2) : Option (Bool × (List Bool))).bind fun y4 =>
some (.inl (y4.1,w64 (s1.2.1 + 1),y4.2))) <|
some (.inr (s1.1,s1.2.2))
def gU (a0 : List al) (a1 : List Bool) : Option (Bool × (List Bool)):=
(bQ (j5 a0) (false,0,a1)).bind fun y1 =>
some (y1.1,y1.2)
def j6 (a0 : List al) (s1 : (List Bool)) : Option (((List Bool)) ⊕ ((List Bool))):=
(gU a0 s1).bind fun y5 =>
sel y5.1 (some (.inl y5.2)) <|
some (.inr y5.2)
def gV (a0 : List al) : Option ((List Bool)):=
(ca a0).bind fun y1 =>
sel (!y1) (some []) <|
(mk 1 (a0.length : Int) false).bind fun r1 =>
(nth r1 0).bind fun x1 =>
(upd r1 0 true).bind fun r2 =>
(bQ (j6 a0) r2).bind fun y2 =>
some y2
def j7 (a0 : al) (a1 : Int) : Option (Bool):=
(sel (a0.Op == 4) (some (a0.Op == 4)) <|
some (a0.Op == 5) : Option (Bool)).bind fun y1 =>
sel y1 (some (a0.N == (w64 (a1 + 1)))) <|
sel (a0.Op == 2) (some (a0.Dst == a0.A)) <|
some false
def kS (a0 : List Bool) (a1 : Int) (s1 : Int × Int) : Option ((Int × Int) ⊕ Int):=
sel (decide (s1.2 < a1)) (((nth a0 s1.2).bind fun x1 =>
sel x1 (some (w64 (s1.1 + 1))) <|
some s1.1 : Option (Int)).bind fun y4 =>
some (.inl (y4,w64 (s1.2 + 1)))) <|
some (.inr s1.1)
def jh (a0 : List Bool) (a1 : Int) : Option (Int):=
(bQ (kS a0 a1) (0,0)).bind fun y1 =>
some y1
def iR (a0 : List al) (s1 : Int × (List Bool)) : Option ((Int × (List Bool)) ⊕ ((List Bool))):=
sel (decide (s1.1 < (a0.length : Int))) ((nth s1.2 s1.1).bind fun x1 =>
(sel x1 ((nth a0 s1.1).bind fun x2=>(j7 x2 s1.1).bind fun y6=>some (!y6)) (some false) : Option (Bool)).bind fun b1 =>
(nth s1.2 s1.1).bind fun x3 =>
(upd s1.2 s1.1 b1).bind fun r1 =>
some (.inl (w64 (s1.1 + 1),r1))) <|
some (.inr s1.2)
def iU (a0 : List al) (y3 : (List Bool)) (s2 : (List al) × Int) : Option (((List al) × Int) ⊕ ((List al))):=
sel (decide (s2.2 < (a0.length : Int))) (((nth a0 s2.2).bind fun x4 =>
(nth y3 s2.2).bind fun x5 =>
sel (!x5) (some s2.1) <|
(sel ((x4.Op == 4) || (x4.Op == 5)) ((jh y3 x4.N).bind fun y12 =>
some (al.mk x4.Op x4.Dst x4.A x4.B y12)) <|
some x4 : Option (al)).bind fun y11 =>
(app 40 s2.1 [y11]).bind fun r2 =>
some r2 : Option ((List al))).bind fun y10 =>
some (.inl (y10,w64 (s2.2 + 1)))) <|
some (.inr s2.1)
def fD (a0 : List al) : Option ((List al) × Bool):=
(ca a0).bind fun y1 =>
sel (!y1) (some ([],false)) <|
(gV a0).bind fun y2 =>
(bQ (iR a0) (0,y2)).bind fun y3 =>
(bQ (iU a0 y3) ([],0)).bind fun y7 =>
some (y7,true)
def j8 (a0 : List al) : Option ((List al)):=
(i6 a0).bind fun y1 =>
(jc y1.1).bind fun y2 =>
(jd y2.1).bind fun y3 =>
(jg y3.1).bind fun y4 =>
(fD y4.1).bind fun y5 =>
some y5.1
def gW (a1 : Int) (s1 : (List al) × Int) : Option (((List al) × Int) ⊕ ((List al))):=
sel (decide (s1.2 < a1)) ((j8 s1.1).bind fun y6 =>
some (.inl (y6,w64 (s1.2 + 1)))) <|
some (.inr s1.1)
def eW (a0 : List al) (a1 : Int) : Option ((List al) × Bool):=
(ca a0).bind fun y1 =>
(sel (!y1) (some true) ((aB a1 0 4).bind fun y2=>some (!y2)) : Option (Bool)).bind fun b1 =>
sel b1 (some ([],false)) <|
(app 40 [] a0).bind fun r1 =>
(bQ (gW a1) (r1,0)).bind fun y3 =>
some (y3,true)
def j9 (k : Nat) (a0 : aU) : Option ((List al) × Int):=
(ar (aU.mk a0.b a0.p) 2).bind fun y1 =>
sel (y1.1 == 0) ((fy (aU.mk a0.b y1.2)).bind fun y2 =>
some (y2.1,y2.2)) <|
(iY k (aU.mk a0.b y1.2) 2).bind fun y3 =>
(fB k y3.1).bind fun y4 =>
sel (decide ((y4.1.length : Int) > 40)) ((fy (aU.mk a0.b y3.2)).bind fun y5 =>
some (y5.1,y5.2)) <|
(ar (aU.mk a0.b y3.2) 3).bind fun y6 =>
(eW y4.1 (w64 (Int.tdiv y6.1 2))).bind fun y7 =>
some (y7.1,y6.2)
def kT (a0 : aU) (k : Nat) (y1 : Int × Int) (s1 : (List (List al)) × Int × Int) : Option (((List (List al)) × Int × Int) ⊕ ((List (List al)) × Int)):=
sel (decide (s1.2.1 < (w64 (1 + y1.1)))) ((j9 k (aU.mk a0.b s1.2.2)).bind fun y5 =>
(app 24 s1.1 [y5.1]).bind fun r1 =>
some (.inl (r1,w64 (s1.2.1 + 1),y5.2))) <|
some (.inr (s1.1,s1.2.2))
def ji (k : Nat) (a0 : aU) : Option ((List (List al)) × Int):=
(ar (aU.mk a0.b a0.p) 3).bind fun y1 =>
(bQ (kT a0 k y1) ([],0,y1.2)).bind fun y2 =>
some (y2.1,y2.2)
def dT (a0 : Int) (a1 : Int) (a2 : Int) : Option (Int):=
sel (decide (a0 ≥ a1)) (some a2) <|
(nth [8,9,18,19,20,21,22,23] a0).bind fun x1 =>
some x1
def ek (a0 : List Instr) (a1 : Int) (a2 : Int) : Option ((List Instr)):=
sel (decide (a1 < a2)) (some a0) <|
(app 40 a0 [(Instr.mk 16 0 2 7 (w64 (4 * (w64 (a1 - a2)))))]).bind fun r1 =>
some r1
def dc (a0 : Int) : Option (Int):=
(cj a0).bind fun y1 =>
sel (!y1) (some (-1)) <|
sel (decide (a0 < 0)) (some (w64 (a0 + 4294967296))) <|
some a0
def eI (a0 : Int) (s1 : Int × Int) : Option ((Int × Int) ⊕ Int):=
sel (decide (s1.2 < a0)) (some (.inl (w64 (s1.1 * 2),w64 (s1.2 + 1)))) <|
some (.inr s1.1)
def cA (a0 : Int) : Option (Int):=
(bQ (eI a0) (1,0)).bind fun y1 =>
some y1
def cE (a0 : Int) (a1 : Int) : Option (Int):=
(aB a1 1 32).bind fun y1 =>
(sel (!y1) (some true) ((cA a1).bind fun y2=>(aB a0 0 (w64 (y2 - 1))).bind fun y3=>some (!y3)) : Option (Bool)).bind fun b1 =>
sel b1 (some 0) <|
(cA (w64 (a1 - 1))).bind fun y4 =>
sel (decide (a0 ≥ y4)) ((cA a1).bind fun y5 =>
some (w64 (a0 - y5))) <|
some a0
def bb (a0 : Int) (a1 : Int) (a2 : Int) : Option (Int):=
(aB a0 0 4294967295).bind fun y1 =>
(sel (!y1) (some true) ((aB a1 0 31).bind fun y2=>some (!y2)) : Option (Bool)).bind fun b1 =>
(sel b1 (some true) ((aB a2 1 (w64 (32 - a1))).bind fun y3=>some (!y3)) : Option (Bool)).bind fun b2 =>
sel b2 (some 0) <|
(cA a1).bind fun y4 =>
(pR .i64 a0 y4).bind fun d1 =>
(cA a2).bind fun y5 =>
(mv d1 y5).bind fun d2 =>
some d2
def jj (a0 : Int) (a1 : Int) : Option ((List Instr)):=
(aB a1 (-2048) 2047).bind fun y1 =>
sel y1 (some [(Instr.mk 12 a0 0 0 a1)]) <|
(dc a1).bind fun y2 =>
(bb y2 0 12).bind fun y3 =>
(cE y3 12).bind fun y4 =>
(bW (w64 (a1 - y4))).bind fun y5 =>
(dc y5).bind fun y6 =>
(bb y6 12 20).bind fun y7 =>
(app 40 [(Instr.mk 19 a0 0 0 y7)] [(Instr.mk 12 a0 a0 0 y4)]).bind fun r1 =>
some r1
def ee (a0 : Int) (a1 : Int) (a2 : Int) : Option ((List Instr)):=
sel (decide (a0 < a1)) (some []) <|
some [(Instr.mk 14 a2 2 0 (w64 (4 * (w64 (a0 - a1)))))]
def eX (a0 : Int) (a1 : Int) : Option (Instr):=
some (Instr.mk 12 a0 a1 0 0)
def mg (a0 : Int) : Option (Int):=
(nth [7,8,6,8,11,9,10,1,2,3,4,5] (w64 (a0 - 1))).bind fun x1 =>
some x1
def mA (a0 : al) (a1 : Int) : Option ((List Instr)):=
(ee a0.A a1 5).bind fun y1 =>
(ee a0.B a1 6).bind fun y2 =>
(app 40 y1 y2).bind fun r1 =>
(dT a0.Dst a1 7).bind fun y3 =>
(mg a0.N).bind fun y4 =>
(dT a0.A a1 5).bind fun y5 =>
(dT a0.B a1 6).bind fun y6 =>
(app 40 r1 [(Instr.mk y4 y3 y5 y6 0)]).bind fun r2 =>
(sel (a0.N == 4) ((app 40 r2 [(Instr.mk 13 y3 y3 0 1)]).bind fun r3 =>
some r3) <|
some r2 : Option ((List Instr))).bind fun y7 =>
(ek y7 a0.Dst a1).bind fun y8 =>
some y8
def lM (a0 : al) (a1 : Int) (a2 : Int) : Option ((List Instr)):=
(ee a0.A a1 5).bind fun y1 =>
(dT a0.A a1 5).bind fun y2 =>
(app 40 y1 [(Instr.mk 18 0 y2 0 8)]).bind fun r1 =>
(app 40 r1 [(Instr.mk 20 0 0 0 (w64 (a2 - (w64 (4 * (r1.length : Int))))))]).bind fun r2 =>
some r2
def ef (a0 : List Instr) (a1 : Int) : Option ((List Instr)):=
(app 40 a0 [(Instr.mk 12 17 0 0 a1)]).bind fun r1 =>
(app 40 r1 [(Instr.mk 15 1 0 0 0)]).bind fun r2 =>
some r2
def iz (a0 : Int) (a1 : Int) : Option ((List Instr)):=
(ee a0 a1 5).bind fun y1 =>
(dT a0 a1 5).bind fun y2 =>
(eX 10 y2).bind fun y3 =>
(app 40 y1 [y3]).bind fun r1 =>
some r1
def jJ (a0 : Int) : Option (Instr):=
some (Instr.mk 12 11 0 0 a0)
def iA (a0 : al) (a1 : Int) (a2 : Int) : Option ((List Instr)):=
(dT a0.Dst a1 7).bind fun y1 =>
sel (a0.Op == 1) ((jj y1 a0.N).bind fun y2 =>
(ek y2 a0.Dst a1).bind fun y3 =>
some y3) <|
sel (a0.Op == 2) ((ee a0.A a1 5).bind fun y4 =>
(dT a0.A a1 5).bind fun y5 =>
(eX y1 y5).bind fun y6 =>
(app 40 y4 [y6]).bind fun r1 =>
(ek r1 a0.Dst a1).bind fun y7 =>
some y7) <|
sel (a0.Op == 3) ((mA a0 a1).bind fun y8 =>
some y8) <|
sel (a0.Op == 4) (some [(Instr.mk 20 0 0 0 a2)]) <|
sel (a0.Op == 5) ((lM a0 a1 a2).bind fun y9 =>
some y9) <|
sel (a0.Op == 6) ((iz a0.A a1).bind fun y10 =>
(jJ a0.N).bind fun y11 =>
(app 40 y10 [y11]).bind fun r2 =>
(ef r2 1).bind fun y12 =>
some y12) <|
sel (a0.Op == 7) ((jJ a0.N).bind fun y13 =>
(ef [y13] 2).bind fun y14 =>
(eX y1 10).bind fun y15 =>
(app 40 y14 [y15]).bind fun r3 =>
(ek r3 a0.Dst a1).bind fun y16 =>
some y16) <|
sel (a0.Op == 8) ((ef [] 3).bind fun y17 =>
some y17) <|
sel (a0.Op == 9) ((iz a0.A a1).bind fun y18 =>
(ef y18 4).bind fun y19 =>
some y19) <|
(ef [] 5).bind fun y20 =>
some y20
def ka (a0 : List al) (a1 : Int) (s1 : (List Int) × Int × Int) : Option (((List Int) × Int × Int) ⊕ ((List Int))):=
sel (decide (s1.2.2 < (a0.length : Int))) ((app 8 s1.1 [s1.2.1]).bind fun r1 =>
(nth a0 s1.2.2).bind fun x1 =>
(iA x1 a1 0).bind fun y4 =>
some (.inl (r1,w64 (s1.2.1 + (y4.length : Int)),w64 (s1.2.2 + 1)))) <|
some (.inr s1.1)
def gX (a0 : List al) (a1 : Int) : Option ((List Int)):=
(bQ (ka a0 a1) ([],0,0)).bind fun y1 =>
some y1
def lH (a0 : List al) (a1 : Int) (y1 : (List Int)) (s1 : (List Instr) × Int) : Option (((List Instr) × Int) ⊕ ((List Instr))):=
sel (decide (s1.2 < (a0.length : Int))) (((nth a0 s1.2).bind fun x1 =>
(sel (x1.Op == 4) (some true) ((nth a0 s1.2).bind fun x2=>some (x2.Op == 5)) : Option (Bool)).bind fun b1 =>
sel b1 ((nth a0 s1.2).bind fun x3 =>
(nth y1 x3.N).bind fun x4 =>
(nth y1 s1.2).bind fun x5 =>
some (w64 (4 * (w64 (x4 - x5))))) <|
some 0 : Option (Int)).bind fun y5 =>
(nth a0 s1.2).bind fun x6 =>
(iA x6 a1 y5).bind fun y6 =>
(app 40 s1.1 y6).bind fun r1 =>
some (.inl (r1,w64 (s1.2 + 1)))) <|
some (.inr s1.1)
def kc (a0 : List al) (a1 : Int) : Option ((List Instr)):=
(gX a0 a1).bind fun y1 =>
(bQ (lH a0 a1 y1) ([],0)).bind fun y2 =>
some y2
def kU (y1 : (List (List al)) × Int) (y2 : Int × Int) (s1 : (List (List Instr)) × Int) : Option (((List (List Instr)) × Int) ⊕ ((List (List Instr)))):=
sel (decide (s1.2 < (y1.1.length : Int))) ((nth y1.1 s1.2).bind fun x1 =>
(kc x1 (w64 (1 + y2.1))).bind fun y6 =>
(app 24 s1.1 [y6]).bind fun r1 =>
some (.inl (r1,w64 (s1.2 + 1)))) <|
some (.inr s1.1)
def jk (k : Nat) (a0 : aU) : Option ((List (List Instr)) × Int):=
(ji k (aU.mk a0.b a0.p)).bind fun y1 =>
(ar (aU.mk a0.b y1.2) 8).bind fun y2 =>
(bQ (kU y1 y2) ([],0)).bind fun y3 =>
some (y3,y2.2)
def ey (a0 : List Int) (s1 : Int) : Option (Int ⊕ (Bool ⊕ Unit)):=
sel (decide (s1 < (a0.length : Int))) ((nth a0 s1).bind fun x1 =>
sel ((decide (x1 < 1)) || (decide (x1 > 4))) (some (.inr (.inl false))) <|
some (.inl (w64 (s1 + 1)))) <|
some (.inr (.inr ()))
def lI (a0 : List Int) : Option (Bool):=
(bQ (ey a0) 0).bind fun y1 =>
fq y1 (fun o3=>some o3) (fun o4 =>
some (decide ((a0.length : Int) ≤ 3)))
def kV (a0 : List Int) (s1 : (List Box) × Int) : Option (((List Box) × Int) ⊕ ((List Box))):=
sel (decide (s1.2 < (a0.length : Int))) ((nth a0 s1.2).bind fun x1 =>
(app 32 s1.1 [(Box.mk x1 [])]).bind fun r1 =>
some (.inl (r1,w64 (s1.2 + 1)))) <|
some (.inr s1.1)
def mL (a0 : List Int) : Option ((List Box)):=
(bQ (kV a0) ([],0)).bind fun y1 =>
some y1
def ce (a0 : Int) : Option (Int):=
some (w64 (jL .i32 (a0)))
def de (a0 : Int) : Option (Bool):=
some ((decide (a0 ≥ (-2147483648))) && (decide (a0 ≤ 2147483647)))
def cl (a0 : Int) : Option (Int):=
(de a0).bind fun y1 =>
sel (!y1) (some (-1)) <|
some (w64 (jL .u32 (a0)))
def bO (a0 : Int) : Option (Int):=
sel ((decide (a0 ≥ 1)) && (decide (a0 ≤ 11))) (some 82) <|
sel ((decide (a0 ≥ 12)) && (decide (a0 ≤ 15))) (some 73) <|
sel (a0 == 16) (some 83) <|
sel ((a0 == 17) || (a0 == 18)) (some 66) <|
sel (a0 == 19) (some 85) <|
sel (a0 == 20) (some 74) <|
sel (a0 == 21) (some 69) <|
some 32
def cG (a0 : Int) : Option (Bool):=
some ((decide (a0 ≥ 0)) && (decide (a0 < 32)))
def bu (a0 : Instr) : Option (Bool):=
(cG a0.Rd).bind fun y1 =>
(cG a0.Rs).bind fun y2 =>
(cG a0.Rt).bind fun y3 =>
(bO a0.Op).bind fun y4 =>
sel (y4 == 82) (some (((y1 && y2) && y3) && (a0.Imm == 0))) <|
sel (y4 == 73) (some (((y1 && y2) && (a0.Rt == 0)) && ((decide (a0.Imm ≥ (-2048))) && (decide (a0.Imm ≤ 2047))))) <|
sel (y4 == 83) (some ((((a0.Rd == 0) && y2) && y3) && ((decide (a0.Imm ≥ (-2048))) && (decide (a0.Imm ≤ 2047))))) <|
sel (y4 == 66) (some ((((((a0.Rd == 0) && y2) && y3) && (decide (a0.Imm ≥ (-4096)))) && (decide (a0.Imm ≤ 4094))) && ((Int.tmod a0.Imm 2) == 0))) <|
sel (y4 == 85) (some ((((y1 && (a0.Rs == 0)) && (a0.Rt == 0)) && (decide (a0.Imm ≥ 0))) && (decide (a0.Imm ≤ 1048575)))) <|
sel (y4 == 74) (some (((((y1 && (a0.Rs == 0)) && (a0.Rt == 0)) && (decide (a0.Imm ≥ (-1048576)))) && (decide (a0.Imm ≤ 1048574))) && ((Int.tmod a0.Imm 2) == 0))) <|
sel (y4 == 69) (some ((a0.Op == 21) && ((a0.Rd == 0) && ((a0.Rs == 0) && ((a0.Rt == 0) && ((a0.Imm == 0) && true)))))) <|
some false
def dY (a0 : Int) : Option (Bool):=
some ((decide (a0 ≥ 0)) && (decide (a0 < 4294967296)))
def bL (a0 : Int) (a1 : Int) (a2 : Int) : Option (Int):=
(dY a0).bind fun y1 =>
sel (((((!y1) || (decide (a1 < 0))) || (decide (a1 > 31))) || (decide (a2 < 1))) || (decide (a2 > (w64 (32 - a1))))) (some 0) <|
(shO .shr .i64 a0 a1).bind fun d1 =>
(shO .shl .i64 1 a2).bind fun d2 =>
some (aN .and .i64 d1 (w64 (d2 - 1)))
def aE (a0 : Int) (a1 : Int) (a2 : Int) (a3 : Int) : Option (Int):=
(bL a3 a0 a1).bind fun y1 =>
(shO .shl .i64 y1 a2).bind fun d1 =>
some d1
def bX (a0 : Instr) : Option (Int × Bool):=
(bu a0).bind fun y1 =>
sel (!y1) (some (0,false)) <|
(nth kB (w64 (a0.Op - 1))).bind fun x1 =>
(cl a0.Imm).bind fun y2 =>
(bO a0.Op).bind fun y3 =>
sel (y3 == 82) (some (aN .or .i64 (aN .or .i64 (w64 (x1.funct7 * 2 ^ (min 25 (IntKind.bits .i64)))) (aN .or .i64 (aN .or .i64 (aN .or .i64 (w64 (a0.Rt * 2 ^ (min 20 (IntKind.bits .i64)))) (w64 (a0.Rs * 2 ^ (min 15 (IntKind.bits .i64))))) (w64 (x1.funct3 * 2 ^ (min 12 (IntKind.bits .i64))))) x1.opcode)) (w64 (a0.Rd * 2 ^ (min 7 (IntKind.bits .i64)))),true)) <|
sel (y3 == 73) ((aE 0 12 20 y2).bind fun y4 =>
some (aN .or .i64 (aN .or .i64 y4 (aN .or .i64 (aN .or .i64 (aN .or .i64 (w64 (a0.Rt * 2 ^ (min 20 (IntKind.bits .i64)))) (w64 (a0.Rs * 2 ^ (min 15 (IntKind.bits .i64))))) (w64 (x1.funct3 * 2 ^ (min 12 (IntKind.bits .i64))))) x1.opcode)) (w64 (a0.Rd * 2 ^ (min 7 (IntKind.bits .i64)))),true)) <|
sel (y3 == 83) ((aE 5 7 25 y2).bind fun y5 =>
(aE 0 5 7 y2).bind fun y6 =>
some (aN .or .i64 (aN .or .i64 y5 (aN .or .i64 (aN .or .i64 (aN .or .i64 (w64 (a0.Rt * 2 ^ (min 20 (IntKind.bits .i64)))) (w64 (a0.Rs * 2 ^ (min 15 (IntKind.bits .i64))))) (w64 (x1.funct3 * 2 ^ (min 12 (IntKind.bits .i64))))) x1.opcode)) y6,true)) <|
sel (y3 == 66) ((aE 12 1 31 y2).bind fun y7 =>
(aE 5 6 25 y2).bind fun y8 =>
(aE 1 4 8 y2).bind fun y9 =>
(aE 11 1 7 y2).bind fun y10 =>
some (aN .or .i64 (aN .or .i64 (aN .or .i64 (aN .or .i64 y7 y8) (aN .or .i64 (aN .or .i64 (aN .or .i64 (w64 (a0.Rt * 2 ^ (min 20 (IntKind.bits .i64)))) (w64 (a0.Rs * 2 ^ (min 15 (IntKind.bits .i64))))) (w64 (x1.funct3 * 2 ^ (min 12 (IntKind.bits .i64))))) x1.opcode)) y9) y10,true)) <|
sel (y3 == 85) ((aE 0 20 12 y2).bind fun y11 =>
some (aN .or .i64 (aN .or .i64 y11 (w64 (a0.Rd * 2 ^ (min 7 (IntKind.bits .i64))))) x1.opcode,true)) <|
sel (y3 == 74) ((aE 20 1 31 y2).bind fun y12 =>
(aE 1 10 21 y2).bind fun y13 =>
(aE 11 1 20 y2).bind fun y14 =>
(aE 12 8 12 y2).bind fun y15 =>
some (aN .or .i64 (aN .or .i64 (aN .or .i64 (aN .or .i64 (aN .or .i64 y12 y13) y14) y15) (w64 (a0.Rd * 2 ^ (min 7 (IntKind.bits .i64))))) x1.opcode,true)) <|
some (x1.opcode,true)
def gj (a0 : List Instr) (s1 : (List Int) × Int) : Option (((List Int) × Int) ⊕ (((List Int) × Bool) ⊕ ((List Int)))):=
sel (decide (s1.2 < (a0.length : Int))) ((nth a0 s1.2).bind fun x1 =>
(bX x1).bind fun y4 =>
sel (!y4.2) (some (.inr (.inl ([],false)))) <|
(ce y4.1).bind fun y5 =>
(app 8 s1.1 [y5]).bind fun r1 =>
some (.inl (r1,w64 (s1.2 + 1)))) <|
some (.inr (.inr s1.1))
def np (a0 : List Instr) : Option ((List Int) × Bool):=
(bQ (gj a0) ([],0)).bind fun y1 =>
fq y1 (fun o3=>some o3) (fun o4 =>
some (o4,true))
def iB (a0 : List Instr) : Option (ah × Bool):=
(np a0).bind fun y1 =>
sel ((!y1.2) || (decide ((w64 ((w64 ((y1.1.length : Int) + 1)) + 12)) > 10000))) (some ((ah.mk [] 0 []),false)) <|
(mk 8 32 0).bind fun r1 =>
(app 8 [0] y1.1).bind fun r2 =>
(nth r1 2).bind fun x1 =>
(upd r1 2 (w64 (4 * (r2.length : Int)))).bind fun r3 =>
(vG 8 r2 12 0).bind fun r4 =>
some ((ah.mk r3 4 r4),true)
def iC (a1 : List (List Instr)) (s1 : Int × (List ah)) : Option ((Int × (List ah)) ⊕ ((aH × Bool) ⊕ ((List ah)))):=
sel (decide (s1.1 < (a1.length : Int))) ((nth a1 s1.1).bind fun x1 =>
(iB x1).bind fun y6 =>
sel (!y6.2) (some (.inr (.inl ((aH.mk [] [] 0 0 []),false)))) <|
(app 56 s1.2 [(ah.mk y6.1.Regs y6.1.Pc y6.1.Mem)]).bind fun r1 =>
some (.inl (w64 (s1.1 + 1),r1))) <|
some (.inr (.inr s1.2))
def pa (a0 : List Int) (a1 : List (List Instr)) : Option (aH × Bool):=
(lI a0).bind fun y1 =>
sel (((!y1) || (decide ((a1.length : Int) < 1))) || (decide ((a1.length : Int) > 3))) (some ((aH.mk [] [] 0 0 []),false)) <|
(mL a0).bind fun y2 =>
(bQ (iC a1) (0,[])).bind fun y3 =>
fq y3 (fun o3=>some o3) (fun o4 =>
some ((aH.mk o4 y2 0 0 []),true))
def cR (a0 : List Int) (s1 : Int) : Option (Int ⊕ (Bool ⊕ Unit)):=
sel (decide (s1 < (a0.length : Int))) ((nth a0 s1).bind fun x1 =>
(aB x1 1 4).bind fun y4 =>
sel (!y4) (some (.inr (.inl false))) <|
some (.inl (w64 (s1 + 1)))) <|
some (.inr (.inr ()))
def fh (a0 : List Int) : Option (Bool):=
(bQ (cR a0) 0).bind fun y1 =>
fq y1 (fun o3=>some o3) (fun o4 =>
some (decide ((a0.length : Int) ≤ 3)))
def iE (a0 : List Int) (s1 : (List Box) × Int) : Option (((List Box) × Int) ⊕ ((List Box))):=
sel (decide (s1.2 < (a0.length : Int))) ((nth a0 s1.2).bind fun x1 =>
(app 32 s1.1 [(Box.mk x1 [])]).bind fun r1 =>
some (.inl (r1,w64 (s1.2 + 1)))) <|
some (.inr s1.1)
def jl (a0 : List Int) : Option ((List Box)):=
(bQ (iE a0) ([],0)).bind fun y1 =>
some y1
def dx (a0 : Instr) (a1 : Int) (a2 : Int) (a3 : Int) : Option (Bool):=
(aB a0.Rd 0 (w64 (a1 * 31))).bind fun y1 =>
(sel y1 ((aB a0.Rs 0 (w64 (a2 * 31))).bind fun y2=>some y2) (some false) : Option (Bool)).bind fun b1 =>
(sel b1 ((aB a0.Rt 0 (w64 (a3 * 31))).bind fun y3=>some y3) (some false) : Option (Bool)).bind fun b2 =>
some b2
def iG (a0 : Int) (a1 : Int) (a2 : Int) : Option (Bool):=
(aB a0 a1 a2).bind fun y1 =>
some (y1 && ((Int.tmod a0 2) == 0))
def dZ (a0 : Instr) : Option (Bool):=
(aB a0.Op 1 11).bind fun y1 =>
sel y1 ((dx a0 1 1 1).bind fun y2 =>
some (y2 && (a0.Imm == 0))) <|
(aB a0.Op 12 15).bind fun y3 =>
sel y3 ((dx a0 1 1 0).bind fun y4 =>
(sel y4 ((aB a0.Imm (-2048) 2047).bind fun y5=>some y5) (some false) : Option (Bool)).bind fun b1 =>
some b1) <|
sel (a0.Op == 16) ((dx a0 0 1 1).bind fun y6 =>
(sel y6 ((aB a0.Imm (-2048) 2047).bind fun y7=>some y7) (some false) : Option (Bool)).bind fun b2 =>
some b2) <|
sel ((a0.Op == 17) || (a0.Op == 18)) ((dx a0 0 1 1).bind fun y8 =>
(sel y8 ((iG a0.Imm (-4096) 4094).bind fun y9=>some y9) (some false) : Option (Bool)).bind fun b3 =>
some b3) <|
sel (a0.Op == 19) ((dx a0 1 0 0).bind fun y10 =>
(sel y10 ((aB a0.Imm 0 1048575).bind fun y11=>some y11) (some false) : Option (Bool)).bind fun b4 =>
some b4) <|
sel (a0.Op == 20) ((dx a0 1 0 0).bind fun y12 =>
(sel y12 ((iG a0.Imm (-1048576) 1048574).bind fun y13=>some y13) (some false) : Option (Bool)).bind fun b5 =>
some b5) <|
(sel (a0.Op == 21) ((dx a0 0 0 0).bind fun y14=>some y14) (some false) : Option (Bool)).bind fun b6 =>
some (b6 && (a0.Imm == 0))
def fU (a0 : Int) (a1 : Int) : Option (Int):=
sel (decide (a0 < 0)) (some (w64 (a0 + a1))) <|
some a0
def bp (a0 : Int) (a1 : Int) : Option (Int):=
(cA a1).bind fun y1 =>
some (w64 (a0 * y1))
def gw (a0 : Int) : Option (Int):=
(nth [0,0,0,4,6,7,6,4,1,5,2,0,3,2,0,2,0,1,0,0,0] (w64 (a0 - 1))).bind fun x1 =>
some x1
def fV (a0 : Instr) (a1 : Int) : Option (Int):=
(bp a0.Rs 15).bind fun y1 =>
(gw a0.Op).bind fun y2 =>
(bp y2 12).bind fun y3 =>
some (w64 ((w64 (y1 + y3)) + a1))
def gY (a0 : Instr) (a1 : Int) : Option (Int):=
(fU a0.Imm 4096).bind fun y1 =>
(bp y1 20).bind fun y2 =>
(fV a0 a1).bind fun y3 =>
(bp a0.Rd 7).bind fun y4 =>
some (w64 ((w64 (y2 + y3)) + y4))
def gZ (a0 : Instr) : Option (Int):=
(fU a0.Imm 8192).bind fun y1 =>
(bb y1 12 1).bind fun y2 =>
(bp y2 31).bind fun y3 =>
(bb y1 5 6).bind fun y4 =>
(bp y4 25).bind fun y5 =>
(bp a0.Rt 20).bind fun y6 =>
(fV a0 99).bind fun y7 =>
(bb y1 1 4).bind fun y8 =>
(bp y8 8).bind fun y9 =>
(bb y1 11 1).bind fun y10 =>
(bp y10 7).bind fun y11 =>
some (w64 ((w64 ((w64 ((w64 ((w64 (y3 + y5)) + y6)) + y7)) + y9)) + y11))
def kd (a0 : Instr) : Option (Int):=
(fU a0.Imm 2097152).bind fun y1 =>
(bb y1 20 1).bind fun y2 =>
(bp y2 31).bind fun y3 =>
(bb y1 1 10).bind fun y4 =>
(bp y4 21).bind fun y5 =>
(bb y1 11 1).bind fun y6 =>
(bp y6 20).bind fun y7 =>
(bb y1 12 8).bind fun y8 =>
(bp y8 12).bind fun y9 =>
(bp a0.Rd 7).bind fun y10 =>
some (w64 ((w64 ((w64 ((w64 ((w64 (y3 + y5)) + y7)) + y9)) + y10)) + 111))
def gx (a0 : Int) : Option (Int):=
(nth [0,32,1,1,1,0,0,0,0,32,0] (w64 (a0 - 1))).bind fun x1 =>
some x1
def bS (a0 : Instr) : Option (Int):=
(sel (a0.Op == 12) (some (a0.Op == 12)) <|
some (a0.Op == 13) : Option (Bool)).bind fun y1 =>
sel y1 ((gY a0 19).bind fun y2 =>
some y2) <|
sel (a0.Op == 14) ((gY a0 3).bind fun y3 =>
some y3) <|
sel (a0.Op == 15) ((gY a0 103).bind fun y4 =>
some y4) <|
sel (a0.Op == 16) ((fU a0.Imm 4096).bind fun y5 =>
(bb y5 5 7).bind fun y6 =>
(bp y6 25).bind fun y7 =>
(bp a0.Rt 20).bind fun y8 =>
(fV a0 35).bind fun y9 =>
(bb y5 0 5).bind fun y10 =>
(bp y10 7).bind fun y11 =>
some (w64 ((w64 ((w64 (y7 + y8)) + y9)) + y11))) <|
(sel (a0.Op == 17) (some (a0.Op == 17)) <|
some (a0.Op == 18) : Option (Bool)).bind fun y12 =>
sel y12 ((gZ a0).bind fun y13 =>
some y13) <|
sel (a0.Op == 19) ((bp a0.Imm 12).bind fun y14 =>
(bp a0.Rd 7).bind fun y15 =>
some (w64 ((w64 (y14 + y15)) + 55))) <|
sel (a0.Op == 20) ((kd a0).bind fun y16 =>
some y16) <|
sel (a0.Op == 21) (some 115) <|
(gx a0.Op).bind fun y17 =>
(bp y17 25).bind fun y18 =>
(bp a0.Rt 20).bind fun y19 =>
(fV a0 51).bind fun y20 =>
(bp a0.Rd 7).bind fun y21 =>
some (w64 ((w64 ((w64 (y18 + y19)) + y20)) + y21))
def du (a0 : Instr) : Option (Int × Bool):=
(dZ a0).bind fun y1 =>
sel (!y1) (some (0,false)) <|
(bS a0).bind fun y2 =>
some (y2,true)
def eJ (a1 : List Instr) (s1 : (List Int) × Int) : Option (((List Int) × Int) ⊕ (((List Int) × Bool) ⊕ ((List Int)))):=
sel (decide (s1.2 < (a1.length : Int))) ((nth a1 s1.2).bind fun x1 =>
(du x1).bind fun y4 =>
sel (!y4.2) (some (.inr (.inl (s1.1,false)))) <|
(bW y4.1).bind fun y5 =>
(app 8 s1.1 [y5]).bind fun r1 =>
some (.inl (r1,w64 (s1.2 + 1)))) <|
some (.inr (.inr s1.1))
def ke (a0 : List Int) (a1 : List Instr) : Option ((List Int) × Bool):=
(bQ (eJ a1) (a0,0)).bind fun y1 =>
fq y1 (fun o3=>some o3) (fun o4 =>
some (o4,true))
def eg (a0 : List Instr) : Option (ah × Bool):=
sel (decide ((a0.length : Int) > 9987)) (some ((ah.mk [] 0 []),false)) <|
(ke [0] a0).bind fun y1 =>
sel (!y1.2) (some ((ah.mk [] 0 []),false)) <|
(mk 8 32 0).bind fun r1 =>
(nth r1 2).bind fun x1 =>
(upd r1 2 (w64 (4 * (y1.1.length : Int)))).bind fun r2 =>
(vG 8 y1.1 12 0).bind fun r3 =>
some ((ah.mk r2 4 r3),true)
def fE (a1 : List (List Instr)) (s1 : Int × (List ah)) : Option ((Int × (List ah)) ⊕ ((aH × Bool) ⊕ ((List ah)))):=
sel (decide (s1.1 < (a1.length : Int))) ((nth a1 s1.1).bind fun x1 =>
(eg x1).bind fun y7 =>
sel (!y7.2) (some (.inr (.inl ((aH.mk [] [] 0 0 []),false)))) <|
(app 56 s1.2 [(ah.mk y7.1.Regs y7.1.Pc y7.1.Mem)]).bind fun r1 =>
some (.inl (w64 (s1.1 + 1),r1))) <|
some (.inr (.inr s1.2))
def jm (a0 : List Int) (a1 : List (List Instr)) : Option (aH × Bool):=
(fh a0).bind fun y1 =>
(sel (!y1) (some true) ((aB (a1.length : Int) 1 3).bind fun y2=>some (!y2)) : Option (Bool)).bind fun b1 =>
sel b1 (some ((aH.mk [] [] 0 0 []),false)) <|
(jl a0).bind fun y3 =>
(bQ (fE a1) (0,[])).bind fun y4 =>
fq y4 (fun o3=>some o3) (fun o4 =>
some ((aH.mk o4 y3 0 0 []),true))
def fF (a0 : List Int) (a1 : List Int) (s1 : Int) : Option (Int ⊕ (Bool ⊕ Unit)):=
sel (decide (s1 < (a0.length : Int))) ((nth a0 s1).bind fun x1 =>
(nth a1 s1).bind fun x2 =>
sel (x1 != x2) (some (.inr (.inl false))) <|
some (.inl (w64 (s1 + 1)))) <|
some (.inr (.inr ()))
def dN (a0 : List Int) (a1 : List Int) : Option (Bool):=
sel ((a0.length : Int) != (a1.length : Int)) (some false) <|
(bQ (fF a0 a1) 0).bind fun y1 =>
fq y1 (fun o3=>some o3) (fun o4 =>
some true)
def fG (a0 : ah) (a1 : ah) : Option (Bool):=
(sel (a0.Pc == a1.Pc) ((dN a0.Regs a1.Regs).bind fun y1=>some y1) (some false) : Option (Bool)).bind fun b1 =>
(sel b1 ((dN a0.Mem a1.Mem).bind fun y2=>some y2) (some false) : Option (Bool)).bind fun b2 =>
some b2
def kf (a0 : Box) (a1 : Box) : Option (Bool):=
(sel (a0.Room == a1.Room) ((dN a0.Items a1.Items).bind fun y1=>some y1) (some false) : Option (Bool)).bind fun b1 =>
some b1
def eY (a0 : List Box) (a1 : List Box) (s1 : Int) : Option (Int ⊕ (Bool ⊕ Unit)):=
sel (decide (s1 < (a0.length : Int))) ((nth a0 s1).bind fun x1 =>
(nth a1 s1).bind fun x2 =>
(kf (Box.mk x1.Room x1.Items) (Box.mk x2.Room x2.Items)).bind fun y4 =>
sel (!y4) (some (.inr (.inl false))) <|
some (.inl (w64 (s1 + 1)))) <|
some (.inr (.inr ()))
def hH (a0 : List Box) (a1 : List Box) : Option (Bool):=
sel ((a0.length : Int) != (a1.length : Int)) (some false) <|
(bQ (eY a0 a1) 0).bind fun y1 =>
fq y1 (fun o3=>some o3) (fun o4 =>
some true)
def eZ (a0 : aH) (a1 : aH) (s1 : Int) : Option (Int ⊕ (Bool ⊕ Unit)):=
sel (decide (s1 < (a0.Harts.length : Int))) ((nth a0.Harts s1).bind fun x1 =>
(nth a1.Harts s1).bind fun x2 =>
(fG (ah.mk x1.Regs x1.Pc x1.Mem) (ah.mk x2.Regs x2.Pc x2.Mem)).bind fun y4 =>
sel (!y4) (some (.inr (.inl false))) <|
some (.inl (w64 (s1 + 1)))) <|
some (.inr (.inr ()))
def dU (a0 : aH) (a1 : aH) : Option (Bool):=
sel ((((a0.Harts.length : Int) != (a1.Harts.length : Int)) || (a0.Turn != a1.Turn)) || (a0.Idle != a1.Idle)) (some false) <|
(bQ (eZ a0 a1) 0).bind fun y1 =>
fq y1 (fun o3=>some o3) (fun o4 =>
(hH a0.Boxes a1.Boxes).bind fun y5 =>
(sel y5 ((dN a0.Out a1.Out).bind fun y6=>some y6) (some false) : Option (Bool)).bind fun b1 =>
some b1)
def fH (a0 : List Int) (s1 : Int) : Option (Int ⊕ (Bool ⊕ Unit)):=
sel (decide (s1 < (a0.length : Int))) ((nth a0 s1).bind fun x1 =>
(de x1).bind fun y4 =>
sel (!y4) (some (.inr (.inl false))) <|
some (.inl (w64 (s1 + 1)))) <|
some (.inr (.inr ()))
def df (a0 : List Int) : Option (Bool):=
(bQ (fH a0) 0).bind fun y1 =>
fq y1 (fun o3=>some o3) (fun o4 =>
some true)
def jt (a0 : Int) (a1 : Int) (a2 : Int) (a3 : List Int) : Option (Bool):=
(sel ((((((decide (a0 ≥ 1)) && (decide (a0 ≤ 3))) && (decide (a1 ≥ 0))) && (decide (a1 < a0))) && (decide (a2 ≥ 0))) && (decide (a2 ≤ a0))) ((df a3).bind fun y1=>some y1) (some false) : Option (Bool)).bind fun b1 =>
some b1
def jn (a0 : Box) : Option (Bool):=
(sel (((decide (a0.Room ≥ 1)) && (decide (a0.Room ≤ 4))) && (decide ((a0.Items.length : Int) ≤ a0.Room))) ((df a0.Items).bind fun y1=>some y1) (some false) : Option (Bool)).bind fun b1 =>
some b1
def ez (a0 : List Box) (s1 : Int) : Option (Int ⊕ (Bool ⊕ Unit)):=
sel (decide (s1 < (a0.length : Int))) ((nth a0 s1).bind fun x1 =>
(jn (Box.mk x1.Room x1.Items)).bind fun y4 =>
sel (!y4) (some (.inr (.inl false))) <|
some (.inl (w64 (s1 + 1)))) <|
some (.inr (.inr ()))
def gk (a0 : List Box) : Option (Bool):=
(bQ (ez a0) 0).bind fun y1 =>
fq y1 (fun o3=>some o3) (fun o4 =>
some (decide ((a0.length : Int) ≤ 3)))
def dy (a0 : ah) : Option (Bool):=
(sel ((a0.Regs.length : Int) == 32) ((df a0.Regs).bind fun y1=>some y1) (some false) : Option (Bool)).bind fun b1 =>
(sel b1 ((nth a0.Regs 0).bind fun x1=>some (x1 == 0)) (some false) : Option (Bool)).bind fun b2 =>
(sel b2 ((de a0.Pc).bind fun y2=>some y2) (some false) : Option (Bool)).bind fun b3 =>
(sel (b3 && (decide ((a0.Mem.length : Int) ≤ 10000))) ((df a0.Mem).bind fun y3=>some y3) (some false) : Option (Bool)).bind fun b4 =>
some b4
def gz (a0 : ah) : Option (Bool):=
(dy (ah.mk a0.Regs a0.Pc a0.Mem)).bind fun y1 =>
some (!y1)
def aW (a0 : List ah) (s1 : Int) : Option (Int ⊕ (Int ⊕ Unit)):=
sel (decide (s1 < (a0.length : Int))) ((nth a0 s1).bind fun x1 =>
(gz (ah.mk x1.Regs x1.Pc x1.Mem)).bind fun y4 =>
sel y4 (some (.inr (.inl s1))) <|
some (.inl (w64 (s1 + 1)))) <|
some (.inr (.inr ()))
def bw (a0 : List ah) : Option (Int):=
(bQ (aW a0) 0).bind fun y1 =>
fq y1 (fun o3=>some o3) (fun o4 =>
some (-1))
def a9 (a0 : List ah) : Option (Bool):=
(bw a0).bind fun y1 =>
some (decide (y1 ≥ 0))
def gl (a0 : aH) : Option (Bool):=
(jt (a0.Harts.length : Int) a0.Turn a0.Idle a0.Out).bind fun y1 =>
(sel y1 ((gk a0.Boxes).bind fun y2=>some y2) (some false) : Option (Bool)).bind fun b1 =>
(sel b1 ((a9 a0.Harts).bind fun y3=>some (!y3)) (some false) : Option (Bool)).bind fun b2 =>
some b2
def bM (a0 : List Int) : Option ((List Int)):=
(app 8 [] a0).bind fun r1 =>
some r1
def fb (a0 : List Box) (s1 : (List Box) × Int) : Option (((List Box) × Int) ⊕ ((List Box))):=
sel (decide (s1.2 < (a0.length : Int))) ((nth a0 s1.2).bind fun x1 =>
(bM x1.Items).bind fun y4 =>
(app 32 s1.1 [(Box.mk x1.Room y4)]).bind fun r1 =>
some (.inl (r1,w64 (s1.2 + 1)))) <|
some (.inr s1.1)
def hP (a0 : List Box) : Option ((List Box)):=
(bQ (fb a0) ([],0)).bind fun y1 =>
some y1
def fI (a0 : ah) : Option (ah):=
(bM a0.Regs).bind fun y1 =>
(bM a0.Mem).bind fun y2 =>
some (ah.mk y1 a0.Pc y2)
def dP (a0 : Int) (a1 : Int) (a2 : Int) (a3 : Int) : Option (Int × Int × Bool):=
sel ((((((decide (a0 < 1)) || (decide (a0 > 3))) || (decide (a1 < 0))) || (decide (a1 ≥ a0))) || (decide (a2 < 0))) || (decide (a2 ≥ a0))) (some (0,0,false)) <|
sel (a3 == 1) (some (a1,0,true)) <|
sel (a3 == 2) ((mv (w64 (a1 + 1)) a0).bind fun d1 =>
some (d1,0,true)) <|
(sel (a3 == 3) (some (a3 == 3)) <|
some (a3 == 4) : Option (Bool)).bind fun y1 =>
sel y1 ((mv (w64 (a1 + 1)) a0).bind fun d2 =>
some (d2,w64 (a2 + 1),true)) <|
some (0,0,false)
def fX (a0 : Box) (a1 : Int) : Option (Bool × (List Int)):=
sel ((a0.Items.length : Int) == a0.Room) (some (false,a0.Items)) <|
(app 8 a0.Items [a1]).bind fun r1 =>
some (true,r1)
def fi (a0 : Box) : Option (Int × Bool × (List Int)):=
sel ((a0.Items.length : Int) == 0) (some (0,false,a0.Items)) <|
(nth a0.Items 0).bind fun x1 =>
(cut a0.Items 1 (a0.Items.length : Int)).bind fun r1 =>
(app 8 [] r1).bind fun r2 =>
some (x1,true,r2)
def bC (a0 : ah) (a1 : List Box) (a2 : List Int) : Option (Int × (List Int) × Int × (List Int) × (List Box)):=
(nth a0.Regs 17).bind fun x1 =>
(nth a0.Regs 11).bind fun x2 =>
sel ((a0.Pc != 0) || (((x1 == 1) || (x1 == 2)) && ((decide (x2 < 0)) || (decide (x2 ≥ (a1.length : Int)))))) (some (0,a0.Regs,a0.Pc,a2,a1)) <|
(sel (x1 == 1) ((nth a1 x2).bind fun x3 =>
(nth a0.Regs 10).bind fun x4 =>
(fX (Box.mk x3.Room x3.Items) x4).bind fun y2 =>
sel (!y2.1) (some (.inr (3,a0.Regs,a0.Pc,a2,(a1.set (Int.toNat x2) (Box.mk x3.Room y2.2))))) <|
some (.inl (1,a2,a0.Regs,(a1.set (Int.toNat x2) (Box.mk x3.Room y2.2))))) <|
sel (x1 == 2) ((nth a1 x2).bind fun x5 =>
(fi (Box.mk x5.Room x5.Items)).bind fun y3 =>
sel (!y3.2.1) (some (.inr (3,a0.Regs,a0.Pc,a2,(a1.set (Int.toNat x2) (Box.mk x5.Room y3.2.2))))) <|
(nth a0.Regs 10).bind fun x6 =>
(upd a0.Regs 10 y3.1).bind fun r1 =>
some (.inl (1,a2,r1,(a1.set (Int.toNat x2) (Box.mk x5.Room y3.2.2))))) <|
sel (x1 == 3) (some (.inl (2,a2,a0.Regs,a1))) <|
sel (x1 == 4) ((nth a0.Regs 10).bind fun x7 =>
(app 8 a2 [x7]).bind fun r2 =>
some (.inl (1,r2,a0.Regs,a1))) <|
sel (x1 == 5) (some (.inr (4,a0.Regs,a0.Pc,a2,a1))) <|
some (.inr (0,a0.Regs,a0.Pc,a2,a1)) : Option ((Int × (List Int) × (List Int) × (List Box)) ⊕ (Int × (List Int) × Int × (List Int) × (List Box)))).bind fun y1 =>
fq y1 (fun o3=>(nth o3.2.2.1 1).bind fun x8 =>
some (o3.1,o3.2.2.1,x8,o3.2.1,o3.2.2.2)) (fun o4 =>
some o4)
def c7 (a0 : ah) (a1 : Int) : Option (Int):=
sel (((decide (a1 < 0)) || ((Int.tmod a1 4) != 0)) || (decide ((w64 (Int.tdiv a1 4)) ≥ (a0.Mem.length : Int)))) (some (-1)) <|
(nth a0.Mem (w64 (Int.tdiv a1 4))).bind fun x1 =>
some (w64 (Int.tdiv a1 4))
def bP (a0 : ll) (a1 : Int) (a2 : Int) : Option (Bool):=
sel (a0.opcode != (aN .and .i64 a2 127)) (some false) <|
(bO a1).bind fun y1 =>
sel (y1 == 82) ((bL a2 12 3).bind fun y2 =>
(sel (a0.funct3 == y2) ((bL a2 25 7).bind fun b_1=>some (a0.funct7 == b_1)) (some false)).bind fun b1 =>
some b1) <|
(sel (y1 == 73) (some (y1 == 73)) <|
sel (y1 == 83) (some (y1 == 83)) <|
some (y1 == 66) : Option (Bool)).bind fun y4 =>
sel y4 ((bL a2 12 3).bind fun y5 =>
some (a0.funct3 == y5)) <|
some true
def cL (a0 : Int) (a1 : Int) : Option (Int):=
(sel (((decide (a1 < 1)) || (decide (a1 > 32))) || (decide (a0 < 0))) (some true) ((shO .shl .i64 1 a1).bind fun d1=>some (decide (a0 ≥ d1))) : Option (Bool)).bind fun b1 =>
sel b1 (some 0) <|
(shO .shl .i64 1 (w64 (a1 - 1))).bind fun d2 =>
sel (decide (a0 ≥ d2)) ((shO .shl .i64 1 a1).bind fun d3 =>
some (w64 (a0 - d3))) <|
some a0
def cM (a0 : Int) (a1 : Int) : Option (Instr):=
(bL a1 7 5).bind fun y1 =>
(bL a1 15 5).bind fun y2 =>
(bL a1 20 5).bind fun y3 =>
(bO a0).bind fun y4 =>
sel (y4 == 82) (some (Instr.mk a0 y1 y2 y3 0)) <|
sel (y4 == 73) ((bL a1 20 12).bind fun y5 =>
(cL y5 12).bind fun y6 =>
some (Instr.mk a0 y1 y2 0 y6)) <|
sel (y4 == 83) ((bL a1 25 7).bind fun y7 =>
(cL (aN .or .i64 (w64 (y7 * 2 ^ (min 5 (IntKind.bits .i64)))) y1) 12).bind fun y8 =>
some (Instr.mk a0 0 y2 y3 y8)) <|
sel (y4 == 66) ((bL a1 31 1).bind fun y9 =>
(bL a1 7 1).bind fun y10 =>
(bL a1 25 6).bind fun y11 =>
(bL a1 8 4).bind fun y12 =>
(cL (aN .or .i64 (aN .or .i64 (aN .or .i64 (w64 (y9 * 2 ^ (min 12 (IntKind.bits .i64)))) (w64 (y10 * 2 ^ (min 11 (IntKind.bits .i64))))) (w64 (y11 * 2 ^ (min 5 (IntKind.bits .i64))))) (w64 (y12 * 2 ^ (min 1 (IntKind.bits .i64))))) 13).bind fun y13 =>
some (Instr.mk a0 0 y2 y3 y13)) <|
sel (y4 == 85) ((bL a1 12 20).bind fun y14 =>
some (Instr.mk a0 y1 0 0 y14)) <|
sel (y4 == 74) ((bL a1 31 1).bind fun y15 =>
(bL a1 12 8).bind fun y16 =>
(bL a1 20 1).bind fun y17 =>
(bL a1 21 10).bind fun y18 =>
(cL (aN .or .i64 (aN .or .i64 (aN .or .i64 (w64 (y15 * 2 ^ (min 20 (IntKind.bits .i64)))) (w64 (y16 * 2 ^ (min 12 (IntKind.bits .i64))))) (w64 (y17 * 2 ^ (min 11 (IntKind.bits .i64))))) (w64 (y18 * 2 ^ (min 1 (IntKind.bits .i64))))) 21).bind fun y19 =>
some (Instr.mk a0 y1 0 0 y19)) <|
some (Instr.mk a0 0 0 0 0)
def dD (a0 : Int) (s1 : Int) : Option (Int ⊕ ((Instr × Bool) ⊕ Unit)):=
sel (decide (s1 ≤ 21)) (((nth kB (w64 (s1 - 1))).bind fun x1 =>
(bP x1 s1 a0).bind fun y6 =>
sel (!y6) (some (.inl ())) <|
(cM s1 a0).bind fun y7 =>
(bX y7).bind fun y8 =>
sel (y8.2 && (y8.1 == a0)) (some (.inr (y7,true))) <|
some (.inl ()) : Option (Unit ⊕ (Instr × Bool))).bind fun y5 =>
fq y5 (fun o5=>some (.inl (w64 (s1 + 1)))) (fun o6 =>
some (.inr (.inl o6)))) <|
some (.inr (.inr ()))
def cT (a0 : Int) : Option (Instr × Bool):=
(dY a0).bind fun y1 =>
sel (!y1) (some ((Instr.mk 0 0 0 0 0),false)) <|
(bQ (dD a0) 1).bind fun y2 =>
fq y2 (fun o7=>some o7) (fun o8 =>
some ((Instr.mk 0 0 0 0 0),false))
def ba (a0 : ah) (a1 : Int) (a2 : Int) : Option ((List Int)):=
sel (a1 != 0) ((nth a0.Regs a1).bind fun x1 =>
(upd a0.Regs a1 a2).bind fun r1 =>
some r1) <|
some a0.Regs
def jF (a0 : Bool) : Option (Int):=
sel a0 (some 1) <|
some 0
def mh (a0 : Int) (a1 : Int) (a2 : Int) : Option (Int):=
sel (a0 == 1) (some (aN .or .i64 a1 a2)) <|
sel (a0 == 2) (some (aN .xor .i64 a1 a2)) <|
sel (a0 == 3) (some (aN .and .i64 a1 a2)) <|
sel (a0 == 4) ((jF (a1 == a2)).bind fun y1 =>
some y1) <|
sel (a0 == 5) ((jF (decide (a1 < a2))).bind fun y2 =>
some y2) <|
sel (a0 == 6) ((shO .shl .i64 a1 (aN .and .i64 a2 31)).bind fun d1 =>
(ce d1).bind fun y3 =>
some y3) <|
sel (a0 == 7) ((shO .shr .i64 a1 (aN .and .i64 a2 31)).bind fun d2 =>
some d2) <|
sel (a0 == 8) ((ce (w64 (a1 + a2))).bind fun y4 =>
some y4) <|
sel (a0 == 9) ((ce (w64 (a1 - a2))).bind fun y5 =>
some y5) <|
sel (a0 == 10) ((ce (w64 (a1 * a2))).bind fun y6 =>
some y6) <|
sel (a0 == 11) (sel (a2 == 0) (some (-1)) <|
(pR .i64 a1 a2).bind fun d3 =>
(ce d3).bind fun y7 =>
some y7) <|
sel (a2 == 0) (some a1) <|
(mv a1 a2).bind fun d4 =>
some d4
def c9 (a0 : ah) : Option (Int × (List Int) × Int × (List Int)):=
(c7 (ah.mk a0.Regs a0.Pc a0.Mem) a0.Pc).bind fun y1 =>
sel (decide (y1 < 0)) (some (3,a0.Regs,a0.Pc,a0.Mem)) <|
(nth a0.Mem y1).bind fun x1 =>
(cl x1).bind fun y2 =>
(cT y2).bind fun y3 =>
sel (!y3.2) (some (3,a0.Regs,a0.Pc,a0.Mem)) <|
(nth a0.Regs y3.1.Rs).bind fun x2 =>
(nth a0.Regs y3.1.Rt).bind fun x3 =>
(ce (w64 (a0.Pc + 4))).bind fun y4 =>
(sel (y3.1.Op == 21) (some (.inr (2,a0.Regs,a0.Pc,a0.Mem))) <|
sel (y3.1.Op == 12) ((ce (w64 (x2 + y3.1.Imm))).bind fun y6 =>
(ba (ah.mk a0.Regs a0.Pc a0.Mem) y3.1.Rd y6).bind fun y7 =>
some (.inl (y4,y7,a0.Mem))) <|
sel (y3.1.Op == 13) ((cl x2).bind fun y8 =>
(cl y3.1.Imm).bind fun y9 =>
(jF (decide (y8 < y9))).bind fun y10 =>
(ba (ah.mk a0.Regs a0.Pc a0.Mem) y3.1.Rd y10).bind fun y11 =>
some (.inl (y4,y11,a0.Mem))) <|
(sel (y3.1.Op == 14) (some (y3.1.Op == 14)) <|
some (y3.1.Op == 16) : Option (Bool)).bind fun y12 =>
sel y12 ((ce (w64 (x2 + y3.1.Imm))).bind fun y13 =>
(c7 (ah.mk a0.Regs a0.Pc a0.Mem) y13).bind fun y14 =>
sel (decide (y14 < 0)) (some (.inr (3,a0.Regs,a0.Pc,a0.Mem))) <|
sel (y3.1.Op == 16) ((nth a0.Mem y14).bind fun x4 =>
(upd a0.Mem y14 x3).bind fun r1 =>
some (.inl (y4,a0.Regs,r1))) <|
(nth a0.Mem y14).bind fun x5 =>
(ba (ah.mk a0.Regs a0.Pc a0.Mem) y3.1.Rd x5).bind fun y15 =>
some (.inl (y4,y15,a0.Mem))) <|
sel (y3.1.Op == 15) ((ba (ah.mk a0.Regs a0.Pc a0.Mem) y3.1.Rd y4).bind fun y16 =>
(ce (w64 (x2 + y3.1.Imm))).bind fun y17 =>
some (.inl (aN .andNot .i64 y17 1,y16,a0.Mem))) <|
(sel (y3.1.Op == 17) (some (y3.1.Op == 17)) <|
some (y3.1.Op == 18) : Option (Bool)).bind fun y18 =>
sel y18 (sel ((x2 == x3) == (y3.1.Op == 17)) ((ce (w64 (a0.Pc + y3.1.Imm))).bind fun y19 =>
some (.inl (y19,a0.Regs,a0.Mem))) <|
some (.inl (y4,a0.Regs,a0.Mem))) <|
sel (y3.1.Op == 19) ((ce (w64 (y3.1.Imm * 4096))).bind fun y20 =>
(ba (ah.mk a0.Regs a0.Pc a0.Mem) y3.1.Rd y20).bind fun y21 =>
some (.inl (y4,y21,a0.Mem))) <|
sel (y3.1.Op == 20) ((ba (ah.mk a0.Regs a0.Pc a0.Mem) y3.1.Rd y4).bind fun y22 =>
(ce (w64 (a0.Pc + y3.1.Imm))).bind fun y23 =>
some (.inl (y23,y22,a0.Mem))) <|
(nth l9 (w64 (y3.1.Op - 1))).bind fun x6 =>
(mh x6 x2 x3).bind fun y24 =>
(ba (ah.mk a0.Regs a0.Pc a0.Mem) y3.1.Rd y24).bind fun y25 =>
some (.inl (y4,y25,a0.Mem)) : Option ((Int × (List Int) × (List Int)) ⊕ (Int × (List Int) × Int × (List Int)))).bind fun y5 =>
fq y5 (fun o3=>some (1,o3.2.1,o3.1,o3.2.2)) (fun o4 =>
some o4)
def dj (a0 : Int) (a1 : aH) : Option (Int × (List ah) × (List Box) × (List Int)):=
(nth a1.Harts a0).bind fun x1 =>
sel (x1.Pc == 0) ((bC (ah.mk x1.Regs x1.Pc x1.Mem) a1.Boxes a1.Out).bind fun y1 =>
some (y1.1,(a1.Harts.set (Int.toNat a0) (ah.mk y1.2.1 y1.2.2.1 x1.Mem)),y1.2.2.2.2,y1.2.2.2.1)) <|
(c9 (ah.mk x1.Regs x1.Pc x1.Mem)).bind fun y2 =>
sel (y2.1 == 1) (some (1,(a1.Harts.set (Int.toNat a0) (ah.mk y2.2.1 y2.2.2.1 y2.2.2.2)),a1.Boxes,a1.Out)) <|
some (0,(a1.Harts.set (Int.toNat a0) (ah.mk y2.2.1 y2.2.2.1 y2.2.2.2)),a1.Boxes,a1.Out)
def bf (a1 : Int) (a4 : aH) (s1 : Int × Int × Int × (List ah) × (List Box) × (List Int)) : Option ((Int × Int × Int × (List ah) × (List Box) × (List Int)) ⊕ ((Int × Int × Bool × (List ah) × (List Box) × (List Int)) ⊕ (Int × Int × (List ah) × (List Box) × (List Int)))):=
sel ((decide (s1.1 > 0)) && (decide (s1.2.2.1 < a1))) ((dj s1.2.1 (aH.mk s1.2.2.2.1 s1.2.2.2.2.1 a4.Turn a4.Idle s1.2.2.2.2.2)).bind fun y4 =>
(dP a1 s1.2.1 s1.2.2.1 y4.1).bind fun y5 =>
sel (!y5.2.2) (some (.inr (.inl (0,0,false,y4.2.1,y4.2.2.1,y4.2.2.2)))) <|
some (.inl (w64 (s1.1 - 1),y5.1,y5.2.1,y4.2.1,y4.2.2.1,y4.2.2.2))) <|
some (.inr (.inr (s1.2.1,s1.2.2.1,s1.2.2.2.1,s1.2.2.2.2.1,s1.2.2.2.2.2)))
def gA (a0 : Int) (a1 : Int) (a2 : Int) (a3 : Int) (a4 : aH) : Option (Int × Int × Bool × (List ah) × (List Box) × (List Int)):=
(bQ (bf a1 a4) (a0,a2,a3,a4.Harts,a4.Boxes,a4.Out)).bind fun y1 =>
fq y1 (fun o3=>some o3) (fun o4 =>
some (o4.1,o4.2.1,true,o4.2.2.1,o4.2.2.2.1,o4.2.2.2.2))
def ep (a0 : aH) (s1 : Int × (List ah)) : Option ((Int × (List ah)) ⊕ ((List ah))):=
sel (decide (s1.1 < (a0.Harts.length : Int))) ((nth a0.Harts s1.1).bind fun x1 =>
(fI (ah.mk x1.Regs x1.Pc x1.Mem)).bind fun y7 =>
(app 56 s1.2 [(ah.mk y7.Regs y7.Pc y7.Mem)]).bind fun r1 =>
some (.inl (w64 (s1.1 + 1),r1))) <|
some (.inr s1.2)
def gy (a0 : aH) (a1 : Int) : Option (aH × Bool):=
(gl (aH.mk a0.Harts a0.Boxes a0.Turn a0.Idle a0.Out)).bind fun y1 =>
sel (((!y1) || (decide (a1 < 0))) || (decide (a1 > 1000000))) (some ((aH.mk [] [] 0 0 []),false)) <|
(hP a0.Boxes).bind fun y2 =>
(bM a0.Out).bind fun y3 =>
(bQ (ep a0) (0,[])).bind fun y4 =>
(gA a1 (y4.length : Int) a0.Turn a0.Idle (aH.mk y4 y2 0 0 y3)).bind fun y8 =>
sel (!y8.2.2.1) (some ((aH.mk [] [] 0 0 []),false)) <|
some ((aH.mk y8.2.2.2.1 y8.2.2.2.2.1 y8.1 y8.2.1 y8.2.2.2.2.2),true)
def gm (a0 : List Int) (s1 : Int) : Option (Int ⊕ (Bool ⊕ Unit)):=
sel (decide (s1 < (a0.length : Int))) ((nth a0 s1).bind fun x1 =>
(cj x1).bind fun y4 =>
sel (!y4) (some (.inr (.inl false))) <|
some (.inl (w64 (s1 + 1)))) <|
some (.inr (.inr ()))
def dz (a0 : List Int) (a1 : Int) : Option (Bool):=
sel ((a0.length : Int) != a1) (some false) <|
(bQ (gm a0) 0).bind fun y1 =>
fq y1 (fun o3=>some o3) (fun o4 =>
some true)
def fj (a0 : Box) : Option (Bool):=
(aB a0.Room 1 4).bind fun y1 =>
(sel (y1 && (decide ((a0.Items.length : Int) ≤ a0.Room))) ((dz a0.Items (a0.Items.length : Int)).bind fun y2=>some y2) (some false) : Option (Bool)).bind fun b1 =>
some b1
def fJ (a0 : List Box) (s1 : Int) : Option (Int ⊕ (Bool ⊕ Unit)):=
sel (decide (s1 < (a0.length : Int))) ((nth a0 s1).bind fun x1 =>
(fj (Box.mk x1.Room x1.Items)).bind fun y4 =>
sel (!y4) (some (.inr (.inl false))) <|
some (.inl (w64 (s1 + 1)))) <|
some (.inr (.inr ()))
def jo (a0 : List Box) : Option (Bool):=
(bQ (fJ a0) 0).bind fun y1 =>
fq y1 (fun o3=>some o3) (fun o4 =>
some (decide ((a0.length : Int) ≤ 3)))
def fc (a0 : ah) : Option (Bool):=
(dz a0.Regs 32).bind fun y1 =>
(sel y1 ((nth a0.Regs 0).bind fun x1=>some (x1 == 0)) (some false) : Option (Bool)).bind fun b1 =>
(sel b1 ((cj a0.Pc).bind fun y2=>some y2) (some false) : Option (Bool)).bind fun b2 =>
(sel (b2 && (decide ((a0.Mem.length : Int) ≤ 10000))) ((dz a0.Mem (a0.Mem.length : Int)).bind fun y3=>some y3) (some false) : Option (Bool)).bind fun b3 =>
some b3
def fK (a0 : aH) (s1 : Int) : Option (Int ⊕ (Bool ⊕ Unit)):=
sel (decide (s1 < (a0.Harts.length : Int))) ((nth a0.Harts s1).bind fun x1 =>
(fc (ah.mk x1.Regs x1.Pc x1.Mem)).bind fun y8 =>
sel (!y8) (some (.inr (.inl false))) <|
some (.inl (w64 (s1 + 1)))) <|
some (.inr (.inr ()))
def jp (a0 : aH) : Option (Bool):=
(aB (a0.Harts.length : Int) 1 3).bind fun y1 =>
(sel (!y1) (some true) ((jo a0.Boxes).bind fun y2=>some (!y2)) : Option (Bool)).bind fun b1 =>
(sel b1 (some true) ((aB a0.Turn 0 (w64 ((a0.Harts.length : Int) - 1))).bind fun y3=>some (!y3)) : Option (Bool)).bind fun b2 =>
(sel b2 (some true) ((aB a0.Idle 0 (a0.Harts.length : Int)).bind fun y4=>some (!y4)) : Option (Bool)).bind fun b3 =>
sel b3 (some false) <|
(bQ (fK a0) 0).bind fun y5 =>
fq y5 (fun o3=>some o3) (fun o4 =>
(dz a0.Out (a0.Out.length : Int)).bind fun y9 =>
some y9)
def dV (a0 : List Box) (s1 : (List Box) × Int) : Option (((List Box) × Int) ⊕ ((List Box))):=
sel (decide (s1.2 < (a0.length : Int))) ((nth a0 s1.2).bind fun x1 =>
(nth a0 s1.2).bind fun x2 =>
(app 8 [] x2.Items).bind fun r1 =>
(app 32 s1.1 [(Box.mk x1.Room r1)]).bind fun r2 =>
some (.inl (r2,w64 (s1.2 + 1)))) <|
some (.inr s1.1)
def fd (a0 : List Box) : Option ((List Box)):=
(bQ (dV a0) ([],0)).bind fun y1 =>
some y1
def kg (a0 : ah) : Option (ah):=
(app 8 [] a0.Regs).bind fun r1 =>
(app 8 [] a0.Mem).bind fun r2 =>
some (ah.mk r1 a0.Pc r2)
def gn (a0 : aH) (s1 : Int × (List ah)) : Option ((Int × (List ah)) ⊕ ((List ah))):=
sel (decide (s1.1 < (a0.Harts.length : Int))) ((nth a0.Harts s1.1).bind fun x1 =>
(kg (ah.mk x1.Regs x1.Pc x1.Mem)).bind fun y5 =>
(app 56 s1.2 [(ah.mk y5.Regs y5.Pc y5.Mem)]).bind fun r2 =>
some (.inl (w64 (s1.1 + 1),r2))) <|
some (.inr s1.2)
def kh (a0 : aH) : Option (aH):=
(fd a0.Boxes).bind fun y1 =>
(app 8 [] a0.Out).bind fun r1 =>
(bQ (gn a0) (0,[])).bind fun y2 =>
some (aH.mk y2 y1 a0.Turn a0.Idle r1)
def cH (a0 : ah) (a1 : Int) : Option (Bool):=
(nth a0.Regs 17).bind fun x1 =>
(sel (a0.Pc != 0) (some true) ((aB x1 1 5).bind fun y1=>some (!y1)) : Option (Bool)).bind fun b1 =>
sel b1 (some false) <|
(sel ((x1 != 1) && (x1 != 2)) (some true) ((nth a0.Regs 11).bind fun x2=>(aB x2 0 (w64 (a1 - 1))).bind fun y2=>some y2) : Option (Bool)).bind fun b2 =>
some b2
def hU (a0 : Box) (a1 : Int) : Option (Box × Bool):=
(fj (Box.mk a0.Room a0.Items)).bind fun y1 =>
(sel (!y1) (some true) ((cj a1).bind fun y2=>some (!y2)) : Option (Bool)).bind fun b1 =>
sel (b1 || (decide ((a0.Items.length : Int) ≥ a0.Room))) (some ((Box.mk 0 []),false)) <|
(app 8 [] a0.Items).bind fun r1 =>
(app 8 r1 [a1]).bind fun r2 =>
some ((Box.mk a0.Room r2),true)
def fY (a0 : Box) : Option (Box × Int × Bool):=
(fj (Box.mk a0.Room a0.Items)).bind fun y1 =>
sel ((!y1) || ((a0.Items.length : Int) == 0)) (some ((Box.mk 0 []),0,false)) <|
(cut a0.Items 1 (a0.Items.length : Int)).bind fun r1 =>
(nth a0.Items 0).bind fun x1 =>
(app 8 [] r1).bind fun r2 =>
some ((Box.mk a0.Room r2),x1,true)
def fZ (a0 : ah) (a1 : List Box) : Option (Int × (List Int) × Int × (List Box)):=
(nth a0.Regs 11).bind fun x1 =>
(nth a0.Regs 17).bind fun x2 =>
sel (x2 == 1) ((nth a1 x1).bind fun x3 =>
(nth a0.Regs 10).bind fun x5 =>
(hU (Box.mk x3.Room x3.Items) x5).bind fun y2 =>
sel (!y2.2) (some (3,a0.Regs,a0.Pc,a1)) <|
(nth a1 x1).bind fun x6 =>
(nth a0.Regs 1).bind fun x7 =>
some (1,a0.Regs,x7,(a1.set (Int.toNat x1) (Box.mk y2.1.Room y2.1.Items)))) <|
(nth a1 x1).bind fun x8 =>
(fY (Box.mk x8.Room x8.Items)).bind fun y3 =>
sel (!y3.2.2) (some (3,a0.Regs,a0.Pc,a1)) <|
(nth a0.Regs 10).bind fun x9 =>
(upd a0.Regs 10 y3.2.1).bind fun r1 =>
(nth r1 1).bind fun x10 =>
some (1,r1,x10,(a1.set (Int.toNat x1) (Box.mk y3.1.Room y3.1.Items)))
def dk (a0 : ah) (a1 : List Box) : Option ((List Int) × Int × (List Int) × Int × (List Box)):=
(nth a0.Regs 17).bind fun x1 =>
(sel (x1 == 1) (some (x1 == 1)) <|
some (x1 == 2) : Option (Bool)).bind fun y1 =>
sel y1 ((fZ (ah.mk a0.Regs a0.Pc a0.Mem) a1).bind fun y2 =>
some ([],y2.1,y2.2.1,y2.2.2.1,y2.2.2.2)) <|
sel (x1 == 5) (some ([],4,a0.Regs,a0.Pc,a1)) <|
(nth a0.Regs 1).bind fun x2 =>
(nth a0.Regs 17).bind fun x3 =>
sel (x3 == 4) ((nth a0.Regs 10).bind fun x4 =>
some ([x4],1,a0.Regs,x2,a1)) <|
some ([],2,a0.Regs,x2,a1)
def eh (a0 : List Int) (a1 : Int) : Option (Bool):=
some (((decide (a1 ≥ 0)) && ((Int.tmod a1 4) == 0)) && (decide ((w64 (Int.tdiv a1 4)) < (a0.length : Int))))
def jq (a0 : Int) (s1 : Int) : Option (Int ⊕ (Int ⊕ Unit)):=
sel (decide (s1 ≤ 11)) ((bb a0 12 3).bind fun y5 =>
(gw s1).bind fun y6 =>
(sel (y5 == y6) ((bb a0 25 7).bind fun y7=>(gx s1).bind fun y8=>some (y7 == y8)) (some false) : Option (Bool)).bind fun b1 =>
sel b1 (some (.inr (.inl s1))) <|
some (.inl (w64 (s1 + 1)))) <|
some (.inr (.inr ()))
def hY (a0 : Int) : Option (Int):=
(bb a0 0 7).bind fun y1 =>
sel (y1 == 51) ((bQ (jq a0) 1).bind fun y2 =>
fq y2 (fun o3=>some o3) (fun o4 =>
some 0)) <|
sel (y1 == 19) ((bb a0 12 3).bind fun y9 =>
sel (y9 == 0) (some 12) <|
some 13) <|
sel (y1 == 3) (some 14) <|
sel (y1 == 103) (some 15) <|
sel (y1 == 35) (some 16) <|
sel (y1 == 99) ((bb a0 12 3).bind fun y10 =>
sel (y10 == 0) (some 17) <|
some 18) <|
sel (y1 == 55) (some 19) <|
sel (y1 == 111) (some 20) <|
sel (y1 == 115) (some 21) <|
some 0
def a7 (a0 : Int) (a1 : Int) : Option (Instr):=
(bb a1 7 5).bind fun y1 =>
(bb a1 15 5).bind fun y2 =>
(bb a1 20 5).bind fun y3 =>
sel (decide (a0 ≤ 11)) (some (Instr.mk a0 y1 y2 y3 0)) <|
sel (decide (a0 ≤ 15)) ((bb a1 20 12).bind fun y4 =>
(cE y4 12).bind fun y5 =>
some (Instr.mk a0 y1 y2 0 y5)) <|
sel (a0 == 16) ((bb a1 25 7).bind fun y6 =>
(cE (w64 ((w64 (y6 * 32)) + y1)) 12).bind fun y7 =>
some (Instr.mk a0 0 y2 y3 y7)) <|
sel ((a0 == 17) || (a0 == 18)) ((bb a1 31 1).bind fun y8 =>
(bb a1 7 1).bind fun y9 =>
(bb a1 25 6).bind fun y10 =>
(bb a1 8 4).bind fun y11 =>
(cE (w64 ((w64 ((w64 ((w64 (y8 * 4096)) + (w64 (y9 * 2048)))) + (w64 (y10 * 32)))) + (w64 (y11 * 2)))) 13).bind fun y12 =>
some (Instr.mk a0 0 y2 y3 y12)) <|
sel (a0 == 19) ((bb a1 12 20).bind fun y13 =>
some (Instr.mk a0 y1 0 0 y13)) <|
sel (a0 == 20) ((bb a1 31 1).bind fun y14 =>
(bb a1 12 8).bind fun y15 =>
(bb a1 20 1).bind fun y16 =>
(bb a1 21 10).bind fun y17 =>
(cE (w64 ((w64 ((w64 ((w64 (y14 * 1048576)) + (w64 (y15 * 4096)))) + (w64 (y16 * 2048)))) + (w64 (y17 * 2)))) 21).bind fun y18 =>
some (Instr.mk a0 y1 0 0 y18)) <|
some (Instr.mk a0 0 0 0 0)
def cU (a0 : Int) : Option (Instr × Bool):=
(aB a0 0 4294967295).bind fun y1 =>
(sel (!y1) (some true) ((hY a0).bind fun y2=>some (y2 == 0)) : Option (Bool)).bind fun b1 =>
sel b1 (some ((Instr.mk 0 0 0 0 0),false)) <|
(hY a0).bind fun y3 =>
(a7 y3 a0).bind fun y4 =>
(bS y4).bind fun y5 =>
sel (y5 != a0) (some ((Instr.mk 0 0 0 0 0),false)) <|
some (y4,true)
def dv (a0 : ah) (a1 : Int) (a2 : Int) : Option ((List Int)):=
sel (a1 != 0) ((nth a0.Regs a1).bind fun x1 =>
(upd a0.Regs a1 a2).bind fun r1 =>
some r1) <|
some a0.Regs
def nq (a0 : ah) (a1 : Instr) : Option (Bool × (List Int) × Int × (List Int)):=
(nth a0.Regs a1.Rs).bind fun x1 =>
(bW (w64 (x1 + a1.Imm))).bind fun y1 =>
(eh a0.Mem y1).bind fun y2 =>
sel (!y2) (some (false,a0.Regs,a0.Pc,a0.Mem)) <|
(sel (a1.Op == 14) ((nth a0.Mem (w64 (Int.tdiv y1 4))).bind fun x2 =>
(dv (ah.mk a0.Regs a0.Pc a0.Mem) a1.Rd x2).bind fun y4 =>
some (y4,a0.Mem)) <|
(nth a0.Regs a1.Rt).bind fun x3 =>
(nth a0.Mem (w64 (Int.tdiv y1 4))).bind fun x4 =>
(upd a0.Mem (w64 (Int.tdiv y1 4)) x3).bind fun r1 =>
some (a0.Regs,r1) : Option ((List Int) × (List Int))).bind fun y3 =>
some (true,y3.1,w64 (a0.Pc + 4),y3.2)
def nr (a0 : ah) (a1 : Instr) : Option ((List Int) × Int):=
(bW (w64 (a0.Pc + 4))).bind fun y1 =>
(nth a0.Regs a1.Rs).bind fun x1 =>
(nth a0.Regs a1.Rt).bind fun x2 =>
sel (a1.Op == 15) ((nth a0.Regs a1.Rs).bind fun x3 =>
(bW (w64 (x3 + a1.Imm))).bind fun y2 =>
(dv (ah.mk a0.Regs a0.Pc a0.Mem) a1.Rd y1).bind fun y3 =>
some (y3,w64 (y2 - (aN .and .i64 y2 1)))) <|
sel (a1.Op == 20) ((dv (ah.mk a0.Regs a0.Pc a0.Mem) a1.Rd y1).bind fun y4 =>
(bW (w64 (a0.Pc + a1.Imm))).bind fun y5 =>
some (y4,y5)) <|
sel ((x1 == x2) == (a1.Op == 17)) ((bW (w64 (a0.Pc + a1.Imm))).bind fun y6 =>
some (a0.Regs,y6)) <|
some (a0.Regs,y1)
def mB (a0 : Int) (a1 : Int) (a2 : Int) : Option (Int):=
(nth [8,9,10,11,12,3,1,2,6,7,5] (w64 (a0 - 1))).bind fun x1 =>
(gQ x1 a1 a2).bind fun y1 =>
some y1.1
def cY (a0 : ah) (a1 : Instr) : Option (Bool × (List Int) × Int × (List Int)):=
(nth a0.Regs a1.Rs).bind fun x1 =>
((sel (a1.Op == 14) (some (a1.Op == 14)) <|
some (a1.Op == 16) : Option (Bool)).bind fun y2 =>
sel y2 ((nq (ah.mk a0.Regs a0.Pc a0.Mem) a1).bind fun y3 =>
some (.inr (y3.1,y3.2.1,y3.2.2.1,y3.2.2.2))) <|
(sel (a1.Op == 15) (some (a1.Op == 15)) <|
sel (a1.Op == 20) (some (a1.Op == 20)) <|
sel (a1.Op == 17) (some (a1.Op == 17)) <|
some (a1.Op == 18) : Option (Bool)).bind fun y4 =>
sel y4 ((nr (ah.mk a0.Regs a0.Pc a0.Mem) a1).bind fun y5 =>
some (.inr (true,y5.1,y5.2,a0.Mem))) <|
sel (a1.Op == 12) ((bW (w64 (x1 + a1.Imm))).bind fun y6 =>
(dv (ah.mk a0.Regs a0.Pc a0.Mem) a1.Rd y6).bind fun y7 =>
some (.inl y7)) <|
sel (a1.Op == 13) ((dc x1).bind fun y8 =>
(dc a1.Imm).bind fun y9 =>
(fS (decide (y8 < y9))).bind fun y10 =>
(dv (ah.mk a0.Regs a0.Pc a0.Mem) a1.Rd y10).bind fun y11 =>
some (.inl y11)) <|
sel (a1.Op == 19) ((bW (w64 (a1.Imm * 4096))).bind fun y12 =>
(dv (ah.mk a0.Regs a0.Pc a0.Mem) a1.Rd y12).bind fun y13 =>
some (.inl y13)) <|
(nth a0.Regs a1.Rt).bind fun x2 =>
(mB a1.Op x1 x2).bind fun y14 =>
(dv (ah.mk a0.Regs a0.Pc a0.Mem) a1.Rd y14).bind fun y15 =>
some (.inl y15) : Option (((List Int)) ⊕ (Bool × (List Int) × Int × (List Int)))).bind fun y1 =>
fq y1 (fun o3=>some (true,o3,w64 (a0.Pc + 4),a0.Mem)) (fun o4 =>
some o4)
def dQ (a0 : ah) : Option (Int × (List Int) × Int × (List Int)):=
(eh a0.Mem a0.Pc).bind fun y1 =>
sel (!y1) (some (3,a0.Regs,a0.Pc,a0.Mem)) <|
(nth a0.Mem (w64 (Int.tdiv a0.Pc 4))).bind fun x1 =>
(dc x1).bind fun y2 =>
(cU y2).bind fun y3 =>
sel (!y3.2) (some (3,a0.Regs,a0.Pc,a0.Mem)) <|
sel (y3.1.Op == 21) (some (2,a0.Regs,a0.Pc,a0.Mem)) <|
(cY (ah.mk a0.Regs a0.Pc a0.Mem) y3.1).bind fun y4 =>
sel (!y4.1) (some (3,y4.2.1,y4.2.2.1,y4.2.2.2)) <|
some (1,y4.2.1,y4.2.2.1,y4.2.2.2)
def eo (a0 : Int) (a1 : Int) (a2 : Int) (a3 : Int) : Option (Int × Int × Bool):=
(aB a0 1 3).bind fun y1 =>
(sel (!y1) (some true) ((aB a1 0 (w64 (a0 - 1))).bind fun y2=>some (!y2)) : Option (Bool)).bind fun b1 =>
(sel b1 (some true) ((aB a2 0 (w64 (a0 - 1))).bind fun y3=>some (!y3)) : Option (Bool)).bind fun b2 =>
sel b2 (some (0,0,false)) <|
sel (a3 == 1) (some (a1,0,true)) <|
sel (a3 == 2) ((mv (w64 (a1 + 1)) a0).bind fun d1 =>
some (d1,0,true)) <|
(sel (a3 == 3) (some (a3 == 3)) <|
some (a3 == 4) : Option (Bool)).bind fun y4 =>
sel y4 ((mv (w64 (a1 + 1)) a0).bind fun d2 =>
some (d2,w64 (a2 + 1),true)) <|
some (0,0,false)
def cB (a0 : aH) : Option (Bool × (List ah) × (List Box) × Int × Int × (List Int)):=
(nth a0.Harts a0.Turn).bind fun x1 =>
(sel (x1.Pc == 0) ((cH (ah.mk x1.Regs x1.Pc x1.Mem) (a0.Boxes.length : Int)).bind fun y2 =>
sel (!y2) (some (.inr (false,a0.Harts,a0.Boxes,a0.Turn,a0.Idle,a0.Out))) <|
(dk (ah.mk x1.Regs x1.Pc x1.Mem) a0.Boxes).bind fun y3 =>
(app 8 a0.Out y3.1).bind fun r1 =>
some (.inl (y3.2.1,r1,(a0.Harts.set (Int.toNat a0.Turn) (ah.mk y3.2.2.1 y3.2.2.2.1 x1.Mem)),y3.2.2.2.2))) <|
(dQ (ah.mk x1.Regs x1.Pc x1.Mem)).bind fun y4 =>
sel (y4.1 != 1) (some (.inr (false,(a0.Harts.set (Int.toNat a0.Turn) (ah.mk y4.2.1 y4.2.2.1 y4.2.2.2)),a0.Boxes,a0.Turn,a0.Idle,a0.Out))) <|
some (.inl (1,a0.Out,(a0.Harts.set (Int.toNat a0.Turn) (ah.mk y4.2.1 y4.2.2.1 y4.2.2.2)),a0.Boxes)) : Option ((Int × (List Int) × (List ah) × (List Box)) ⊕ (Bool × (List ah) × (List Box) × Int × Int × (List Int)))).bind fun y1 =>
fq y1 (fun o3=>(eo (o3.2.2.1.length : Int) a0.Turn a0.Idle o3.1).bind fun y5 =>
some (true,o3.2.2.1,o3.2.2.2,y5.1,y5.2.1,o3.2.1)) (fun o4 =>
some o4)
def ch (a1 : Int) (s1 : Int × (List ah) × (List Box) × Int × Int × (List Int)) : Option ((Int × (List ah) × (List Box) × Int × Int × (List Int)) ⊕ ((aH × Bool) ⊕ ((List ah) × (List Box) × Int × Int × (List Int)))):=
sel ((decide (s1.1 < a1)) && (decide (s1.2.2.2.2.1 < (s1.2.1.length : Int)))) ((cB (aH.mk s1.2.1 s1.2.2.1 s1.2.2.2.1 s1.2.2.2.2.1 s1.2.2.2.2.2)).bind fun y7 =>
sel (!y7.1) (some (.inr (.inl ((aH.mk [] [] 0 0 []),false)))) <|
some (.inl (w64 (s1.1 + 1),y7.2.1,y7.2.2.1,y7.2.2.2.1,y7.2.2.2.2.1,y7.2.2.2.2.2))) <|
some (.inr (.inr (s1.2.1,s1.2.2.1,s1.2.2.2.1,s1.2.2.2.2.1,s1.2.2.2.2.2)))
def dR (a0 : aH) (a1 : Int) : Option (aH × Bool):=
(jp (aH.mk a0.Harts a0.Boxes a0.Turn a0.Idle a0.Out)).bind fun y1 =>
(sel (!y1) (some true) ((aB a1 0 1000000).bind fun y2=>some (!y2)) : Option (Bool)).bind fun b1 =>
sel b1 (some ((aH.mk [] [] 0 0 []),false)) <|
(kh (aH.mk a0.Harts a0.Boxes a0.Turn a0.Idle a0.Out)).bind fun y3 =>
(bQ (ch a1) (0,y3.Harts,y3.Boxes,y3.Turn,y3.Idle,y3.Out)).bind fun y4 =>
fq y4 (fun o3=>some o3) (fun o4 =>
some ((aH.mk o4.1 o4.2.1 o4.2.2.1 o4.2.2.2.1 o4.2.2.2.2),true))
def jr (k : Nat) (a0 : aU) : Option (aH × Int):=
(jk k (aU.mk a0.b a0.p)).bind fun y1 =>
(ar (aU.mk a0.b y1.2) 2).bind fun y2 =>
(ar (aU.mk a0.b y2.2) 4).bind fun y3 =>
(jm [w64 (1 + y2.1),w64 (1 + y3.1)] y1.1).bind fun y4 =>
(ar (aU.mk a0.b y3.2) 100).bind fun y5 =>
(dR (aH.mk y4.1.Harts y4.1.Boxes y4.1.Turn y4.1.Idle y4.1.Out) y5.1).bind fun y6 =>
(ar (aU.mk a0.b y5.2) 30).bind fun y7 =>
sel (y7.1 == 0) (some ((aH.mk y6.1.Harts y6.1.Boxes 3 y6.1.Idle y6.1.Out),y7.2)) <|
sel (y7.1 == 1) ((nth y6.1.Harts 0).bind fun x1 =>
some ((aH.mk (y6.1.Harts.set (Int.toNat 0) (ah.mk x1.Regs 2 x1.Mem)) y6.1.Boxes y6.1.Turn y6.1.Idle y6.1.Out),y7.2)) <|
sel (y7.1 == 2) ((app 8 y6.1.Out [(-2147483649)]).bind fun r1 =>
some ((aH.mk y6.1.Harts y6.1.Boxes y6.1.Turn y6.1.Idle r1),y7.2)) <|
some ((aH.mk y6.1.Harts y6.1.Boxes y6.1.Turn y6.1.Idle y6.1.Out),y7.2)
def ff (k : Nat) (a0 : List Int) : Option (aH × Int):=
(lm a0).bind fun y1 =>
(jr k (aU.mk y1.b y1.p)).bind fun y2 =>
(ar (aU.mk y1.b y2.2) 30).bind fun y3 =>
sel (y3.1 == 0) ((ar (aU.mk y1.b y3.2) 2).bind fun y4 =>
(nth [(-1),1000001] y4.1).bind fun x1 =>
some ((aH.mk y2.1.Harts y2.1.Boxes y2.1.Turn y2.1.Idle y2.1.Out),x1)) <|
(ar (aU.mk y1.b y3.2) 150).bind fun y5 =>
some ((aH.mk y2.1.Harts y2.1.Boxes y2.1.Turn y2.1.Idle y2.1.Out),y5.1)
def hZ (a0 : List Int) (a1 : List Int) : Option (Bool):=
(sel (decide ((a1.length : Int) ≤ (a0.length : Int))) ((cut a0 0 (a1.length : Int)).bind fun r1=>(dN r1 a1).bind fun y1=>some y1) (some false) : Option (Bool)).bind fun b1 =>
some b1
def eA (y1 : aH × Int) (y2 : aH × Bool) (s1 : Int) : Option (Int ⊕ (Bool ⊕ Unit)):=
sel (decide (s1 < (y2.1.Boxes.length : Int))) ((nth y2.1.Boxes s1).bind fun x1 =>
(nth y1.1.Boxes s1).bind fun x2 =>
sel ((decide ((x1.Items.length : Int) > x1.Room)) || (x1.Room != x2.Room)) (some (.inr (.inl false))) <|
some (.inl (w64 (s1 + 1)))) <|
some (.inr (.inr ()))
def ju (k : Nat) (a0 : List Int) : Option (Bool):=
sel (decide ((a0.length : Int) > 1048576)) (some true) <|
(ff k a0).bind fun y1 =>
(gy (aH.mk y1.1.Harts y1.1.Boxes y1.1.Turn y1.1.Idle y1.1.Out) y1.2).bind fun y2 =>
(dR (aH.mk y1.1.Harts y1.1.Boxes y1.1.Turn y1.1.Idle y1.1.Out) y1.2).bind fun y3 =>
(sel (y2.2 != y3.2) (some true) ((dU (aH.mk y2.1.Harts y2.1.Boxes y2.1.Turn y2.1.Idle y2.1.Out) (aH.mk y3.1.Harts y3.1.Boxes y3.1.Turn y3.1.Idle y3.1.Out)).bind fun y4=>some (!y4)) : Option (Bool)).bind fun b1 =>
sel (b1 || (!y2.2)) ((sel (y2.2 == y3.2) ((dU (aH.mk y2.1.Harts y2.1.Boxes y2.1.Turn y2.1.Idle y2.1.Out) (aH.mk y3.1.Harts y3.1.Boxes y3.1.Turn y3.1.Idle y3.1.Out)).bind fun y5=>some y5) (some false) : Option (Bool)).bind fun b2 =>
some b2) <|
(bQ (eA y1 y2) 0).bind fun y6 =>
fq y6 (fun o3=>some o3) (fun o4 =>
(hZ y2.1.Out y1.1.Out).bind fun y9 =>
some (y9 && ((y2.1.Harts.length : Int) == (y1.1.Harts.length : Int))))
end
end Go.Proofs.YtcljimkjmklkmaaGreatDoor.N
namespace Go.Proofs.YtcljimkjmklkmaaGreatDoor.X
noncomputable section
variable {σ τ ρ ρ' α : Type}
theorem wF (x : Int) : w64 x = if 9223372036854775808 ≤ x % 18446744073709551616 then x % 18446744073709551616 - 18446744073709551616 else x % 18446744073709551616:=by
 show IntKind.wrap .i64 x = _
 simp [IntKind.wrap,IntKind.signed,IntKind.bits]
theorem aV {x : Int} (h1 : -9223372036854775808 ≤ x) (h2 : x ≤ 9223372036854775807) : w64 x = x:=by
 rw [wF]
 split <;> omega
theorem sT {f : σ → Option (σ ⊕ ρ)} (st : Nat → σ) (n : Nat) {r : ρ} (h : ∀ i,i < n → f (st i) = some (.inl (st (i + 1)))) (he : f (st n) = some (.inr r)) : bQ f (st 0) = some r:=by
 have key : ∀ m,m ≤ n → bQ f (st (n - m)) = some r:=by
  intro m
  induction m with
  | zero=>intro _; rw [cN]; simp [he]
  | succ m ih =>
   intro hm
   rw [cN,h (n - (m + 1)) (by omega)]
   have:=ih (by omega)
   rw [show n - m = n - (m + 1) + 1 by omega] at this
   exact this
 have:=key n (Nat.le_refl n)
 rwa [Nat.sub_self] at this
theorem vH {f : σ → Option (σ ⊕ ρ)} (I : σ → Prop) (μ : σ → Nat) (Q : ρ → Prop) (h : ∀ s,I s → (∃ s',f s = some (.inl s') ∧ I s' ∧ μ s' < μ s) ∨ (∃ r,f s = some (.inr r) ∧ Q r)) : ∀ {s : σ},I s → ∃ r,bQ f s = some r ∧ Q r:=by
 have key : ∀ n s,μ s ≤ n → I s → ∃ r,bQ f s = some r ∧ Q r:=by
  intro n
  induction n with
  | zero =>
   intro s hs hI
   rcases h s hI with ⟨s',_,_,h3⟩ | ⟨r,h1,h2⟩
   ·omega
   ·exact ⟨r,by rw [cN,h1],h2⟩
  | succ n ih =>
   intro s hs hI
   rcases h s hI with ⟨s',h1,h2,h3⟩ | ⟨r,h1,h2⟩
   ·obtain ⟨r,k1,k2⟩:=ih s' (by omega) h2
    exact ⟨r,by rw [cN,h1]; exact k1,k2⟩
   ·exact ⟨r,by rw [cN,h1],h2⟩
 exact fun {s} hI=>key _ s (Nat.le_refl _) hI
theorem cZ {l : List α} {i : Nat} (h : i < l.length) : nth l (i : Int) = some l[i]:=by
 unfold nth
 rw [if_neg (by omega)]
 simp [List.getElem?_eq_getElem h]
theorem tx {l : List α} {i : Nat} (h : i < l.length) (x : α) : upd l (i : Int) x = some (l.set i x):=by
 unfold upd
 rw [if_pos ⟨by omega,by omega⟩]
 simp
theorem ei {bytes : Nat} {l m : List α} (h : (l.length + m.length) * bytes ≤ 140737488355328) : app bytes l m = some (l ++ m):=by
 unfold app A3
 rw [Nat.ble_eq_true_of_le h]
theorem bD {α : Type} {b : Bool} (h : b = true) (x y : α) : sel b x y = x:=by subst h; rfl
theorem ao {α : Type} {b : Bool} (h : b = false) (x y : α) : sel b x y = y:=by subst h; rfl
theorem ac {α : Type} {b : Bool} {x y r : α} (h : b = false) (k : y = r) : sel b x y = r:=by subst h; exact k
theorem f0 {i : Nat} (h : i ≤ 9223372036854775806) : w64 ((i : Int) + 1) = ((i + 1 : Nat) : Int):=by rw [aV (by omega) (by omega)]; omega
def xt (mk : α → Int → Option (Int × α)) : List α → Int → Option (Int × List α)
 | [],k=>some (k,[])
 | x :: xs,k=>match mk x k with
  | some (k1,x')=>match xt mk xs k1 with
   | some (k2,xs')=>some (k2,x' :: xs')
   | none=>none
  | none=>none
def yN (hd : α → Int → Int → Prop) : List α → Int → Int → Prop
 | [],k,k'=>k' = k
 | x :: xs,k,k'=>∃ k1,hd x k k1 ∧ yN hd xs k1 k'
def MH (mk : α → Int → Option (Int × α)) (hd : α → Int → Int → Prop) (sz : α → Nat) : Prop:=
 ∀ x (k : Int),1 ≤ k → k + sz x ≤ 1000000000000 → ∃ x',mk x k = some (k + sz x,x') ∧ hd x' k (k + sz x)
def szs (sz : α → Nat) : List α → Nat
 | []=>0
 | x :: xs=>sz x + szs sz xs
theorem MH.list {mk : α → Int → Option (Int × α)} {hd : α → Int → Int → Prop} {sz : α → Nat} (h : MH mk hd sz) : ∀ (l : List α) (k : Int),1 ≤ k → k + szs sz l ≤ 1000000000000 → ∃ l',xt mk l k = some (k + szs sz l,l') ∧ yN hd l' k (k + szs sz l) ∧ l'.length = l.length
 | [],k,_,_=>⟨[],by simp [xt,szs],by simp [yN,szs],rfl⟩
 | x :: xs,k,h1,h2=>by
  simp only [szs] at h2
  obtain ⟨x',k1,k2⟩:=h x k h1 (by omega)
  obtain ⟨l',k3,k4,k5⟩:=MH.list h xs (k + sz x) (by omega) (by omega)
  refine ⟨x' :: l',?_,⟨_,k2,?_⟩,by simp [k5]⟩
  ·simp only [xt,k1,k3,szs]
   congr 2
   omega
  ·rw [show k + (szs sz (x :: xs) : Nat) = k + sz x + szs sz xs by simp only [szs]; omega]
   exact k4
end
noncomputable section
theorem pp {n : Nat} (h : n < 9223372036854775808) : IntKind.wrap .i64 (n : Int) = n:=by
 have:=aV (x:=(n : Int)) (by omega) (by omega)
 exact this
theorem mV {n : Nat} (h : n < 18446744073709551616) : (BitVec.ofInt 64 (n : Int)).toNat = n:=by
 simp only [BitVec.ofInt_natCast,BitVec.toNat_ofNat]
 exact Nat.mod_eq_of_lt h
theorem Ai {a b : Nat} (ha : a < 9223372036854775808) (hb : b < 9223372036854775808) : aN .and .i64 (a : Int) (b : Int) = ((a &&& b : Nat) : Int):=by
 show IntKind.wrap .i64 ((BitVec.ofInt 64 (a : Int) &&& BitVec.ofInt 64 (b : Int)).toNat : Int) = _
 rw [BitVec.toNat_and,mV (by omega),mV (by omega)]
 exact pp (Nat.lt_of_le_of_lt Nat.and_le_left ha)
theorem Bp {a b : Nat} (ha : a < 9223372036854775808) (hb : b < 9223372036854775808) : aN .or .i64 (a : Int) (b : Int) = ((a ||| b : Nat) : Int):=by
 show IntKind.wrap .i64 ((BitVec.ofInt 64 (a : Int) ||| BitVec.ofInt 64 (b : Int)).toNat : Int) = _
 rw [BitVec.toNat_or,mV (by omega),mV (by omega)]
 exact pp (Nat.or_lt_two_pow (n:=63) ha hb)
theorem tz {a k : Nat} (ha : a < 9223372036854775808) (hk : k ≤ 62) : aN .and .i64 (a : Int) (((2 ^ k : Nat) : Int) - 1) = ((a % 2 ^ k : Nat) : Int):=by
 have h1 : 2 ^ k ≤ 2 ^ 62:=Nat.pow_le_pow_right (by omega) hk
 have h2 : 0 < 2 ^ k:=Nat.two_pow_pos k
 have h3 : (2 : Nat) ^ 62 = 4611686018427387904:=by decide
 rw [show (((2 ^ k : Nat) : Int) - 1) = ((2 ^ k - 1 : Nat) : Int) by omega,Ai ha (by omega),Nat.and_two_pow_sub_one_eq_mod]
theorem d6 {i x y : Nat} (h : y < 2 ^ i) : 2 ^ i * x + y = 2 ^ i * x ||| y:=(Nat.two_pow_add_eq_or_of_lt h x)
theorem pV {x k : Nat} (hk : k ≤ 62) (hx : x * 2 ^ k < 9223372036854775808) : shO .shl .i64 (x : Int) (k : Int) = some ((x * 2 ^ k : Nat) : Int):=by
 unfold shO
 rw [if_neg (by omega)]
 have hm : min ((k : Int).toNat) (IntKind.bits .i64) = k:=by
  have : IntKind.bits .i64 = 64:=rfl
  rw [this]; omega
 simp only [hm]
 congr 1
 show w64 _ = _
 have : (x : Int) * 2 ^ k = ((x * 2 ^ k : Nat) : Int):=by simp
 rw [this]
 exact aV (by omega) (by omega)
theorem xv {x k : Nat} (hk : k ≤ 62) : shO .shr .i64 (x : Int) (k : Int) = some ((x / 2 ^ k : Nat) : Int):=by
 unfold shO
 rw [if_neg (by omega)]
 have hm : min ((k : Int).toNat) (IntKind.bits .i64) = k:=by
  have : IntKind.bits .i64 = 64:=rfl
  rw [this]; omega
 simp only [hm]
 congr 1
 rw [show ((2 : Int) ^ k) = ((2 ^ k : Nat) : Int) by simp,Int.fdiv_eq_ediv_of_nonneg _ (Int.natCast_nonneg _)]
 rfl
end
end Go.Proofs.YtcljimkjmklkmaaGreatDoor.X
namespace Go.Proofs.YtcljimkjmklkmaaGreatDoor.N
open Go.Proofs.YtcljimkjmklkmaaGreatDoor.X
noncomputable section
theorem dA (b c : Bool) : sel b (some c) (some false) = some (b && c):=by cases b <;> rfl
theorem tA (k : Nat) (hk : k ≤ 62) : cA (k : Int) = some ((2 ^ k : Nat) : Int):=by
 unfold cA
 have h63 : ∀ i,i ≤ 62 → 2 ^ i ≤ 4611686018427387904:=fun i hi=>Nat.pow_le_pow_right (by omega : 0 < 2) hi
 have:=sT (f:=eI (k : Int)) (fun i=>(((2 ^ i : Nat) : Int),(i : Int))) k (r:=((2 ^ k : Nat) : Int)) (fun i hi=>by
  unfold eI
  have h1:=h63 (i + 1) (by omega)
  rw [bD (by simpa using hi),f0 (by omega)]
  rw [Nat.pow_succ] at h1 ⊢
  generalize 2 ^ i = x at h1 ⊢
  rw [aV (by omega) (by omega)]
  simp) (by
  unfold eI
  rw [ao (by simp)])
 rw [show ((2 ^ 0 : Nat) : Int) = 1 from rfl,show ((0 : Nat) : Int) = 0 from rfl] at this
 rw [this]
 rfl
theorem eH (n k : Nat) (hk : k ≤ 62) (hn : n * 2 ^ k < 9223372036854775808) : bp (n : Int) (k : Int) = some ((n * 2 ^ k : Nat) : Int):=by
 unfold bp
 rw [tA k hk]
 simp only [ob9]
 rw [show (n : Int) * ((2 ^ k : Nat) : Int) = ((n * 2 ^ k : Nat) : Int) by simp,aV (by omega) (by omega)]
theorem aF (u low many : Nat) (hu : u < 4294967296) (hl : low ≤ 31) (hm : 1 ≤ many) (hm2 : many + low ≤ 32) : bb (u : Int) (low : Int) (many : Int) = some ((u / 2 ^ low % 2 ^ many : Nat) : Int):=by
 unfold bb aB
 simp only [ob9]
 have w1 : w64 (32 - (low : Int)) = 32 - low:=aV (by omega) (by omega)
 have e1 : (decide ((u : Int) ≥ 0) && decide ((u : Int) ≤ 4294967295)) = true:=by simp; omega
 have e2 : (decide ((low : Int) ≥ 0) && decide ((low : Int) ≤ 31)) = true:=by simp; omega
 have e3 : (decide ((many : Int) ≥ 1) && decide ((many : Int) ≤ 32 - (low : Int))) = true:=by simp; omega
 rw [e1,e2,w1,e3]
 simp only [Bool.not_true,sel,ob9]
 rw [tA low (by omega),tA many (by omega)]
 simp only [ob9]
 have p1:=Nat.two_pow_pos low
 have p2:=Nat.two_pow_pos many
 unfold pR mv
 rw [if_neg (by omega)]
 simp only [ob9]
 rw [if_neg (by omega)]
 simp only [ob9]
 congr 1
 have q1 : Int.tdiv (u : Int) ((2 ^ low : Nat) : Int) = ((u / 2 ^ low : Nat) : Int):=rfl
 have hle : u / 2 ^ low ≤ u:=Nat.div_le_self _ _
 rw [q1]
 generalize u / 2 ^ low = q at hle ⊢
 show Int.tmod (w64 _) _ = _
 rw [aV (by omega) (by omega)]
 rfl
theorem ib1 (u low many : Nat) (hu : u < 4294967296) (hl : low ≤ 31) (hm : 1 ≤ many) (hm2 : many + low ≤ 32) : (shO .shr .i64 (u : Int) (low : Int)).bind (fun d1 =>
   (shO .shl .i64 1 (many : Int)).bind fun d2=>some (aN .and .i64 d1 (w64 (d2 - 1)))) =
  some ((u / 2 ^ low % 2 ^ many : Nat) : Int):=by
 have hp : 2 ^ many ≤ 2 ^ 32:=Nat.pow_le_pow_right (by omega) (by omega)
 have h3 : (2 : Nat) ^ 32 = 4294967296:=by decide
 rw [h3] at hp
 have h1 : shO .shl .i64 ((1 : Nat) : Int) (many : Int) = _:=pV (x:=1) (k:=many) (by omega) (by omega)
 rw [Nat.one_mul] at h1
 have hle : u / 2 ^ low ≤ u:=Nat.div_le_self _ _
 have h4:=Nat.two_pow_pos many
 have hX : ∀ X : Nat,0 < X → X ≤ 4294967296 → w64 ((X : Int) - 1) = (X : Int) - 1:=fun X h1 h2=>aV (by omega) (by omega)
 refine aa (xv (x:=u) (k:=low) (by omega)) ?_
 refine aa h1 ?_
 rw [hX _ h4 hp]
 congr 1
 exact tz (by omega) (by omega)
theorem bE (u low many : Nat) (hu : u < 4294967296) (hl : low ≤ 31) (hm : 1 ≤ many) (hm2 : many + low ≤ 32) : bL (u : Int) (low : Int) (many : Int) = some ((u / 2 ^ low % 2 ^ many : Nat) : Int):=by
 have w1 : w64 (32 - (low : Int)) = 32 - low:=aV (by omega) (by omega)
 have e1 : (decide ((u : Int) ≥ 0) && decide ((u : Int) < 4294967296)) = true:=by rw [decide_eq_true (by omega),decide_eq_true (by omega)]; rfl
 have e2 : decide ((low : Int) < 0) = false:=decide_eq_false (by omega)
 have e3 : decide ((low : Int) > 31) = false:=decide_eq_false (by omega)
 have e4 : decide ((many : Int) < 1) = false:=decide_eq_false (by omega)
 have e5 : decide ((many : Int) > 32 - (low : Int)) = false:=decide_eq_false (by omega)
 unfold bL dY
 rw [e1,w1,e2,e3,e4,e5]
 exact ib1 u low many hu hl hm hm2
theorem jv (u low many place : Nat) (hu : u < 4294967296) (hl : low ≤ 31) (hm : 1 ≤ many) (hm2 : many + low ≤ 32) (hp : place + many ≤ 32) : aE (low : Int) (many : Int) (place : Int) (u : Int) = some ((u / 2 ^ low % 2 ^ many * 2 ^ place : Nat) : Int):=by
 unfold aE
 rw [bE u low many hu hl hm hm2]
 simp only [ob9]
 have h1 : u / 2 ^ low % 2 ^ many < 2 ^ many:=Nat.mod_lt _ (Nat.two_pow_pos _)
 have h2 : u / 2 ^ low % 2 ^ many * 2 ^ place < 2 ^ many * 2 ^ place:=(Nat.mul_lt_mul_right (Nat.two_pow_pos _)).2 h1
 rw [← Nat.pow_add] at h2
 have h3 : 2 ^ (many + place) ≤ 2 ^ 32:=Nat.pow_le_pow_right (by omega) (by omega)
 have h4 : (2 : Nat) ^ 32 = 4294967296:=by decide
 rw [pV (by omega) (by omega)]
 rfl
theorem vI {op : Int} (h : 1 ≤ op ∧ op ≤ 11) : bO op = some 82:=by unfold bO; rw [bD (by simp; omega)]
theorem vJ {op : Int} (h : 12 ≤ op ∧ op ≤ 15) : bO op = some 73:=by unfold bO; rw [ao (by simp; omega),bD (by simp; omega)]
theorem uX {op : Int} (h : op = 16) : bO op = some 83:=by subst h; rfl
theorem vK {op : Int} (h : op = 17 ∨ op = 18) : bO op = some 66:=by rcases h with rfl | rfl <;> rfl
theorem wG {op : Int} (h : op = 19) : bO op = some 85:=by subst h; rfl
theorem wH {op : Int} (h : op = 20) : bO op = some 74:=by subst h; rfl
theorem yO {op : Int} (h : op = 21) : bO op = some 69:=by subst h; rfl
theorem B2 {op : Int} (h : op < 1 ∨ 21 < op) : bO op = some 32:=by
 unfold bO
 rw [ao (by simp; omega),ao (by simp; omega),ao (by simp; omega),ao (by simp; omega),ao (by simp; omega),ao (by simp; omega),ao (by simp; omega)]
theorem vL (op : Int) : (1 ≤ op ∧ op ≤ 11) ∨ (12 ≤ op ∧ op ≤ 15) ∨ op = 16 ∨ (op = 17 ∨ op = 18) ∨ op = 19 ∨ op = 20 ∨ op = 21 ∨ (op < 1 ∨ 21 < op):=by omega
end
noncomputable section
theorem tab (k : Nat) (h : k < 21) : ∃ (x : ll) (f3 f7 opc : Nat),nth kB (k : Int) = some x ∧ x.funct3 = f3 ∧ x.funct7 = f7 ∧ x.opcode = opc ∧ f3 < 8 ∧ f7 < 128 ∧ opc < 128 ∧ nth [0,0,0,4,6,7,6,4,1,5,2,0,3,2,0,2,0,1,0,0,0] (k : Int) = some (f3 : Int) ∧
  (k < 11 → nth [0,32,1,1,1,0,0,0,0,32,0] (k : Int) = some (f7 : Int) ∧ opc = 51) ∧ (k = 11 ∨ k = 12 → opc = 19) ∧ (k = 13 → opc = 3) ∧ (k = 14 → opc = 103) ∧ (k = 15 → opc = 35) ∧ (k = 16 ∨ k = 17 → opc = 99) ∧ (k = 18 → opc = 55) ∧ (k = 19 → opc = 111) ∧ (k = 20 → opc = 115):=by
 have h' : k = 0 ∨ k = 1 ∨ k = 2 ∨ k = 3 ∨ k = 4 ∨ k = 5 ∨ k = 6 ∨ k = 7 ∨ k = 8 ∨ k = 9 ∨ k = 10 ∨ k = 11 ∨ k = 12 ∨ k = 13 ∨ k = 14 ∨ k = 15 ∨ k = 16 ∨ k = 17 ∨ k = 18 ∨ k = 19 ∨ k = 20:=by omega
 rcases h' with rfl | rfl | rfl | rfl | rfl | rfl | rfl | rfl | rfl | rfl | rfl | rfl | rfl | rfl | rfl | rfl | rfl | rfl | rfl | rfl | rfl
 ·exact ⟨_,0,0,51,rfl,rfl,rfl,rfl,by decide,by decide,by decide,rfl,fun h=>⟨rfl,rfl⟩,by decide,by decide,by decide,by decide,by decide,by decide,by decide,by decide⟩
 ·exact ⟨_,0,32,51,rfl,rfl,rfl,rfl,by decide,by decide,by decide,rfl,fun h=>⟨rfl,rfl⟩,by decide,by decide,by decide,by decide,by decide,by decide,by decide,by decide⟩
 ·exact ⟨_,0,1,51,rfl,rfl,rfl,rfl,by decide,by decide,by decide,rfl,fun h=>⟨rfl,rfl⟩,by decide,by decide,by decide,by decide,by decide,by decide,by decide,by decide⟩
 ·exact ⟨_,4,1,51,rfl,rfl,rfl,rfl,by decide,by decide,by decide,rfl,fun h=>⟨rfl,rfl⟩,by decide,by decide,by decide,by decide,by decide,by decide,by decide,by decide⟩
 ·exact ⟨_,6,1,51,rfl,rfl,rfl,rfl,by decide,by decide,by decide,rfl,fun h=>⟨rfl,rfl⟩,by decide,by decide,by decide,by decide,by decide,by decide,by decide,by decide⟩
 ·exact ⟨_,7,0,51,rfl,rfl,rfl,rfl,by decide,by decide,by decide,rfl,fun h=>⟨rfl,rfl⟩,by decide,by decide,by decide,by decide,by decide,by decide,by decide,by decide⟩
 ·exact ⟨_,6,0,51,rfl,rfl,rfl,rfl,by decide,by decide,by decide,rfl,fun h=>⟨rfl,rfl⟩,by decide,by decide,by decide,by decide,by decide,by decide,by decide,by decide⟩
 ·exact ⟨_,4,0,51,rfl,rfl,rfl,rfl,by decide,by decide,by decide,rfl,fun h=>⟨rfl,rfl⟩,by decide,by decide,by decide,by decide,by decide,by decide,by decide,by decide⟩
 ·exact ⟨_,1,0,51,rfl,rfl,rfl,rfl,by decide,by decide,by decide,rfl,fun h=>⟨rfl,rfl⟩,by decide,by decide,by decide,by decide,by decide,by decide,by decide,by decide⟩
 ·exact ⟨_,5,32,51,rfl,rfl,rfl,rfl,by decide,by decide,by decide,rfl,fun h=>⟨rfl,rfl⟩,by decide,by decide,by decide,by decide,by decide,by decide,by decide,by decide⟩
 ·exact ⟨_,2,0,51,rfl,rfl,rfl,rfl,by decide,by decide,by decide,rfl,fun h=>⟨rfl,rfl⟩,by decide,by decide,by decide,by decide,by decide,by decide,by decide,by decide⟩
 ·exact ⟨_,0,0,19,rfl,rfl,rfl,rfl,by decide,by decide,by decide,rfl,fun h=>absurd h (by decide),by decide,by decide,by decide,by decide,by decide,by decide,by decide,by decide⟩
 ·exact ⟨_,3,0,19,rfl,rfl,rfl,rfl,by decide,by decide,by decide,rfl,fun h=>absurd h (by decide),by decide,by decide,by decide,by decide,by decide,by decide,by decide,by decide⟩
 ·exact ⟨_,2,0,3,rfl,rfl,rfl,rfl,by decide,by decide,by decide,rfl,fun h=>absurd h (by decide),by decide,by decide,by decide,by decide,by decide,by decide,by decide,by decide⟩
 ·exact ⟨_,0,0,103,rfl,rfl,rfl,rfl,by decide,by decide,by decide,rfl,fun h=>absurd h (by decide),by decide,by decide,by decide,by decide,by decide,by decide,by decide,by decide⟩
 ·exact ⟨_,2,0,35,rfl,rfl,rfl,rfl,by decide,by decide,by decide,rfl,fun h=>absurd h (by decide),by decide,by decide,by decide,by decide,by decide,by decide,by decide,by decide⟩
 ·exact ⟨_,0,0,99,rfl,rfl,rfl,rfl,by decide,by decide,by decide,rfl,fun h=>absurd h (by decide),by decide,by decide,by decide,by decide,by decide,by decide,by decide,by decide⟩
 ·exact ⟨_,1,0,99,rfl,rfl,rfl,rfl,by decide,by decide,by decide,rfl,fun h=>absurd h (by decide),by decide,by decide,by decide,by decide,by decide,by decide,by decide,by decide⟩
 ·exact ⟨_,0,0,55,rfl,rfl,rfl,rfl,by decide,by decide,by decide,rfl,fun h=>absurd h (by decide),by decide,by decide,by decide,by decide,by decide,by decide,by decide,by decide⟩
 ·exact ⟨_,0,0,111,rfl,rfl,rfl,rfl,by decide,by decide,by decide,rfl,fun h=>absurd h (by decide),by decide,by decide,by decide,by decide,by decide,by decide,by decide,by decide⟩
 ·exact ⟨_,0,0,115,rfl,rfl,rfl,rfl,by decide,by decide,by decide,rfl,fun h=>absurd h (by decide),by decide,by decide,by decide,by decide,by decide,by decide,by decide,by decide⟩
theorem gB {n k : Nat} (h : n * 2 ^ k < 9223372036854775808) : w64 ((n : Int) * 2 ^ k) = ((n * 2 ^ k : Nat) : Int):=by
 have : (n : Int) * 2 ^ k = ((n * 2 ^ k : Nat) : Int):=by simp
 rw [this]
 exact aV (by omega) (by omega)
theorem ki {x : Int} (h1 : -2147483648 ≤ x) (h2 : x ≤ 2147483647) : ∃ u : Nat,u < 4294967296 ∧ (u : Int) = x % 4294967296 ∧ cl x = some (u : Int) ∧ dc x = some (u : Int):=by
 refine ⟨(x % 4294967296).toNat,by omega,by omega,?_,?_⟩
 ·unfold cl de
  have e1 : (decide (x ≥ -2147483648) && decide (x ≤ 2147483647)) = true:=by rw [decide_eq_true (by omega),decide_eq_true (by omega)]; rfl
  rw [e1]
  simp only [ob9,Bool.not_true,sel]
  have e2 : jL .u32 x = x % 4294967296:=by
   show IntKind.wrap .u32 x = _
   simp [IntKind.wrap,IntKind.signed,IntKind.bits]
  rw [e2,aV (by omega) (by omega)]
  congr 1
  omega
 ·unfold dc cj aB
  have e1 : (decide (x ≥ -2147483648) && decide (x ≤ 2147483647)) = true:=by rw [decide_eq_true (by omega),decide_eq_true (by omega)]; rfl
  rw [e1]
  simp only [ob9,Bool.not_true]
  rw [ao rfl]
  by_cases h : x < 0
  ·rw [bD (by simpa using h),aV (by omega) (by omega)]
   congr 1
   omega
  ·rw [ao (by simpa using h)]
   congr 1
   omega
theorem uY {x : Int} {p : Nat} (h1 : -(p : Int) ≤ x) (h2 : x < p) (h3 : p ≤ 4294967296) : ∃ m : Nat,m < p ∧ (m : Int) = x % p ∧ fU x p = some (m : Int):=by
 have hp : 0 < (p : Int):=by omega
 unfold fU
 by_cases h : x < 0
 ·refine ⟨(x + p).toNat,by omega,?_,?_⟩
  ·rw [Int.toNat_of_nonneg (by omega),← Int.add_emod_right,Int.emod_eq_of_lt (by omega) (by omega)]
  ·rw [bD (by simpa using h),aV (by omega) (by omega),Int.toNat_of_nonneg (by omega)]
 ·refine ⟨x.toNat,by omega,?_,?_⟩
  ·rw [Int.toNat_of_nonneg (by omega),Int.emod_eq_of_lt (by omega) (by omega)]
  ·rw [ao (by simpa using h),Int.toNat_of_nonneg (by omega)]
theorem B3 {f7 rt rs f3 opc rd : Nat} (h1 : opc < 128) (h2 : rd < 32) (h3 : f3 < 8) (h4 : rs < 32) (h5 : rt < 32) :
  ((f7 * 2 ^ 25 ||| (rt * 2 ^ 20 ||| rs * 2 ^ 15 ||| f3 * 2 ^ 12 ||| opc)) ||| rd * 2 ^ 7) = f7 * 2 ^ 25 + rt * 2 ^ 20 + (rs * 2 ^ 15 + f3 * 2 ^ 12 + opc) + rd * 2 ^ 7:=by
 have e : f7 * 2 ^ 25 + rt * 2 ^ 20 + (rs * 2 ^ 15 + f3 * 2 ^ 12 + opc) + rd * 2 ^ 7 = 2 ^ 25 * f7 + (2 ^ 20 * rt + (2 ^ 15 * rs + (2 ^ 12 * f3 + (2 ^ 7 * rd + opc)))):=by omega
 rw [e,d6 (i:=25) (by omega),d6 (i:=20) (by omega),d6 (i:=15) (by omega),d6 (i:=12) (by omega),d6 (i:=7) (by omega)]
 simp only [Nat.mul_comm _ (2 ^ 25),Nat.mul_comm _ (2 ^ 20),Nat.mul_comm _ (2 ^ 15),Nat.mul_comm _ (2 ^ 12),Nat.mul_comm _ (2 ^ 7)]
 ac_rfl
end
noncomputable section
def IOk (x : Instr) : Prop:=(0 ≤ x.Rd ∧ x.Rd ≤ 31) ∧ (0 ≤ x.Rs ∧ x.Rs ≤ 31) ∧ (0 ≤ x.Rt ∧ x.Rt ≤ 31) ∧
  ((1 ≤ x.Op ∧ x.Op ≤ 11 ∧ x.Imm = 0) ∨ (12 ≤ x.Op ∧ x.Op ≤ 15 ∧ x.Rt = 0 ∧ -2048 ≤ x.Imm ∧ x.Imm ≤ 2047) ∨ (x.Op = 16 ∧ x.Rd = 0 ∧ -2048 ≤ x.Imm ∧ x.Imm ≤ 2047) ∨
   ((x.Op = 17 ∨ x.Op = 18) ∧ x.Rd = 0 ∧ -4096 ≤ x.Imm ∧ x.Imm ≤ 4094 ∧ x.Imm % 2 = 0) ∨ (x.Op = 19 ∧ x.Rs = 0 ∧ x.Rt = 0 ∧ 0 ≤ x.Imm ∧ x.Imm ≤ 1048575) ∨
   (x.Op = 20 ∧ x.Rs = 0 ∧ x.Rt = 0 ∧ -1048576 ≤ x.Imm ∧ x.Imm ≤ 1048574 ∧ x.Imm % 2 = 0) ∨ (x.Op = 21 ∧ x.Rd = 0 ∧ x.Rs = 0 ∧ x.Rt = 0 ∧ x.Imm = 0))
instance (x : Instr) : Decidable (IOk x):=by unfold IOk; infer_instance
theorem cf {α : Type} {b : Bool} {x y r : α} (h : b = true) (k : x = r) : sel b x y = r:=by subst h; exact k
def sx (v n : Nat) : Int:=bif Nat.ble (2 ^ (n - 1)) v then (v : Int) - ((2 ^ n : Nat) : Int) else v
theorem xw {v n : Nat} (hn : 1 ≤ n) (hv : v < 2 ^ n) : -((2 ^ (n - 1) : Nat) : Int) ≤ sx v n ∧ sx v n < ((2 ^ (n - 1) : Nat) : Int):=by
 unfold sx
 have h2 : 2 ^ n = 2 * 2 ^ (n - 1):=by rw [← Nat.pow_succ']; congr 1; omega
 rw [h2] at hv ⊢
 generalize 2 ^ (n - 1) = p at hv ⊢
 cases hb : Nat.ble p v with
 | true =>
  have:=Nat.le_of_ble_eq_true hb
  simp only [cond_true]
  omega
 | false =>
  have : ¬ p ≤ v:=fun h=>by rw [Nat.ble_eq_true_of_le h] at hb; cases hb
  simp only [cond_false]
  omega
theorem A4 (m n : Nat) (hn : 1 ≤ n) : ∃ q : Int,sx (2 * m) n = 2 * q:=by
 unfold sx
 rw [show 2 ^ n = 2 * 2 ^ (n - 1) by rw [← Nat.pow_succ']; congr 1; omega]
 generalize 2 ^ (n - 1) = p
 cases Nat.ble p (2 * m)
 ·exact ⟨m,by simp only [cond_false]; omega⟩
 ·exact ⟨m - p,by simp only [cond_true]; omega⟩
theorem xy (p v : Nat) : decide ((v : Int) ≥ (p : Int)) = Nat.ble p v:=by
 rw [Bool.eq_iff_iff]
 simp only [decide_eq_true_eq,Nat.ble_eq]
 omega
theorem nY (v n : Nat) (h1 : 1 ≤ n) (h2 : n ≤ 31) (hv : v < 2 ^ n) : cE (v : Int) (n : Int) = some (sx v n):=by
 have hp : 2 ^ n ≤ 2 ^ 31:=Nat.pow_le_pow_right (by omega) h2
 have h3 : (2 : Nat) ^ 31 = 2147483648:=by decide
 rw [h3] at hp
 have q1 : cA (w64 ((n : Int) - 1)) = some ((2 ^ (n - 1) : Nat) : Int):=by
  rw [aV (by omega) (by omega),show (n : Int) - 1 = ((n - 1 : Nat) : Int) by omega]
  exact tA (n - 1) (by omega)
 have q2:=tA n (by omega)
 have hb : Nat.ble (2 ^ (n - 1)) v = Nat.ble (2 ^ (n - 1)) v:=rfl
 unfold cE sx aB
 generalize 2 ^ n = N at q2 hv hp ⊢
 generalize 2 ^ (n - 1) = M at q1 ⊢
 have e1 : (decide ((n : Int) ≥ 1) && decide ((n : Int) ≤ 32)) = true:=by rw [decide_eq_true (by omega),decide_eq_true (by omega)]; rfl
 have e2 : (decide ((v : Int) ≥ 0) && decide ((v : Int) ≤ (w64 ((N : Int) - 1)))) = true:=by rw [aV (by omega) (by omega),decide_eq_true (by omega),decide_eq_true (by omega)]; rfl
 refine aa (congrArg some e1) (aa (y:=false) ?_ ?_)
 ·refine ac rfl (aa q2 ?_)
  rw [e2]
  rfl
 ·refine ac rfl (aa q1 ?_)
  rw [xy]
  cases Nat.ble M v
  ·rfl
  ·refine cf rfl (aa q2 ?_)
   rw [aV (by omega) (by omega)]
   rfl
theorem dm {r a b m p q : Nat} (h : r = (a * q + m) * p + b) (hb : b < p) (hm : m < q) : r / p % q = m:=by
 subst h
 rw [Nat.add_comm,Nat.add_mul_div_right _ _ (by omega),Nat.div_eq_of_lt hb,Nat.zero_add,Nat.add_comm,Nat.add_mul_mod_self_right,Nat.mod_eq_of_lt hm]
theorem oB {i : Nat} (h : i < 21) : i = 0 ∨ i = 1 ∨ i = 2 ∨ i = 3 ∨ i = 4 ∨ i = 5 ∨ i = 6 ∨ i = 7 ∨ i = 8 ∨ i = 9 ∨ i = 10 ∨ i = 11 ∨ i = 12 ∨ i = 13 ∨ i = 14 ∨ i = 15 ∨ i = 16 ∨ i = 17 ∨ i = 18 ∨ i = 19 ∨ i = 20:=by omega
def t3 (i : Nat) : Nat:=[0,0,0,4,6,7,6,4,1,5,2,0,3,2,0,2,0,1,0,0,0].getD i 0
def t7 (i : Nat) : Nat:=[0,32,1,1,1,0,0,0,0,32,0].getD i 0
def tO (i : Nat) : Nat:=[51,51,51,51,51,51,51,51,51,51,51,19,19,3,103,35,99,99,55,111,115].getD i 0
theorem xz {k f : Nat} (hk : k < 21) (h : nth [0,0,0,4,6,7,6,4,1,5,2,0,3,2,0,2,0,1,0,0,0] (k : Int) = some (f : Int)) : f = t3 k:=by
 rcases oB hk with rfl | rfl | rfl | rfl | rfl | rfl | rfl | rfl | rfl | rfl | rfl | rfl | rfl | rfl | rfl | rfl | rfl | rfl | rfl | rfl | rfl
 all_goals (have k':=o9 h; simp only [t3]; exact (Int.ofNat.inj k').symm)
theorem B4 {k f : Nat} (hk : k < 11) (h : nth [0,32,1,1,1,0,0,0,0,32,0] (k : Int) = some (f : Int)) : f = t7 k:=by
 rcases (by omega : k = 0 ∨ k = 1 ∨ k = 2 ∨ k = 3 ∨ k = 4 ∨ k = 5 ∨ k = 6 ∨ k = 7 ∨ k = 8 ∨ k = 9 ∨ k = 10) with rfl | rfl | rfl | rfl | rfl | rfl | rfl | rfl | rfl | rfl | rfl
 all_goals (have k':=o9 h; simp only [t7]; exact (Int.ofNat.inj k').symm)
theorem Ct {k : Nat} (hk : k < 11) : tO k = 51:=by
 rcases (by omega : k = 0 ∨ k = 1 ∨ k = 2 ∨ k = 3 ∨ k = 4 ∨ k = 5 ∨ k = 6 ∨ k = 7 ∨ k = 8 ∨ k = 9 ∨ k = 10) with rfl | rfl | rfl | rfl | rfl | rfl | rfl | rfl | rfl | rfl | rfl <;> rfl
theorem B5 {imm : Int} {m : Nat} (hb : -2048 ≤ imm ∧ imm ≤ 2047) (hm : (m : Int) = imm % 4096) : sx m 12 = imm:=by
 unfold sx
 rw [show ((2 ^ 12 : Nat) : Int) = 4096 from rfl,show (2 ^ (12 - 1) : Nat) = 2048 from rfl]
 cases h : Nat.ble 2048 m
 ·have h' : ¬ 2048 ≤ m:=fun hh=>by rw [Nat.ble_eq_true_of_le hh] at h; cases h
  simp only [cond_false]; omega
 ·have h':=Nat.le_of_ble_eq_true h
  simp only [cond_true]; omega
theorem Cu {imm : Int} {m : Nat} (hb : -4096 ≤ imm ∧ imm ≤ 4095) (hm : (m : Int) = imm % 8192) : sx m 13 = imm:=by
 unfold sx
 rw [show ((2 ^ 13 : Nat) : Int) = 8192 from rfl,show (2 ^ (13 - 1) : Nat) = 4096 from rfl]
 cases h : Nat.ble 4096 m
 ·have h' : ¬ 4096 ≤ m:=fun hh=>by rw [Nat.ble_eq_true_of_le hh] at h; cases h
  simp only [cond_false]; omega
 ·have h':=Nat.le_of_ble_eq_true h
  simp only [cond_true]; omega
theorem Cv {imm : Int} {m : Nat} (hb : -1048576 ≤ imm ∧ imm ≤ 1048575) (hm : (m : Int) = imm % 2097152) : sx m 21 = imm:=by
 unfold sx
 rw [show ((2 ^ 21 : Nat) : Int) = 2097152 from congrArg (fun n : Nat=>(n : Int)) (show (2 ^ 21 : Nat) = 2097152 from rfl),show (2 ^ (21 - 1) : Nat) = 1048576 from rfl]
 cases h : Nat.ble 1048576 m
 ·have h' : ¬ 1048576 ≤ m:=fun hh=>by rw [Nat.ble_eq_true_of_le hh] at h; cases h
  simp only [cond_false]; omega
 ·have h':=Nat.le_of_ble_eq_true h
  simp only [cond_true]; omega
def Fl (i : Instr) (r : Nat) : Prop:=∃ k : Nat,k < 21 ∧ i.Op = (k : Int) + 1 ∧ r % 128 = tO k ∧ (k < 18 → r / 4096 % 8 = t3 k) ∧ (k < 11 → r / 33554432 % 128 = t7 k) ∧ a7 i.Op (r : Int) = some i
theorem Cw {k d s t f3 f7 : Nat} (hk : k < 11) (hd : d < 32) (hs : s < 32) (ht : t < 32) (h3 : f3 = t3 k) (h3' : f3 < 8) (h7 : f7 = t7 k) (h7' : f7 < 128) : Fl ⟨(k : Int) + 1,d,s,t,0⟩ (f7 * 2 ^ 25 + t * 2 ^ 20 + (s * 2 ^ 15 + f3 * 2 ^ 12 + 51) + d * 2 ^ 7):=by
 generalize hr : f7 * 2 ^ 25 + t * 2 ^ 20 + (s * 2 ^ 15 + f3 * 2 ^ 12 + 51) + d * 2 ^ 7 = r
 simp only [Nat.reducePow] at hr
 have hu : r < 4294967296:=by omega
 have b1:=aF r 7 5 hu (by omega) (by omega) (by omega)
 have b2:=aF r 15 5 hu (by omega) (by omega) (by omega)
 have b3:=aF r 20 5 hu (by omega) (by omega) (by omega)
 rw [show r / 2 ^ 7 % 2 ^ 5 = d by simp only [Nat.reducePow]; omega] at b1
 rw [show r / 2 ^ 15 % 2 ^ 5 = s by simp only [Nat.reducePow]; omega] at b2
 rw [show r / 2 ^ 20 % 2 ^ 5 = t by simp only [Nat.reducePow]; omega] at b3
 refine ⟨k,by omega,rfl,by rw [Ct hk]; omega,fun _=>by omega,fun _=>by omega,?_⟩
 show a7 ((k : Int) + 1) (r : Int) = _
 unfold a7
 exact aa b1 (aa b2 (aa b3 (cf (decide_eq_true (by omega)) rfl)))
theorem Cx {k d s f3 o m : Nat} {imm : Int} (hk : 11 ≤ k) (hk2 : k < 15) (hd : d < 32) (hs : s < 32) (h3 : f3 = t3 k) (h3' : f3 < 8) (ho : o = tO k) (ho' : o < 128) (hb : -2048 ≤ imm ∧ imm ≤ 2047) (hm : (m : Int) = imm % 4096) : Fl ⟨(k : Int) + 1,d,s,0,imm⟩ (m * 2 ^ 20 + (s * 2 ^ 15 + f3 * 2 ^ 12 + o) + d * 2 ^ 7):=by
 have x1:=nY m 12 (by omega) (by omega) (by omega)
 rw [B5 hb hm] at x1
 generalize hr : m * 2 ^ 20 + (s * 2 ^ 15 + f3 * 2 ^ 12 + o) + d * 2 ^ 7 = r
 simp only [Nat.reducePow] at hr
 have hu : r < 4294967296:=by omega
 have b1:=aF r 7 5 hu (by omega) (by omega) (by omega)
 have b2:=aF r 15 5 hu (by omega) (by omega) (by omega)
 have b3:=aF r 20 5 hu (by omega) (by omega) (by omega)
 have b4:=aF r 20 12 hu (by omega) (by omega) (by omega)
 rw [show r / 2 ^ 7 % 2 ^ 5 = d by simp only [Nat.reducePow]; omega] at b1
 rw [show r / 2 ^ 15 % 2 ^ 5 = s by simp only [Nat.reducePow]; omega] at b2
 rw [show r / 2 ^ 20 % 2 ^ 12 = m by simp only [Nat.reducePow]; omega] at b4
 refine ⟨k,by omega,rfl,by omega,fun _=>by omega,fun _=>by omega,?_⟩
 show a7 ((k : Int) + 1) (r : Int) = _
 unfold a7
 exact aa b1 (aa b2 (aa b3 (ac (decide_eq_false (by omega)) (cf (decide_eq_true (by omega)) (aa b4 (aa x1 rfl))))))
theorem Cy {s t f3 h7 l5 m : Nat} {imm : Int} (hs : s < 32) (ht : t < 32) (h3 : f3 = t3 15) (h3' : f3 < 8) (h1 : h7 < 128) (h2 : l5 < 32) (hrel : h7 * 32 + l5 = m) (hb : -2048 ≤ imm ∧ imm ≤ 2047) (hm : (m : Int) = imm % 4096) : Fl ⟨16,0,s,t,imm⟩ (h7 * 2 ^ 25 + t * 2 ^ 20 + (s * 2 ^ 15 + f3 * 2 ^ 12 + 35) + l5 * 2 ^ 7):=by
 have x1:=nY m 12 (by omega) (by omega) (by omega)
 rw [B5 hb hm,← hrel] at x1
 have e1 : w64 (w64 ((h7 : Int) * 32) + (l5 : Int)) = ((h7 * 32 + l5 : Nat) : Int):=by rw [aV (x:=(h7 : Int) * 32) (by omega) (by omega),aV (by omega) (by omega)]; omega
 rw [← e1] at x1
 generalize hr : h7 * 2 ^ 25 + t * 2 ^ 20 + (s * 2 ^ 15 + f3 * 2 ^ 12 + 35) + l5 * 2 ^ 7 = r
 simp only [Nat.reducePow] at hr
 have hu : r < 4294967296:=by omega
 have b1:=aF r 7 5 hu (by omega) (by omega) (by omega)
 have b2:=aF r 15 5 hu (by omega) (by omega) (by omega)
 have b3:=aF r 20 5 hu (by omega) (by omega) (by omega)
 have b4:=aF r 25 7 hu (by omega) (by omega) (by omega)
 rw [show r / 2 ^ 7 % 2 ^ 5 = l5 from dm (a:=h7 * 8192 + t * 256 + s * 8 + f3) (b:=35) (by simp only [Nat.reducePow]; omega) (by simp only [Nat.reducePow]; omega) (by simp only [Nat.reducePow]; omega)] at b1
 rw [show r / 2 ^ 15 % 2 ^ 5 = s from dm (a:=h7 * 32 + t) (b:=f3 * 4096 + l5 * 128 + 35) (by simp only [Nat.reducePow]; omega) (by simp only [Nat.reducePow]; omega) (by simp only [Nat.reducePow]; omega)] at b2
 rw [show r / 2 ^ 20 % 2 ^ 5 = t from dm (a:=h7) (b:=s * 32768 + f3 * 4096 + l5 * 128 + 35) (by simp only [Nat.reducePow]; omega) (by simp only [Nat.reducePow]; omega) (by simp only [Nat.reducePow]; omega)] at b3
 rw [show r / 2 ^ 25 % 2 ^ 7 = h7 from dm (a:=0) (b:=t * 1048576 + s * 32768 + f3 * 4096 + l5 * 128 + 35) (by simp only [Nat.reducePow]; omega) (by simp only [Nat.reducePow]; omega) (by simp only [Nat.reducePow]; omega)] at b4
 refine ⟨15,by omega,rfl,by rw [show tO 15 = 35 from rfl]; omega,fun _=>(dm (r:=r) (p:=4096) (q:=8) (m:=f3) (a:=h7 * 1024 + t * 32 + s) (b:=l5 * 128 + 35) (by omega) (by omega) h3').trans h3,fun _=>by omega,?_⟩
 unfold a7
 exact aa b1 (aa b2 (aa b3 (ac rfl (ac rfl (cf rfl (aa b4 (aa x1 rfl)))))))
theorem Cz {k s t f3 v1 v2 v3 v4 m : Nat} {imm : Int} (hk : k = 16 ∨ k = 17) (hs : s < 32) (ht : t < 32) (h3 : f3 = t3 k) (h3' : f3 < 8) (l1 : v1 < 2) (l2 : v2 < 64) (l3 : v3 < 16) (l4 : v4 < 2) (hrel : v1 * 4096 + v4 * 2048 + v2 * 32 + v3 * 2 = m) (hb : -4096 ≤ imm ∧ imm ≤ 4095) (hm : (m : Int) = imm % 8192) :
  Fl ⟨(k : Int) + 1,0,s,t,imm⟩ (v1 * 2 ^ 31 + v2 * 2 ^ 25 + t * 2 ^ 20 + (s * 2 ^ 15 + f3 * 2 ^ 12 + 99) + v3 * 2 ^ 8 + v4 * 2 ^ 7):=by
 have x1:=nY m 13 (by omega) (by omega) (by omega)
 rw [Cu hb hm,← hrel] at x1
 have e1 : w64 (w64 (w64 (w64 ((v1 : Int) * 4096) + w64 ((v4 : Int) * 2048)) + w64 ((v2 : Int) * 32)) + w64 ((v3 : Int) * 2)) = ((v1 * 4096 + v4 * 2048 + v2 * 32 + v3 * 2 : Nat) : Int):=by
  rw [aV (x:=(v1 : Int) * 4096) (by omega) (by omega),aV (x:=(v4 : Int) * 2048) (by omega) (by omega),aV (x:=(v2 : Int) * 32) (by omega) (by omega),aV (x:=(v3 : Int) * 2) (by omega) (by omega),aV (x:=(v1 : Int) * 4096 + (v4 : Int) * 2048) (by omega) (by omega),aV (x:=(v1 : Int) * 4096 + (v4 : Int) * 2048 + (v2 : Int) * 32) (by omega) (by omega),aV (by omega) (by omega)]
  omega
 rw [← e1] at x1
 generalize hr : v1 * 2 ^ 31 + v2 * 2 ^ 25 + t * 2 ^ 20 + (s * 2 ^ 15 + f3 * 2 ^ 12 + 99) + v3 * 2 ^ 8 + v4 * 2 ^ 7 = r
 simp only [Nat.reducePow] at hr
 have hu : r < 4294967296:=by omega
 have b1:=aF r 7 5 hu (by omega) (by omega) (by omega)
 have b2:=aF r 15 5 hu (by omega) (by omega) (by omega)
 have b3:=aF r 20 5 hu (by omega) (by omega) (by omega)
 have b4:=aF r 31 1 hu (by omega) (by omega) (by omega)
 have b5:=aF r 7 1 hu (by omega) (by omega) (by omega)
 have b6:=aF r 25 6 hu (by omega) (by omega) (by omega)
 have b7:=aF r 8 4 hu (by omega) (by omega) (by omega)
 rw [show r / 2 ^ 15 % 2 ^ 5 = s from dm (a:=v1 * 2048 + v2 * 32 + t) (b:=f3 * 4096 + v3 * 256 + v4 * 128 + 99) (by simp only [Nat.reducePow]; omega) (by simp only [Nat.reducePow]; omega) (by simp only [Nat.reducePow]; omega)] at b2
 rw [show r / 2 ^ 20 % 2 ^ 5 = t from dm (a:=v1 * 64 + v2) (b:=s * 32768 + f3 * 4096 + v3 * 256 + v4 * 128 + 99) (by simp only [Nat.reducePow]; omega) (by simp only [Nat.reducePow]; omega) (by simp only [Nat.reducePow]; omega)] at b3
 rw [show r / 2 ^ 31 % 2 ^ 1 = v1 from dm (a:=0) (b:=v2 * 33554432 + t * 1048576 + s * 32768 + f3 * 4096 + v3 * 256 + v4 * 128 + 99) (by simp only [Nat.reducePow]; omega) (by simp only [Nat.reducePow]; omega) (by simp only [Nat.reducePow]; omega)] at b4
 rw [show r / 2 ^ 7 % 2 ^ 1 = v4 from dm (a:=v1 * 8388608 + v2 * 131072 + t * 4096 + s * 128 + f3 * 16 + v3) (b:=99) (by simp only [Nat.reducePow]; omega) (by simp only [Nat.reducePow]; omega) (by simp only [Nat.reducePow]; omega)] at b5
 rw [show r / 2 ^ 25 % 2 ^ 6 = v2 from dm (a:=v1) (b:=t * 1048576 + s * 32768 + f3 * 4096 + v3 * 256 + v4 * 128 + 99) (by simp only [Nat.reducePow]; omega) (by simp only [Nat.reducePow]; omega) (by simp only [Nat.reducePow]; omega)] at b6
 rw [show r / 2 ^ 8 % 2 ^ 4 = v3 from dm (a:=v1 * 524288 + v2 * 8192 + t * 256 + s * 8 + f3) (b:=v4 * 128 + 99) (by simp only [Nat.reducePow]; omega) (by simp only [Nat.reducePow]; omega) (by simp only [Nat.reducePow]; omega)] at b7
 refine ⟨k,by omega,rfl,by rcases hk with rfl | rfl <;> (show r % 128 = 99; omega),fun _=>(dm (r:=r) (p:=4096) (q:=8) (m:=f3) (a:=v1 * 65536 + v2 * 1024 + t * 32 + s) (b:=v3 * 256 + v4 * 128 + 99) (by omega) (by omega) h3').trans h3,fun _=>by omega,?_⟩
 show a7 ((k : Int) + 1) (r : Int) = _
 unfold a7
 refine aa b1 (aa b2 (aa b3 (ac (decide_eq_false (by omega)) (ac (decide_eq_false (by omega)) (ac ?_ (cf ?_ (aa b4 (aa b5 (aa b6 (aa b7 (aa x1 rfl)))))))))))
 ·rcases hk with rfl | rfl <;> rfl
 ·rcases hk with rfl | rfl <;> rfl
theorem CA {d m : Nat} {imm : Int} (hd : d < 32) (hl : m < 1048576) (hm : imm = (m : Int)) : Fl ⟨19,d,0,0,imm⟩ (m * 2 ^ 12 + d * 2 ^ 7 + 55):=by
 subst hm
 generalize hr : m * 2 ^ 12 + d * 2 ^ 7 + 55 = r
 simp only [Nat.reducePow] at hr
 have hu : r < 4294967296:=by omega
 have b1:=aF r 7 5 hu (by omega) (by omega) (by omega)
 have b2:=aF r 15 5 hu (by omega) (by omega) (by omega)
 have b3:=aF r 20 5 hu (by omega) (by omega) (by omega)
 have b4:=aF r 12 20 hu (by omega) (by omega) (by omega)
 rw [show r / 2 ^ 7 % 2 ^ 5 = d by simp only [Nat.reducePow]; omega] at b1
 rw [show r / 2 ^ 12 % 2 ^ 20 = m by simp only [Nat.reducePow]; omega] at b4
 refine ⟨18,by omega,rfl,by rw [show tO 18 = 55 from rfl]; omega,fun h=>absurd h (by omega),fun h=>absurd h (by omega),?_⟩
 unfold a7
 exact aa b1 (aa b2 (aa b3 (ac rfl (ac rfl (ac rfl (ac rfl (cf rfl (aa b4 rfl))))))))
theorem CB {d v1 v2 v3 v4 m : Nat} {imm : Int} (hd : d < 32) (l1 : v1 < 2) (l2 : v2 < 1024) (l3 : v3 < 2) (l4 : v4 < 256) (hrel : v1 * 1048576 + v4 * 4096 + v3 * 2048 + v2 * 2 = m) (hb : -1048576 ≤ imm ∧ imm ≤ 1048575) (hm : (m : Int) = imm % 2097152) :
    Fl ⟨20, d, 0, 0, imm⟩ (v1 * 2 ^ 31 + v2 * 2 ^ 21 + v3 * 2 ^ 20 + v4 * 2 ^ 12 + d * 2 ^ 7 + 111) := by
  have x1 := nY m 21 (by omega) (by omega) (by have : (2 : Nat) ^ 21 = 2097152 := rfl
                                               omega)
  rw [Cv hb hm, ← hrel] at x1
  have e1 : w64 (w64 (w64 (w64 ((v1 : Int) * 1048576) + w64 ((v4 : Int) * 4096)) + w64 ((v3 : Int) * 2048)) + w64 ((v2 : Int) * 2)) = ((v1 * 1048576 + v4 * 4096 + v3 * 2048 + v2 * 2 : Nat) : Int) := by
    rw [aV (x := (v1 : Int) * 1048576) (by omega) (by omega), aV (x := (v4 : Int) * 4096) (by omega) (by omega), aV (x := (v3 : Int) * 2048) (by omega) (by omega), aV (x := (v2 : Int) * 2) (by omega) (by omega), aV (x := (v1 : Int) * 1048576 + (v4 : Int) * 4096) (by omega) (by omega), aV (x := (v1 : Int) * 1048576 + (v4 : Int) * 4096 + (v3 : Int) * 2048) (by omega) (by omega), aV (by omega) (by omega)]
    omega
  rw [← e1] at x1
  generalize hr : v1 * 2 ^ 31 + v2 * 2 ^ 21 + v3 * 2 ^ 20 + v4 * 2 ^ 12 + d * 2 ^ 7 + 111 = r
  simp only [Nat.reducePow] at hr
  have hu : r < 4294967296 := by omega
  have b1 := aF r 7 5 hu (by omega) (by omega) (by omega)
  have b2 := aF r 15 5 hu (by omega) (by omega) (by omega)
  have b3 := aF r 20 5 hu (by omega) (by omega) (by omega)
  have b4 := aF r 31 1 hu (by omega) (by omega) (by omega)
  have b5 := aF r 12 8 hu (by omega) (by omega) (by omega)
  have b6 := aF r 20 1 hu (by omega) (by omega) (by omega)
  have b7 := aF r 21 10 hu (by omega) (by omega) (by omega)
  rw [show r / 2 ^ 7 % 2 ^ 5 = d from dm (a := v1 * 524288 + v2 * 512 + v3 * 256 + v4) (b := 111) (by simp only [Nat.reducePow]; omega) (by simp only [Nat.reducePow]; omega) (by simp only [Nat.reducePow]; omega)] at b1
  rw [show r / 2 ^ 31 % 2 ^ 1 = v1 from dm (a := 0) (b := v2 * 2097152 + v3 * 1048576 + v4 * 4096 + d * 128 + 111) (by simp only [Nat.reducePow]; omega) (by simp only [Nat.reducePow]; omega) (by simp only [Nat.reducePow]; omega)] at b4
  rw [show r / 2 ^ 12 % 2 ^ 8 = v4 from dm (a := v1 * 2048 + v2 * 2 + v3) (b := d * 128 + 111) (by simp only [Nat.reducePow]; omega) (by simp only [Nat.reducePow]; omega) (by simp only [Nat.reducePow]; omega)] at b5
  rw [show r / 2 ^ 20 % 2 ^ 1 = v3 from dm (a := v1 * 1024 + v2) (b := v4 * 4096 + d * 128 + 111) (by simp only [Nat.reducePow]; omega) (by simp only [Nat.reducePow]; omega) (by simp only [Nat.reducePow]; omega)] at b6
  rw [show r / 2 ^ 21 % 2 ^ 10 = v2 from dm (a := v1) (b := v3 * 1048576 + v4 * 4096 + d * 128 + 111) (by simp only [Nat.reducePow]; omega) (by simp only [Nat.reducePow]; omega) (by simp only [Nat.reducePow]; omega)] at b7
  refine ⟨19, by omega, rfl, by rw [show tO 19 = 111 from rfl]; omega, fun h => absurd h (by omega), fun h => absurd h (by omega), ?_⟩
  unfold a7
  exact aa b1 (aa b2 (aa b3 (ac rfl (ac rfl (ac rfl (ac rfl (ac rfl (cf rfl (aa b4 (aa b5 (aa b6 (aa b7 (aa x1 rfl)))))))))))))
theorem CC : Fl ⟨21,0,0,0,0⟩ 115:=by
 have b1:=aF 115 7 5 (by omega) (by omega) (by omega) (by omega)
 have b2:=aF 115 15 5 (by omega) (by omega) (by omega) (by omega)
 have b3:=aF 115 20 5 (by omega) (by omega) (by omega) (by omega)
 refine ⟨20,by omega,rfl,rfl,fun h=>absurd h (by omega),fun h=>absurd h (by omega),?_⟩
 unfold a7
 exact aa b1 (aa b2 (aa b3 (ac rfl (ac rfl (ac rfl (ac rfl (ac rfl (ac rfl rfl))))))))
end
noncomputable section
theorem dE {a b : Nat} (h : a + b < 9223372036854775808) : w64 ((a : Int) + (b : Int)) = ((a + b : Nat) : Int):=by rw [aV (by omega) (by omega)]; omega
theorem uZ {op rd rs rt imm : Int} {k srs f3 opc : Nat} (hk : op = (k : Int) + 1) (hk2 : k < 21) (hrs : rs = srs) (hs : srs < 32) (hf : nth [0,0,0,4,6,7,6,4,1,5,2,0,3,2,0,2,0,1,0,0,0] (k : Int) = some (f3 : Int)) (h3 : f3 < 8) (ho : opc < 128) :
  fV (Instr.mk op rd rs rt imm) (opc : Int) = some ((srs * 2 ^ 15 + f3 * 2 ^ 12 + opc : Nat) : Int):=by
 unfold fV gw
 simp only
 rw [hk,hrs,show (k : Int) + 1 - 1 = k by omega,aV (x:=(k : Int)) (by omega) (by omega),hf,show (15 : Int) = ((15 : Nat) : Int) from rfl,eH srs 15 (by omega) (by omega)]
 simp only [ob9]
 rw [show (12 : Int) = ((12 : Nat) : Int) from rfl,eH f3 12 (by omega) (by omega)]
 simp only [ob9]
 rw [dE (by omega),dE (by omega)]
def Enc (i : Instr) : Prop:=∃ r : Nat,r < 4294967296 ∧ (∀ k : Nat,i.Op = (k : Int) + 1 → 11 ≤ k → k ≤ 17 → nth [0,0,0,4,6,7,6,4,1,5,2,0,3,2,0,2,0,1,0,0,0] (k : Int) = some ((r / 4096 % 8 : Nat) : Int)) ∧ bS i = some (r : Int) ∧ (bu i = some true → bX i = some ((r : Int),true)) ∧ (IOk i → Fl i r)
theorem kW {i : Instr} {r : Option (Int × Bool)} (hv : bu i = some true) : bX i = (nth kB (w64 (i.Op - 1))).bind fun x1=>(cl i.Imm).bind fun y2=>(bO i.Op).bind fun y3 =>
  sel (y3 == 82) (some (aN .or .i64 (aN .or .i64 (w64 (x1.funct7 * 2 ^ (min 25 (IntKind.bits .i64)))) (aN .or .i64 (aN .or .i64 (aN .or .i64 (w64 (i.Rt * 2 ^ (min 20 (IntKind.bits .i64)))) (w64 (i.Rs * 2 ^ (min 15 (IntKind.bits .i64))))) (w64 (x1.funct3 * 2 ^ (min 12 (IntKind.bits .i64))))) x1.opcode)) (w64 (i.Rd * 2 ^ (min 7 (IntKind.bits .i64)))),true)) <|
  sel (y3 == 73) ((aE 0 12 20 y2).bind fun y4 =>
  some (aN .or .i64 (aN .or .i64 y4 (aN .or .i64 (aN .or .i64 (aN .or .i64 (w64 (i.Rt * 2 ^ (min 20 (IntKind.bits .i64)))) (w64 (i.Rs * 2 ^ (min 15 (IntKind.bits .i64))))) (w64 (x1.funct3 * 2 ^ (min 12 (IntKind.bits .i64))))) x1.opcode)) (w64 (i.Rd * 2 ^ (min 7 (IntKind.bits .i64)))),true)) <|
  sel (y3 == 83) ((aE 5 7 25 y2).bind fun y5=>(aE 0 5 7 y2).bind fun y6 =>
  some (aN .or .i64 (aN .or .i64 y5 (aN .or .i64 (aN .or .i64 (aN .or .i64 (w64 (i.Rt * 2 ^ (min 20 (IntKind.bits .i64)))) (w64 (i.Rs * 2 ^ (min 15 (IntKind.bits .i64))))) (w64 (x1.funct3 * 2 ^ (min 12 (IntKind.bits .i64))))) x1.opcode)) y6,true)) <|
  sel (y3 == 66) ((aE 12 1 31 y2).bind fun y7=>(aE 5 6 25 y2).bind fun y8=>(aE 1 4 8 y2).bind fun y9=>(aE 11 1 7 y2).bind fun y10 =>
  some (aN .or .i64 (aN .or .i64 (aN .or .i64 (aN .or .i64 y7 y8) (aN .or .i64 (aN .or .i64 (aN .or .i64 (w64 (i.Rt * 2 ^ (min 20 (IntKind.bits .i64)))) (w64 (i.Rs * 2 ^ (min 15 (IntKind.bits .i64))))) (w64 (x1.funct3 * 2 ^ (min 12 (IntKind.bits .i64))))) x1.opcode)) y9) y10,true)) <|
  sel (y3 == 85) ((aE 0 20 12 y2).bind fun y11=>some (aN .or .i64 (aN .or .i64 y11 (w64 (i.Rd * 2 ^ (min 7 (IntKind.bits .i64))))) x1.opcode,true)) <|
  sel (y3 == 74) ((aE 20 1 31 y2).bind fun y12=>(aE 1 10 21 y2).bind fun y13=>(aE 11 1 20 y2).bind fun y14=>(aE 12 8 12 y2).bind fun y15 =>
  some (aN .or .i64 (aN .or .i64 (aN .or .i64 (aN .or .i64 (aN .or .i64 y12 y13) y14) y15) (w64 (i.Rd * 2 ^ (min 7 (IntKind.bits .i64))))) x1.opcode,true)) <|
  some (x1.opcode,true):=by
 unfold bX
 rw [hv]
 rfl
theorem CD {n : Nat} (h : n < 128) : w64 ((n : Int) * 2 ^ (min 25 (IntKind.bits .i64))) = ((n * 2 ^ 25 : Nat) : Int):=gB (k:=25) (by omega)
theorem Bq {n : Nat} (h : n < 32) : w64 ((n : Int) * 2 ^ (min 20 (IntKind.bits .i64))) = ((n * 2 ^ 20 : Nat) : Int):=gB (k:=20) (by omega)
theorem Aj {n : Nat} (h : n < 32) : w64 ((n : Int) * 2 ^ (min 15 (IntKind.bits .i64))) = ((n * 2 ^ 15 : Nat) : Int):=gB (k:=15) (by omega)
theorem Ak {n : Nat} (h : n < 8) : w64 ((n : Int) * 2 ^ (min 12 (IntKind.bits .i64))) = ((n * 2 ^ 12 : Nat) : Int):=gB (k:=12) (by omega)
theorem sh7 {n : Nat} (h : n < 32) : w64 ((n : Int) * 2 ^ (min 7 (IntKind.bits .i64))) = ((n * 2 ^ 7 : Nat) : Int):=gB (k:=7) (by omega)
theorem cK {a b : Nat} (ha : a < 4294967296) (hb : b < 4294967296) : a ||| b < 4294967296:=Nat.or_lt_two_pow (n:=32) ha hb
theorem lN {a b : Nat} (ha : a < 4294967296) (hb : b < 4294967296) : aN .or .i64 (a : Int) (b : Int) = ((a ||| b : Nat) : Int):=Bp (by omega) (by omega)
theorem jG {x : Int} {n : Int} (h0 : 0 ≤ x) (h1 : x ≤ n) : ∃ k : Nat,x = k ∧ (k : Int) ≤ n:=⟨x.toNat,by omega,by omega⟩
theorem A5 {op rd rs rt : Int} (h : 1 ≤ op ∧ op ≤ 11) (hd : 0 ≤ rd ∧ rd ≤ 31) (hs : 0 ≤ rs ∧ rs ≤ 31) (ht : 0 ≤ rt ∧ rt ≤ 31) : Enc (Instr.mk op rd rs rt 0):=by
 obtain ⟨d,rfl,hd2⟩:=jG hd.1 hd.2
 obtain ⟨s,rfl,hs2⟩:=jG hs.1 hs.2
 obtain ⟨t,rfl,ht2⟩:=jG ht.1 ht.2
 obtain ⟨k,rfl⟩ : ∃ k : Nat,op = (k : Int) + 1:=⟨(op - 1).toNat,by omega⟩
 obtain ⟨x,f3,f7,opc,g1,g2,g3,g4,g5,g6,g7,g8,g9,_⟩:=tab k (by omega)
 obtain ⟨g10,rfl⟩:=g9 (by omega)
 obtain ⟨u,u1,u2,u3,_⟩:=ki (x:=0) (by omega) (by omega)
 refine ⟨f7 * 2 ^ 25 + t * 2 ^ 20 + (s * 2 ^ 15 + f3 * 2 ^ 12 + 51) + d * 2 ^ 7,by omega,(fun k' hk h1 h2=>by simp only at hk; omega),?_,fun hv=>?_,fun _=>Cw (by omega) (by omega) (by omega) (by omega) (xz (by omega) g8) g5 (B4 (by omega) g10) g6⟩
 ·unfold bS
  simp only
  have c : ∀ n : Int,12 ≤ n → (((k : Int) + 1) == n) = false:=fun n hn=>by simp; omega
  rw [c 12 (by omega),c 13 (by omega),c 14 (by omega),c 15 (by omega),c 16 (by omega),c 17 (by omega),c 18 (by omega),c 19 (by omega),c 20 (by omega),c 21 (by omega)]
  simp only [sel,ob9]
  have hm:=uZ (op:=(k : Int) + 1) (rd:=d) (rs:=s) (rt:=t) (imm:=0) (k:=k) (srs:=s) (f3:=f3) (opc:=51) rfl (by omega) rfl (by omega) g8 g5 (by omega)
  rw [show ((51 : Nat) : Int) = 51 from rfl] at hm
  rw [hm]
  unfold gx
  rw [show (k : Int) + 1 - 1 = k by omega,aV (x:=(k : Int)) (by omega) (by omega),g10]
  simp only [ob9]
  rw [show (25 : Int) = ((25 : Nat) : Int) from rfl,show (20 : Int) = ((20 : Nat) : Int) from rfl,show (7 : Int) = ((7 : Nat) : Int) from rfl,eH f7 25 (by omega) (by omega),eH t 20 (by omega) (by omega),eH d 7 (by omega) (by omega)]
  simp only [ob9]
  rw [dE (by omega),dE (by omega),dE (by omega)]
 ·rw [kW (r:=none) hv]
  simp only
  rw [show (k : Int) + 1 - 1 = k by omega,aV (x:=(k : Int)) (by omega) (by omega),g1,u3,vI (by omega)]
  simp only [ob9,sel,Int.reduceBEq]
  rw [g2,g3,g4,CD g6,Bq (by omega),Aj (by omega),Ak g5,sh7 (by omega)]
  rw [lN (by omega) (by omega),lN (cK (by omega) (by omega)) (by omega),lN (cK (cK (by omega) (by omega)) (by omega)) (by omega),lN (by omega) (cK (cK (cK (by omega) (by omega)) (by omega)) (by omega)),
   lN (cK (by omega) (cK (cK (cK (by omega) (by omega)) (by omega)) (by omega))) (by omega),B3 (by omega) (by omega) (by omega) (by omega) (by omega)]
theorem Br {α : Type} (x y : α) : sel false x y = y:=rfl
theorem Bs {α : Type} (x y : α) : sel true x y = x:=rfl
theorem xX {x : Int} {u m p q low many : Nat} (hu : (u : Int) = x % (q : Int)) (hm : (m : Int) = x % p) (hp : 2 ^ (low + many) ∣ p) (hp2 : p ∣ q) : u / 2 ^ low % 2 ^ many = m / 2 ^ low % 2 ^ many:=by
 have e1 : u % p = m:=by
  have h1 : ((u % p : Nat) : Int) = (m : Int):=by
   rw [Int.natCast_emod,hu,hm]
   exact Int.emod_emod_of_dvd _ (Int.natCast_dvd_natCast.2 hp2)
  exact Int.ofNat.inj h1
 have e2 : ∀ n : Nat,n / 2 ^ low % 2 ^ many = n % 2 ^ (low + many) / 2 ^ low:=fun n=>by rw [Nat.pow_add,Nat.mod_mul_right_div_self]
 rw [e2 u,e2 m,← e1,Nat.mod_mod_of_dvd _ hp]
theorem pW {x : Int} {u m p low many : Nat} (hu : (u : Int) = x % 4294967296) (hm : (m : Int) = x % p) (hp : 2 ^ (low + many) ∣ p) (hp2 : ∃ c,4294967296 = p * c) : u / 2 ^ low % 2 ^ many = m / 2 ^ low % 2 ^ many:=xX (q:=4294967296) hu hm hp hp2
theorem CE {m rs f3 opc rd : Nat} (h1 : opc < 128) (h2 : rd < 32) (h3 : f3 < 8) (h4 : rs < 32) :
  ((m * 2 ^ 20 ||| (0 ||| rs * 2 ^ 15 ||| f3 * 2 ^ 12 ||| opc)) ||| rd * 2 ^ 7) = m * 2 ^ 20 + (rs * 2 ^ 15 + f3 * 2 ^ 12 + opc) + rd * 2 ^ 7:=by
 have e : m * 2 ^ 20 + (rs * 2 ^ 15 + f3 * 2 ^ 12 + opc) + rd * 2 ^ 7 = 2 ^ 20 * m + (2 ^ 15 * rs + (2 ^ 12 * f3 + (2 ^ 7 * rd + opc))):=by omega
 rw [e,d6 (i:=20) (by omega),d6 (i:=15) (by omega),d6 (i:=12) (by omega),d6 (i:=7) (by omega)]
 simp only [Nat.mul_comm _ (2 ^ 20),Nat.mul_comm _ (2 ^ 15),Nat.mul_comm _ (2 ^ 12),Nat.mul_comm _ (2 ^ 7),Nat.zero_or]
 ac_rfl
theorem CF {hi7 rt rs f3 lo5 : Nat} (h1 : rt < 32) (h2 : lo5 < 32) (h3 : f3 < 8) (h4 : rs < 32) :
  ((hi7 * 2 ^ 25 ||| (rt * 2 ^ 20 ||| rs * 2 ^ 15 ||| f3 * 2 ^ 12 ||| 35)) ||| lo5 * 2 ^ 7) = hi7 * 2 ^ 25 + rt * 2 ^ 20 + (rs * 2 ^ 15 + f3 * 2 ^ 12 + 35) + lo5 * 2 ^ 7:=B3 (by omega) h2 h3 h4 h1
theorem CG {v1 v2 rt rs f3 v3 v4 : Nat} (h1 : rt < 32) (h2 : v2 < 64) (h3 : f3 < 8) (h4 : rs < 32) (h5 : v3 < 16) (h6 : v4 < 2) :
  ((((v1 * 2 ^ 31 ||| v2 * 2 ^ 25) ||| (rt * 2 ^ 20 ||| rs * 2 ^ 15 ||| f3 * 2 ^ 12 ||| 99)) ||| v3 * 2 ^ 8) ||| v4 * 2 ^ 7) = v1 * 2 ^ 31 + v2 * 2 ^ 25 + rt * 2 ^ 20 + (rs * 2 ^ 15 + f3 * 2 ^ 12 + 99) + v3 * 2 ^ 8 + v4 * 2 ^ 7:=by
 have e : v1 * 2 ^ 31 + v2 * 2 ^ 25 + rt * 2 ^ 20 + (rs * 2 ^ 15 + f3 * 2 ^ 12 + 99) + v3 * 2 ^ 8 + v4 * 2 ^ 7 = 2 ^ 31 * v1 + (2 ^ 25 * v2 + (2 ^ 20 * rt + (2 ^ 15 * rs + (2 ^ 12 * f3 + (2 ^ 8 * v3 + (2 ^ 7 * v4 + 99)))))):=by omega
 rw [e,d6 (i:=31) (by omega),d6 (i:=25) (by omega),d6 (i:=20) (by omega),d6 (i:=15) (by omega),d6 (i:=12) (by omega),d6 (i:=8) (by omega),d6 (i:=7) (by omega)]
 generalize 99 = q
 simp only [Nat.mul_comm _ (2 ^ 31),Nat.mul_comm _ (2 ^ 25),Nat.mul_comm _ (2 ^ 20),Nat.mul_comm _ (2 ^ 15),Nat.mul_comm _ (2 ^ 12),Nat.mul_comm _ (2 ^ 8),Nat.mul_comm _ (2 ^ 7)]
 ac_rfl
theorem CH {u d : Nat} (h : d < 32) : (u * 2 ^ 12 ||| d * 2 ^ 7 ||| 55) = u * 2 ^ 12 + d * 2 ^ 7 + 55:=by
 have e : u * 2 ^ 12 + d * 2 ^ 7 + 55 = 2 ^ 12 * u + (2 ^ 7 * d + 55):=by omega
 rw [e,d6 (i:=12) (by omega),d6 (i:=7) (by omega)]
 generalize 55 = q
 simp only [Nat.mul_comm _ (2 ^ 12),Nat.mul_comm _ (2 ^ 7)]
 ac_rfl
theorem CI {v1 v2 v3 v4 d : Nat} (h2 : v2 < 1024) (h3 : v3 < 2) (h4 : v4 < 256) (h5 : d < 32) :
  (((((v1 * 2 ^ 31 ||| v2 * 2 ^ 21) ||| v3 * 2 ^ 20) ||| v4 * 2 ^ 12) ||| d * 2 ^ 7) ||| 111) = v1 * 2 ^ 31 + v2 * 2 ^ 21 + v3 * 2 ^ 20 + v4 * 2 ^ 12 + d * 2 ^ 7 + 111:=by
 have e : v1 * 2 ^ 31 + v2 * 2 ^ 21 + v3 * 2 ^ 20 + v4 * 2 ^ 12 + d * 2 ^ 7 + 111 = 2 ^ 31 * v1 + (2 ^ 21 * v2 + (2 ^ 20 * v3 + (2 ^ 12 * v4 + (2 ^ 7 * d + 111)))):=by omega
 rw [e,d6 (i:=31) (by omega),d6 (i:=21) (by omega),d6 (i:=20) (by omega),d6 (i:=12) (by omega),d6 (i:=7) (by omega)]
 generalize 111 = q
 simp only [Nat.mul_comm _ (2 ^ 31),Nat.mul_comm _ (2 ^ 21),Nat.mul_comm _ (2 ^ 20),Nat.mul_comm _ (2 ^ 12),Nat.mul_comm _ (2 ^ 7)]
 ac_rfl
theorem or4 {a b c d : Nat} (h1 : a < 4294967296) (h2 : b < 4294967296) (h3 : c < 4294967296) (h4 : d < 4294967296) : aN .or .i64 (aN .or .i64 (aN .or .i64 (a : Int) (b : Int)) (c : Int)) (d : Int) = ((a ||| b ||| c ||| d : Nat) : Int):=by
 rw [lN h1 h2,lN (cK h1 h2) h3,lN (cK (cK h1 h2) h3) h4]
end
noncomputable section
theorem A6 {rs rt imm : Int} (hs : 0 ≤ rs ∧ rs ≤ 31) (ht : 0 ≤ rt ∧ rt ≤ 31) (hi : -2048 ≤ imm ∧ imm ≤ 2047) : Enc (Instr.mk 16 0 rs rt imm):=by
 obtain ⟨s,rfl,hs2⟩:=jG hs.1 hs.2
 obtain ⟨t,rfl,ht2⟩:=jG ht.1 ht.2
 obtain ⟨x,f3,f7,opc,g1,g2,g3,g4,g5,g6,g7,g8,g9,g10,g11,g12,g13,_⟩:=tab 15 (by omega)
 obtain rfl:=g13 rfl
 obtain ⟨u,u1,u2,u3,_⟩:=ki (x:=imm) (by omega) (by omega)
 obtain ⟨m,m1,m2,m3⟩:=uY (x:=imm) (p:=4096) (by omega) (by omega) (by omega)
 rw [show ((4096 : Nat) : Int) = 4096 from rfl] at m3
 have hm:=uZ (op:=((15 : Nat) : Int) + 1) (rd:=0) (rs:=s) (rt:=t) (imm:=imm) (k:=15) (srs:=s) (f3:=f3) (opc:=35) rfl (by omega) rfl (by omega) g8 g5 g7
 have b1:=aF m 5 7 (by omega) (by omega) (by omega) (by omega)
 have b2:=aF m 0 5 (by omega) (by omega) (by omega) (by omega)
 have l1 : m / 2 ^ 5 % 2 ^ 7 < 128:=Nat.mod_lt _ (by decide)
 have l2 : m / 2 ^ 0 % 2 ^ 5 < 32:=Nat.mod_lt _ (by decide)
 have p1:=jv u 5 7 25 u1 (by omega) (by omega) (by omega) (by omega)
 have p2:=jv u 0 5 7 u1 (by omega) (by omega) (by omega) (by omega)
 rw [pW (x:=imm) (m:=m) (p:=4096) u2 m2 (by decide) ⟨1048576,rfl⟩] at p1 p2
 have hrel : m / 2 ^ 5 % 2 ^ 7 * 32 + m / 2 ^ 0 % 2 ^ 5 = m:=by omega
 generalize m / 2 ^ 5 % 2 ^ 7 = hi7 at b1 p1 l1 hrel
 generalize m / 2 ^ 0 % 2 ^ 5 = lo5 at b2 p2 l2 hrel
 refine ⟨hi7 * 2 ^ 25 + t * 2 ^ 20 + (s * 2 ^ 15 + f3 * 2 ^ 12 + 35) + lo5 * 2 ^ 7,by omega,(fun k' hk h1 h2=>by
  obtain rfl : k' = 15:=by simp only at hk; omega
  rw [g8]
  exact congrArg (fun n : Nat=>some (n : Int)) (by simp only [Nat.reducePow]; omega)),?_,fun hv=>?_,fun _=>Cy (by omega) (by omega) (xz (by omega) g8) g5 l1 l2 hrel hi m2⟩
 ·unfold bS
  refine aa (y:=false) rfl (ac rfl (ac rfl (ac rfl (cf rfl ?_))))
  refine aa m3 (aa b1 (aa (eH hi7 25 (by omega) (by omega)) (aa (eH t 20 (by omega) (by omega)) (aa hm (aa b2 (aa (eH lo5 7 (by omega) (by omega)) ?_))))))
  rw [dE (by omega),dE (by omega),dE (by omega)]
 ·rw [kW (r:=none) hv]
  refine aa g1 (aa u3 (aa (y:=83) rfl ?_))
  refine ac rfl (ac rfl (cf rfl ?_))
  refine aa p1 (aa p2 ?_)
  rw [g2,g4,Bq (by omega),Aj (by omega),Ak g5,or4 (a:=t * 2 ^ 20) (by omega) (by omega) (by omega) (by omega),lN (by omega) (cK (cK (cK (by omega) (by omega)) (by omega)) (by omega)),lN (cK (by omega) (cK (cK (cK (by omega) (by omega)) (by omega)) (by omega))) (by omega),CF (by omega) l2 g5 (by omega)]
end
noncomputable section
theorem A7 {op rs rt imm : Int} (h : op = 17 ∨ op = 18) (hs : 0 ≤ rs ∧ rs ≤ 31) (ht : 0 ≤ rt ∧ rt ≤ 31) (hi : -4096 ≤ imm ∧ imm ≤ 4094) : Enc (Instr.mk op 0 rs rt imm):=by
 obtain ⟨s,rfl,hs2⟩:=jG hs.1 hs.2
 obtain ⟨t,rfl,ht2⟩:=jG ht.1 ht.2
 obtain ⟨k,rfl⟩ : ∃ k : Nat,op = (k : Int) + 1:=⟨(op - 1).toNat,by omega⟩
 obtain ⟨x,f3,f7,opc,g1,g2,g3,g4,g5,g6,g7,g8,g9,g10,g11,g12,g13,g14,_⟩:=tab k (by omega)
 obtain rfl:=g14 (by omega)
 obtain ⟨u,u1,u2,u3,_⟩:=ki (x:=imm) (by omega) (by omega)
 obtain ⟨m,m1,m2,m3⟩:=uY (x:=imm) (p:=8192) (by omega) (by omega) (by omega)
 rw [show ((8192 : Nat) : Int) = 8192 from rfl] at m3
 have hm:=uZ (op:=(k : Int) + 1) (rd:=0) (rs:=s) (rt:=t) (imm:=imm) (k:=k) (srs:=s) (f3:=f3) (opc:=99) rfl (by omega) rfl (by omega) g8 g5 g7
 have b1:=aF m 12 1 (by omega) (by omega) (by omega) (by omega)
 have b2:=aF m 5 6 (by omega) (by omega) (by omega) (by omega)
 have b3:=aF m 1 4 (by omega) (by omega) (by omega) (by omega)
 have b4:=aF m 11 1 (by omega) (by omega) (by omega) (by omega)
 have l1 : m / 2 ^ 12 % 2 ^ 1 < 2:=Nat.mod_lt _ (by decide)
 have l2 : m / 2 ^ 5 % 2 ^ 6 < 64:=Nat.mod_lt _ (by decide)
 have l3 : m / 2 ^ 1 % 2 ^ 4 < 16:=Nat.mod_lt _ (by decide)
 have l4 : m / 2 ^ 11 % 2 ^ 1 < 2:=Nat.mod_lt _ (by decide)
 have p1:=jv u 12 1 31 u1 (by omega) (by omega) (by omega) (by omega)
 have p2:=jv u 5 6 25 u1 (by omega) (by omega) (by omega) (by omega)
 have p3:=jv u 1 4 8 u1 (by omega) (by omega) (by omega) (by omega)
 have p4:=jv u 11 1 7 u1 (by omega) (by omega) (by omega) (by omega)
 rw [pW (x:=imm) (m:=m) (p:=8192) u2 m2 (by decide) ⟨524288,rfl⟩] at p1 p2 p3 p4
 have hrel : imm % 2 = 0 → m / 2 ^ 12 % 2 ^ 1 * 4096 + m / 2 ^ 11 % 2 ^ 1 * 2048 + m / 2 ^ 5 % 2 ^ 6 * 32 + m / 2 ^ 1 % 2 ^ 4 * 2 = m:=fun he=>by omega
 generalize m / 2 ^ 12 % 2 ^ 1 = v1 at b1 p1 l1 hrel
 generalize m / 2 ^ 5 % 2 ^ 6 = v2 at b2 p2 l2 hrel
 generalize m / 2 ^ 1 % 2 ^ 4 = v3 at b3 p3 l3 hrel
 generalize m / 2 ^ 11 % 2 ^ 1 = v4 at b4 p4 l4 hrel
 refine ⟨v1 * 2 ^ 31 + v2 * 2 ^ 25 + t * 2 ^ 20 + (s * 2 ^ 15 + f3 * 2 ^ 12 + 99) + v3 * 2 ^ 8 + v4 * 2 ^ 7,by omega,(fun k' hk h1 h2=>by
  obtain rfl : k' = k:=by simp only at hk; omega
  rw [g8]
  exact congrArg (fun n : Nat=>some (n : Int)) (by simp only [Nat.reducePow]; omega)),?_,fun hv=>?_,fun hI=>Cz (by omega) (by omega) (by omega) (xz (by omega) g8) g5 l1 l2 l3 l4 (hrel (by unfold IOk at hI; simp only at hI; omega)) (by omega) m2⟩
 ·have hb : gZ (Instr.mk ((k : Int) + 1) 0 s t imm) = some ((v1 * 2 ^ 31 + v2 * 2 ^ 25 + t * 2 ^ 20 + (s * 2 ^ 15 + f3 * 2 ^ 12 + 99) + v3 * 2 ^ 8 + v4 * 2 ^ 7 : Nat) : Int):=by
   unfold gZ
   refine aa m3 (aa b1 (aa (eH v1 31 (by omega) (by omega)) (aa b2 (aa (eH v2 25 (by omega) (by omega)) (aa (eH t 20 (by omega) (by omega)) (aa hm (aa b3 (aa (eH v3 8 (by omega) (by omega)) (aa b4 (aa (eH v4 7 (by omega) (by omega)) ?_))))))))))
   rw [dE (by omega),dE (by omega),dE (by omega),dE (by omega),dE (by omega)]
  unfold bS
  simp only
  have c : ∀ n : Int,n ≤ 16 → (((k : Int) + 1) == n) = false:=fun n hn=>by simp; omega
  have hy : (sel (((k : Int) + 1) == 17) (some (((k : Int) + 1) == 17)) (some (((k : Int) + 1) == 18)) : Option Bool) = some true:=by
   rcases (by omega : k = 16 ∨ k = 17) with rfl | rfl <;> rfl
  rw [c 12 (by omega),c 13 (by omega),c 14 (by omega),c 15 (by omega),c 16 (by omega),hy,hb]
  simp only [Br,Bs,ob9]
 ·rw [kW (r:=none) hv]
  simp only
  rw [show (k : Int) + 1 - 1 = k by omega,aV (x:=(k : Int)) (by omega) (by omega)]
  refine aa g1 (aa u3 (aa (vK h) ?_))
  refine ac rfl (ac rfl (ac rfl (cf rfl ?_)))
  refine aa p1 (aa p2 (aa p3 (aa p4 ?_)))
  have t1 : t ≤ 31:=by omega
  have s1 : s ≤ 31:=by omega
  have z1 : v1 * 2 ^ 31 < 4294967296:=Nat.lt_of_le_of_lt (Nat.mul_le_mul_right _ (Nat.le_of_lt_succ l1)) (by decide)
  have z2 : v2 * 2 ^ 25 < 4294967296:=Nat.lt_of_le_of_lt (Nat.mul_le_mul_right _ (Nat.le_of_lt_succ l2)) (by decide)
  have z3 : t * 2 ^ 20 < 4294967296:=Nat.lt_of_le_of_lt (Nat.mul_le_mul_right _ t1) (by decide)
  have z4 : s * 2 ^ 15 < 4294967296:=Nat.lt_of_le_of_lt (Nat.mul_le_mul_right _ s1) (by decide)
  have z5 : f3 * 2 ^ 12 < 4294967296:=Nat.lt_of_le_of_lt (Nat.mul_le_mul_right _ (Nat.le_of_lt_succ g5)) (by decide)
  have z6 : v3 * 2 ^ 8 < 4294967296:=Nat.lt_of_le_of_lt (Nat.mul_le_mul_right _ (Nat.le_of_lt_succ l3)) (by decide)
  have z7 : v4 * 2 ^ 7 < 4294967296:=Nat.lt_of_le_of_lt (Nat.mul_le_mul_right _ (Nat.le_of_lt_succ l4)) (by decide)
  have z8 : 99 < 4294967296:=by decide
  have zr:=cK (cK (cK z3 z4) z5) z8
  rw [g2,g4,Bq (Nat.lt_succ_of_le t1),Aj (Nat.lt_succ_of_le s1),Ak g5,or4 z3 z4 z5 z8,lN z1 z2,lN (cK z1 z2) zr,lN (cK (cK z1 z2) zr) z6,lN (cK (cK (cK z1 z2) zr) z6) z7,CG (Nat.lt_succ_of_le t1) l2 g5 (Nat.lt_succ_of_le s1) l3 l4]
end
noncomputable section
theorem A8 {rd imm : Int} (hd : 0 ≤ rd ∧ rd ≤ 31) (hi : 0 ≤ imm ∧ imm ≤ 1048575) : Enc (Instr.mk 19 rd 0 0 imm):=by
 obtain ⟨d,rfl,hd2⟩:=jG hd.1 hd.2
 obtain ⟨m,rfl,hm2⟩:=jG hi.1 hi.2
 obtain ⟨x,f3,f7,opc,g1,g2,g3,g4,g5,g6,g7,g8,g9,g10,g11,g12,g13,g14,g15,_⟩:=tab 18 (by omega)
 obtain rfl:=g15 rfl
 obtain ⟨u,u1,u2,u3,_⟩:=ki (x:=(m : Int)) (by omega) (by omega)
 obtain rfl : u = m:=by omega
 have p1:=jv u 0 20 12 u1 (by omega) (by omega) (by omega) (by omega)
 rw [show u / 2 ^ 0 % 2 ^ 20 = u by omega] at p1
 refine ⟨u * 2 ^ 12 + d * 2 ^ 7 + 55,by omega,(fun k' hk h1 h2=>by simp only at hk; omega),?_,fun hv=>?_,fun _=>CA (by omega) (by omega) rfl⟩
 ·unfold bS
  refine aa (y:=false) rfl (ac rfl (ac rfl (ac rfl (ac rfl (aa (y:=false) rfl (ac rfl (cf rfl (aa (eH u 12 (by omega) (by omega)) (aa (eH d 7 (by omega) (by omega)) ?_)))))))))
  rw [dE (by omega)]
  exact congrArg some (dE (a:=u * 2 ^ 12 + d * 2 ^ 7) (b:=55) (by omega))
 ·rw [kW (r:=none) hv]
  refine aa g1 (aa u3 (aa (y:=85) rfl ?_))
  refine ac rfl (ac rfl (ac rfl (ac rfl (cf rfl ?_))))
  refine aa p1 ?_
  have z1 : u * 2 ^ 12 < 4294967296:=by omega
  have z2 : d * 2 ^ 7 < 4294967296:=by omega
  have z8 : 55 < 4294967296:=by omega
  rw [g4,sh7 (by omega),lN z1 z2,lN (cK z1 z2) z8,CH (by omega)]
theorem A9 {rd imm : Int} (hd : 0 ≤ rd ∧ rd ≤ 31) (hi : -1048576 ≤ imm ∧ imm ≤ 1048574) : Enc (Instr.mk 20 rd 0 0 imm):=by
 obtain ⟨d,rfl,hd2⟩:=jG hd.1 hd.2
 obtain ⟨x,f3,f7,opc,g1,g2,g3,g4,g5,g6,g7,g8,g9,g10,g11,g12,g13,g14,g15,g16,_⟩:=tab 19 (by omega)
 obtain rfl:=g16 rfl
 obtain ⟨u,u1,u2,u3,_⟩:=ki (x:=imm) (by omega) (by omega)
 obtain ⟨m,m1,m2,m3⟩:=uY (x:=imm) (p:=2097152) (by omega) (by omega) (by omega)
 rw [show ((2097152 : Nat) : Int) = 2097152 from rfl] at m3
 have b1:=aF m 20 1 (by omega) (by omega) (by omega) (by omega)
 have b2:=aF m 1 10 (by omega) (by omega) (by omega) (by omega)
 have b3:=aF m 11 1 (by omega) (by omega) (by omega) (by omega)
 have b4:=aF m 12 8 (by omega) (by omega) (by omega) (by omega)
 have l1 : m / 2 ^ 20 % 2 ^ 1 < 2:=Nat.mod_lt _ (by decide)
 have l2 : m / 2 ^ 1 % 2 ^ 10 < 1024:=Nat.mod_lt _ (by decide)
 have l3 : m / 2 ^ 11 % 2 ^ 1 < 2:=Nat.mod_lt _ (by decide)
 have l4 : m / 2 ^ 12 % 2 ^ 8 < 256:=Nat.mod_lt _ (by decide)
 have p1:=jv u 20 1 31 u1 (by omega) (by omega) (by omega) (by omega)
 have p2:=jv u 1 10 21 u1 (by omega) (by omega) (by omega) (by omega)
 have p3:=jv u 11 1 20 u1 (by omega) (by omega) (by omega) (by omega)
 have p4:=jv u 12 8 12 u1 (by omega) (by omega) (by omega) (by omega)
 rw [pW (x:=imm) (m:=m) (p:=2097152) u2 m2 (by decide) ⟨2048,rfl⟩] at p1 p2 p3 p4
 have hrel : imm % 2 = 0 → m / 2 ^ 20 % 2 ^ 1 * 1048576 + m / 2 ^ 12 % 2 ^ 8 * 4096 + m / 2 ^ 11 % 2 ^ 1 * 2048 + m / 2 ^ 1 % 2 ^ 10 * 2 = m:=fun he=>by simp only [Nat.reducePow]; omega
 generalize m / 2 ^ 20 % 2 ^ 1 = v1 at b1 p1 l1 hrel
 generalize m / 2 ^ 1 % 2 ^ 10 = v2 at b2 p2 l2 hrel
 generalize m / 2 ^ 11 % 2 ^ 1 = v3 at b3 p3 l3 hrel
 generalize m / 2 ^ 12 % 2 ^ 8 = v4 at b4 p4 l4 hrel
 refine ⟨v1 * 2 ^ 31 + v2 * 2 ^ 21 + v3 * 2 ^ 20 + v4 * 2 ^ 12 + d * 2 ^ 7 + 111,by omega,(fun k' hk h1 h2=>by simp only at hk; omega),?_,fun hv=>?_,fun hI=>CB (by omega) l1 l2 l3 l4 (hrel (by unfold IOk at hI; simp only at hI; omega)) (by omega) m2⟩
 ·have hj : kd (Instr.mk 20 d 0 0 imm) = some ((v1 * 2 ^ 31 + v2 * 2 ^ 21 + v3 * 2 ^ 20 + v4 * 2 ^ 12 + d * 2 ^ 7 + 111 : Nat) : Int):=by
   unfold kd
   refine aa m3 (aa b1 (aa (eH v1 31 (by omega) (by omega)) (aa b2 (aa (eH v2 21 (by omega) (by omega)) (aa b3 (aa (eH v3 20 (by omega) (by omega)) (aa b4 (aa (eH v4 12 (by omega) (by omega)) (aa (eH d 7 (by omega) (by omega)) ?_)))))))))
   rw [dE (by omega),dE (by omega),dE (by omega),dE (by omega)]
   exact congrArg some (dE (a:=v1 * 2 ^ 31 + v2 * 2 ^ 21 + v3 * 2 ^ 20 + v4 * 2 ^ 12 + d * 2 ^ 7) (b:=111) (by omega))
  unfold bS
  exact aa (y:=false) rfl (ac rfl (ac rfl (ac rfl (ac rfl (aa (y:=false) rfl (ac rfl (ac rfl (cf rfl (aa hj rfl)))))))))
 ·rw [kW (r:=none) hv]
  refine aa g1 (aa u3 (aa (y:=74) rfl ?_))
  refine ac rfl (ac rfl (ac rfl (ac rfl (ac rfl (cf rfl ?_)))))
  refine aa p1 (aa p2 (aa p3 (aa p4 ?_)))
  have d1 : d ≤ 31:=by omega
  have z1 : v1 * 2 ^ 31 < 4294967296:=Nat.lt_of_le_of_lt (Nat.mul_le_mul_right _ (Nat.le_of_lt_succ l1)) (by decide)
  have z2 : v2 * 2 ^ 21 < 4294967296:=Nat.lt_of_le_of_lt (Nat.mul_le_mul_right _ (Nat.le_of_lt_succ l2)) (by decide)
  have z3 : v3 * 2 ^ 20 < 4294967296:=Nat.lt_of_le_of_lt (Nat.mul_le_mul_right _ (Nat.le_of_lt_succ l3)) (by decide)
  have z4 : v4 * 2 ^ 12 < 4294967296:=Nat.lt_of_le_of_lt (Nat.mul_le_mul_right _ (Nat.le_of_lt_succ l4)) (by decide)
  have z5 : d * 2 ^ 7 < 4294967296:=Nat.lt_of_le_of_lt (Nat.mul_le_mul_right _ d1) (by decide)
  have z8 : 111 < 4294967296:=by decide
  rw [g4,sh7 (Nat.lt_succ_of_le d1),lN z1 z2,lN (cK z1 z2) z3,lN (cK (cK z1 z2) z3) z4,lN (cK (cK (cK z1 z2) z3) z4) z5,lN (cK (cK (cK (cK z1 z2) z3) z4) z5) z8,CI l2 l3 l4 (Nat.lt_succ_of_le d1)]
theorem Ba : Enc (Instr.mk 21 0 0 0 0):=by
 obtain ⟨x,f3,f7,opc,g1,g2,g3,g4,g5,g6,g7,g8,g9,g10,g11,g12,g13,g14,g15,g16,g17⟩:=tab 20 (by omega)
 obtain rfl:=g17 rfl
 obtain ⟨u,u1,u2,u3,_⟩:=ki (x:=0) (by omega) (by omega)
 refine ⟨115,by omega,(fun k' hk h1 h2=>by simp only at hk; omega),?_,fun hv=>?_,fun _=>CC⟩
 ·unfold bS
  exact aa (y:=false) rfl (ac rfl (ac rfl (ac rfl (ac rfl (aa (y:=false) rfl (ac rfl (ac rfl (ac rfl (cf rfl rfl)))))))))
 ·rw [kW (r:=none) hv]
  refine aa g1 (aa u3 (aa (y:=69) rfl ?_))
  refine ac rfl (ac rfl (ac rfl (ac rfl (ac rfl (ac rfl (?_))))))
  rw [g4]
end
noncomputable section
theorem Bb {op rd rs imm : Int} (h : 12 ≤ op ∧ op ≤ 15) (hd : 0 ≤ rd ∧ rd ≤ 31) (hs : 0 ≤ rs ∧ rs ≤ 31) (hi : -2048 ≤ imm ∧ imm ≤ 2047) : Enc (Instr.mk op rd rs 0 imm):=by
 obtain ⟨d,rfl,hd2⟩:=jG hd.1 hd.2
 obtain ⟨s,rfl,hs2⟩:=jG hs.1 hs.2
 obtain ⟨k,rfl⟩ : ∃ k : Nat,op = (k : Int) + 1:=⟨(op - 1).toNat,by omega⟩
 obtain ⟨x,f3,f7,opc,g1,g2,g3,g4,g5,g6,g7,g8,g9,g10,g11,g12,_⟩:=tab k (by omega)
 obtain ⟨u,u1,u2,u3,_⟩:=ki (x:=imm) (by omega) (by omega)
 obtain ⟨m,m1,m2,m3⟩:=uY (x:=imm) (p:=4096) (by omega) (by omega) (by omega)
 rw [show ((4096 : Nat) : Int) = 4096 from rfl] at m3
 have hm:=uZ (op:=(k : Int) + 1) (rd:=d) (rs:=s) (rt:=0) (imm:=imm) (k:=k) (srs:=s) (f3:=f3) (opc:=opc) rfl (by omega) rfl (by omega) g8 g5 g7
 have him : gY (Instr.mk ((k : Int) + 1) d s 0 imm) opc = some ((m * 2 ^ 20 + (s * 2 ^ 15 + f3 * 2 ^ 12 + opc) + d * 2 ^ 7 : Nat) : Int):=by
  unfold gY
  rw [hm]
  simp only
  rw [m3]
  simp only [ob9]
  rw [show (20 : Int) = ((20 : Nat) : Int) from rfl,show (7 : Int) = ((7 : Nat) : Int) from rfl,eH m 20 (by omega) (by omega),eH d 7 (by omega) (by omega)]
  simp only [ob9]
  rw [dE (by omega),dE (by omega)]
 refine ⟨m * 2 ^ 20 + (s * 2 ^ 15 + f3 * 2 ^ 12 + opc) + d * 2 ^ 7,by omega,(fun k' hk h1 h2=>by
  obtain rfl : k' = k:=by simp only at hk; omega
  rw [g8]
  exact congrArg (fun n : Nat=>some (n : Int)) (by simp only [Nat.reducePow]; omega)),?_,fun hv=>?_,fun _=>Cx (by omega) (by omega) (by omega) (by omega) (xz (by omega) g8) g5 (by rcases (by omega : k = 11 ∨ k = 12 ∨ k = 13 ∨ k = 14) with rfl | rfl | rfl | rfl <;> first | exact g10 (.inl rfl) | exact g10 (.inr rfl) | exact g11 rfl | exact g12 rfl) g7 hi m2⟩
 ·unfold bS
  simp only
  rcases (by omega : k = 11 ∨ k = 12 ∨ k = 13 ∨ k = 14) with rfl | rfl | rfl | rfl
  ·obtain rfl:=g10 (by omega)
   exact aa (y:=true) rfl (aa him rfl)
  ·obtain rfl:=g10 (by omega)
   exact aa (y:=true) rfl (aa him rfl)
  ·obtain rfl:=g11 (by omega)
   exact aa (y:=false) rfl (aa him rfl)
  ·obtain rfl:=g12 (by omega)
   exact aa (y:=false) rfl (aa him rfl)
 ·rw [kW (r:=none) hv]
  have hp:=jv u 0 12 20 u1 (by omega) (by omega) (by omega) (by omega)
  rw [pW (x:=imm) (m:=m) (p:=4096) u2 m2 (by decide) ⟨1048576,rfl⟩] at hp
  have hp' : aE 0 12 20 (u : Int) = some ((m * 2 ^ 20 : Nat) : Int):=by
   rw [show m * 2 ^ 20 = m / 2 ^ 0 % 2 ^ 12 * 2 ^ 20 by omega]
   exact hp
  have h0 : w64 (0 * 2 ^ (min 20 (IntKind.bits .i64))) = ((0 : Nat) : Int):=by decide
  simp only
  rw [show (k : Int) + 1 - 1 = k by omega,aV (x:=(k : Int)) (by omega) (by omega)]
  refine aa g1 (aa u3 (aa (vJ (by omega)) ?_))
  refine ac rfl (cf rfl ?_)
  refine aa hp' ?_
  rw [g2,g4,h0,Aj (by omega),Ak g5,sh7 (by omega),or4 (a:=0) (by omega) (by omega) (by omega) (by omega),lN (by omega) (cK (cK (cK (by omega) (by omega)) (by omega)) (by omega)),lN (cK (by omega) (cK (cK (cK (by omega) (by omega)) (by omega)) (by omega))) (by omega),CE g7 (by omega) g5 (by omega)]
end
noncomputable section
theorem qH {ρ : Type} {f : Int → Option (Int ⊕ (ρ ⊕ Unit))} (c : Nat → Bool) (g : Nat → ρ) : ∀ (n s : Nat),(∀ i,s ≤ i → i < s + n → f ((i : Int) + 1) = some (cond (c i) (.inr (.inl (g i))) (.inl ((i : Int) + 1 + 1)))) → f (((s + n : Nat) : Int) + 1) = some (.inr (.inr ())) →
  bQ f ((s : Int) + 1) = some (match (List.range' s n).find? c with
   | some i=>.inl (g i)
   | none=>.inr ())
 | 0,s,_,he=>by
  rw [cN,show f ((s : Int) + 1) = _ from he]
  rfl
 | n + 1,s,h,he=>by
  rw [cN,h s (Nat.le_refl _) (by omega),List.range'_succ,List.find?_cons]
  cases hc : c s with
  | true=>rfl
  | false =>
   have ih:=qH c g n (s + 1) (fun i h1 h2=>h i (by omega) (by omega)) (by rw [show s + 1 + n = s + (n + 1) by omega]; exact he)
   rw [show ((s + 1 : Nat) : Int) + 1 = (s : Int) + 1 + 1 by omega] at ih
   simp only [cond_false]
   exact ih
theorem yP {i : Nat} (hi : i < 21) : gw ((i : Int) + 1) = some (t3 i : Int):=by
 rcases oB hi with rfl | rfl | rfl | rfl | rfl | rfl | rfl | rfl | rfl | rfl | rfl | rfl | rfl | rfl | rfl | rfl | rfl | rfl | rfl | rfl | rfl <;> rfl
theorem yQ {i : Nat} (hi : i < 11) : gx ((i : Int) + 1) = some (t7 i : Int):=by
 rcases oB (show i < 21 by omega) with rfl | rfl | rfl | rfl | rfl | rfl | rfl | rfl | rfl | rfl | rfl | rfl | rfl | rfl | rfl | rfl | rfl | rfl | rfl | rfl | rfl <;> first | rfl | (exact absurd hi (by decide))
def Mt (i op f3 f7 : Nat) : Bool:=(tO i == op) && (bif Nat.blt i 11 then (t3 i == f3) && (t7 i == f7) else bif Nat.blt i 18 then t3 i == f3 else true)
def So (op f3 f7 : Nat) : Nat:=
 bif op == 51 then (match (List.range' 0 11).find? (fun i=>(f3 == t3 i) && (f7 == t7 i)) with
  | some i=>i + 1
  | none=>0) else
 bif op == 19 then (bif f3 == 0 then 12 else 13) else bif op == 3 then 14 else bif op == 103 then 15 else bif op == 35 then 16 else
 bif op == 99 then (bif f3 == 0 then 17 else 18) else bif op == 55 then 19 else bif op == 111 then 20 else bif op == 115 then 21 else 0
theorem yR {i op f3 f7 : Nat} (hi : i < 21) (h : Mt i op f3 f7 = true) : So op f3 f7 = i + 1:=by
  unfold Mt at h
  rw [Bool.and_eq_true] at h
  obtain ⟨h1,h2⟩:=h
  have e1:=eq_of_beq h1
  rcases oB hi with rfl | rfl | rfl | rfl | rfl | rfl | rfl | rfl | rfl | rfl | rfl | rfl | rfl | rfl | rfl | rfl | rfl | rfl | rfl | rfl | rfl
  all_goals (subst e1; first
    | (have h3 : ((t3 _ == f3) && (t7 _ == f7)) = true:=h2
       rw [Bool.and_eq_true] at h3
       have e2:=eq_of_beq h3.1
       have e3:=eq_of_beq h3.2
       subst e2
       subst e3
       rfl)
    | (have h3 : (t3 _ == f3) = true:=h2
       have e2:=eq_of_beq h3
       subst e2
       rfl)
    | rfl)
theorem jw (a b : Nat) : ((a : Int) == (b : Int)) = (a == b):=by
 rw [Bool.eq_iff_iff]
 simp only [beq_iff_eq]
 constructor <;> intro h <;> omega
theorem B6 (op f3 f7 : Nat) : So op f3 f7 ≤ 21:=by
 unfold So
 have h : ∀ o : Option Nat,o = (List.range' 0 11).find? (fun i=>(f3 == t3 i) && (f7 == t7 i)) → (match o with
  | some i=>i + 1
  | none=>0) ≤ 21:=by
  intro o ho
  cases o with
  | none=>exact Nat.zero_le _
  | some i =>
   have:=List.mem_of_find?_eq_some ho.symm
   simp at this
   show i + 1 ≤ 21
   omega
 have:=h _ rfl
 cases (op == 51) <;> cases (op == 19) <;> cases (op == 3) <;> cases (op == 103) <;> cases (op == 35) <;> cases (op == 99) <;> cases (op == 55) <;> cases (op == 111) <;> cases (op == 115) <;> cases (f3 == 0) <;> first | exact this | exact Nat.le_of_ble_eq_true rfl
theorem xA (u : Nat) (hu : u < 4294967296) : hY (u : Int) = some ((So (u / 2 ^ 0 % 2 ^ 7) (u / 2 ^ 12 % 2 ^ 3) (u / 2 ^ 25 % 2 ^ 7) : Nat) : Int):=by
 have b0:=aF u 0 7 hu (by omega) (by omega) (by omega)
 have b1:=aF u 12 3 hu (by omega) (by omega) (by omega)
 have b2:=aF u 25 7 hu (by omega) (by omega) (by omega)
 generalize u / 2 ^ 0 % 2 ^ 7 = op at b0 ⊢
 generalize u / 2 ^ 12 % 2 ^ 3 = f3 at b1 ⊢
 generalize u / 2 ^ 25 % 2 ^ 7 = f7 at b2 ⊢
 have loop:=qH (f:=jq (u : Int)) (fun i=>(f3 == t3 i) && (f7 == t7 i)) (fun i=>(i : Int) + 1) 11 0 (fun i _ h2=>by
  unfold jq
  rw [bD (decide_eq_true (by omega))]
  refine aa b1 (aa (yP (by omega)) ?_)
  refine aa (y:=(f3 == t3 i) && (f7 == t7 i)) ?_ ?_
  ·rw [jw]
   cases (f3 == t3 i)
   ·rfl
   ·refine aa b2 (aa (yQ (by omega)) ?_)
    rw [jw]
    rfl
  ·cases ((f3 == t3 i) && (f7 == t7 i))
   ·simp only [sel,cond_false]
    rw [aV (by omega) (by omega)]
   ·rfl) (by
  unfold jq
  exact ac rfl rfl)
 unfold hY So
 refine aa b0 ?_
 rw [show (51 : Int) = ((51 : Nat) : Int) from rfl,show (19 : Int) = ((19 : Nat) : Int) from rfl,show (103 : Int) = ((103 : Nat) : Int) from rfl,show (35 : Int) = ((35 : Nat) : Int) from rfl,show (99 : Int) = ((99 : Nat) : Int) from rfl,show (55 : Int) = ((55 : Nat) : Int) from rfl,show (111 : Int) = ((111 : Nat) : Int) from rfl,show (115 : Int) = ((115 : Nat) : Int) from rfl]
 simp only [jw]
 cases (op == 51)
 ·refine ac rfl ?_
  cases (op == 19)
  ·refine ac rfl ?_
   have b3 : ((op : Int) == 3) = (op == 3):=jw op 3
   rw [b3]
   cases (op == 3)
   ·refine ac rfl ?_
    cases (op == 103)
    ·refine ac rfl ?_
     cases (op == 35)
     ·refine ac rfl ?_
      cases (op == 99)
      ·refine ac rfl ?_
       cases (op == 55)
       ·refine ac rfl ?_
        cases (op == 111)
        ·refine ac rfl ?_
         cases (op == 115) <;> rfl
        ·rfl
       ·rfl
      ·refine cf rfl (aa b1 ?_)
       have b3 : ((f3 : Int) == 0) = (f3 == 0):=jw f3 0
       rw [b3]
       cases (f3 == 0) <;> rfl
     ·rfl
    ·rfl
   ·rfl
  ·refine cf rfl (aa b1 ?_)
   have b3 : ((f3 : Int) == 0) = (f3 == 0):=jw f3 0
   rw [b3]
   cases (f3 == 0) <;> rfl
 ·refine cf rfl ?_
  rw [show (1 : Int) = ((0 : Nat) : Int) + 1 from rfl,loop]
  cases (List.range' 0 11).find? (fun i=>(f3 == t3 i) && (f7 == t7 i)) <;> rfl
theorem yS (u : Nat) (hu : u < 4294967296) : aN .and .i64 (u : Int) 127 = ((u / 2 ^ 0 % 2 ^ 7 : Nat) : Int):=by
 have:=tz (a:=u) (k:=7) (by omega) (by omega)
 rw [Nat.pow_zero,Nat.div_one]
 exact this
theorem u0 (a b : Nat) : ((a : Int) != (b : Int)) = !(a == b):=by unfold bne; rw [jw]
theorem Al {x : ll} {i u o a b : Nat} (hu : u < 4294967296) (hi : i < 11) (h1 : x.opcode = o) (h2 : x.funct3 = a) (h3 : x.funct7 = b) :
  bP x ((i : Int) + 1) (u : Int) = some ((o == u / 2 ^ 0 % 2 ^ 7) && ((a == u / 2 ^ 12 % 2 ^ 3) && (b == u / 2 ^ 25 % 2 ^ 7))):=by
 have b1 : bL (u : Int) 12 3 = some ((u / 2 ^ 12 % 2 ^ 3 : Nat) : Int):=bE u 12 3 hu (by omega) (by omega) (by omega)
 have b2 : bL (u : Int) 25 7 = some ((u / 2 ^ 25 % 2 ^ 7 : Nat) : Int):=bE u 25 7 hu (by omega) (by omega) (by omega)
 unfold bP
 rw [h1,h2,h3,yS u hu,u0]
 generalize u / 2 ^ 0 % 2 ^ 7 = op
 generalize u / 2 ^ 12 % 2 ^ 3 = f3 at b1 ⊢
 generalize u / 2 ^ 25 % 2 ^ 7 = f7 at b2 ⊢
 cases (o == op)
 ·rfl
 ·refine ac rfl (aa (vI (by omega)) (cf rfl (aa b1 ?_)))
  rw [jw]
  cases (a == f3)
  ·rfl
  ·refine aa (y:=(b == f7)) (cf rfl (aa b2 ?_)) rfl
   rw [jw]
theorem Am {x : ll} {i u o a : Nat} (hu : u < 4294967296) (hi : 11 ≤ i) (hi2 : i < 18) (h1 : x.opcode = o) (h2 : x.funct3 = a) :
  bP x ((i : Int) + 1) (u : Int) = some ((o == u / 2 ^ 0 % 2 ^ 7) && (a == u / 2 ^ 12 % 2 ^ 3)):=by
 have b1 : bL (u : Int) 12 3 = some ((u / 2 ^ 12 % 2 ^ 3 : Nat) : Int):=bE u 12 3 hu (by omega) (by omega) (by omega)
 unfold bP
 rw [h1,h2,yS u hu,u0]
 generalize u / 2 ^ 0 % 2 ^ 7 = op
 generalize u / 2 ^ 12 % 2 ^ 3 = f3 at b1 ⊢
 cases (o == op)
 ·rfl
 ·rcases (by omega : i < 15 ∨ i = 15 ∨ 16 ≤ i) with h | h | h
  ·exact ac rfl (aa (vJ (by omega)) (ac rfl (aa (y:=true) rfl (cf rfl (aa b1 (by rw [jw,Bool.true_and]))))))
  ·exact ac rfl (aa (uX (by omega)) (ac rfl (aa (y:=true) rfl (cf rfl (aa b1 (by rw [jw,Bool.true_and]))))))
  ·exact ac rfl (aa (vK (by omega)) (ac rfl (aa (y:=true) rfl (cf rfl (aa b1 (by rw [jw,Bool.true_and]))))))
theorem An {x : ll} {i u o : Nat} (hu : u < 4294967296) (hi : 18 ≤ i) (hi2 : i < 21) (h1 : x.opcode = o) :
  bP x ((i : Int) + 1) (u : Int) = some ((o == u / 2 ^ 0 % 2 ^ 7) && true):=by
 unfold bP
 rw [h1,yS u hu,u0]
 generalize u / 2 ^ 0 % 2 ^ 7 = op
 cases (o == op)
 ·rfl
 ·rcases (by omega : i = 18 ∨ i = 19 ∨ i = 20) with rfl | rfl | rfl <;> rfl
theorem yT {i u : Nat} (hu : u < 4294967296) (hi : i < 21) : ∃ x,nth kB (i : Int) = some x ∧ bP x ((i : Int) + 1) (u : Int) = some (Mt i (u / 2 ^ 0 % 2 ^ 7) (u / 2 ^ 12 % 2 ^ 3) (u / 2 ^ 25 % 2 ^ 7)):=by
 rcases oB hi with rfl | rfl | rfl | rfl | rfl | rfl | rfl | rfl | rfl | rfl | rfl | rfl | rfl | rfl | rfl | rfl | rfl | rfl | rfl | rfl | rfl
 all_goals first
  | exact ⟨_,rfl,Al hu (by decide) rfl rfl rfl⟩
  | exact ⟨_,rfl,Am hu (by decide) (by decide) rfl rfl⟩
  | exact ⟨_,rfl,An hu (by decide) (by decide) rfl⟩
end

end Go.Proofs.YtcljimkjmklkmaaGreatDoor.N
