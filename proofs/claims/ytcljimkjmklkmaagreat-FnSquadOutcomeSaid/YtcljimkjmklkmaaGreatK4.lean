/- Plain laws: the program's codes are valid as the reference's are; numbers' bits; the instructions of a quad. Plain laws: the instructions of a quad, of a code: the program's are the reference's. Plain laws: the instructions of a code: the program's are the reference's; places, jumps, colors. Plain laws: the instructions of a valid quad, of a valid code, are valid. Plain laws: lists of instructions are drawn. Plain laws: an image is drawn. Plain laws: machines are the same as themselves; drawn images; runs. Plain laws: what is encoded is decoded again; a new hart. Plain laws: capacities and instructions are drawn; squads; loops that gather. Plain law: a new squad has a hart for each task. Plain laws: the instructions of a code, one by one: what is known of the registers at each place; a hart's step. Plain laws: a hart with a code's instructions: each step is one of a machine. Plain laws: what is drawn are the instructions of codes. Plain laws: a squad of codes: it never faults. Plain laws: runs of squads; squads are drawn. Plain law: an outcome is that of a squad. Printed by a program of mine: that the program's functions compute it. -/
import Derived.Test.YtcljimkjmklkmaaGreatK3
set_option linter.unusedVariables false
set_option linter.unusedSimpArgs false
set_option maxRecDepth 100000
set_option maxHeartbeats 4000000
namespace Go.Proofs.YtcljimkjmklkmaaGreat.N
open Go.Proofs.YtcljimkjmklkmaaGreat.X
theorem iword_eq (n : Int) : f1j n = some (decide (Wd n)):=by
 unfold f1j
 congr 1
 unfold Wd
 by_cases h1 : -2147483648 ≤ n <;> by_cases h2 : n ≤ 2147483647 <;> simp [h1,h2]
theorem pow_eq {n : Nat} (h : n ≤ 32) : f0z (n : Int) = some ((2 ^ n : Nat) : Int):=by
 refine Tot.eq ?_
 unfold f0z
 refine .bind (P:=fun r=>r = ((2 ^ n : Nat) : Int)) (.iter (fun s=>0 ≤ s.2 ∧ s.2 ≤ (n : Int) ∧ s.1 = ((2 ^ s.2.toNat : Nat) : Int)) (fun s=>((n : Int) - s.2).toNat) ⟨by simp,by simp,rfl⟩ fun s hs=>?_) fun r hr=>.pure hr
 obtain ⟨c,i⟩:=s
 obtain ⟨g0,g1,g2⟩:=hs
 simp only at g0 g1 g2
 unfold f3m
 refine .sel (fun h=>.inl ?_) fun h=>.inr (show c = _ from ?_)
 ·simp only [decide_eq_true_eq] at h
  have hp : 2 ^ i.toNat ≤ 2 ^ 32:=Nat.pow_le_pow_right (by omega) (by omega)
  have h32 : (2 : Nat) ^ 32 = 4294967296:=by decide
  have e : 2 ^ (i + 1).toNat = 2 ^ i.toNat * 2:=by rw [show (i + 1).toNat = i.toNat + 1 by omega,Nat.pow_succ]
  dsimp only
  rw [w64_up g0 (by omega),w64_s (by omega) (by omega)]
  exact ⟨⟨by omega,by omega,by rw [e,g2]; omega⟩,by omega⟩
 ·simp only [decide_eq_false_iff_not] at h
  rw [g2,show i = (n : Int) by omega]; rfl
theorem sbits_eq {u : Int} (h0 : 0 ≤ u) (h1 : u ≤ 4294967295) {lo n : Nat} (hn : 1 ≤ n) (h : lo + n ≤ 32) : f08 u lo n = some (u / ((2 ^ lo : Nat) : Int) % ((2 ^ n : Nat) : Int)):=by
 unfold f08
 have e1 : (decide ((0 : Int) ≤ (lo : Int)) && decide ((lo : Int) ≤ 31)) = true:=by simp; omega
 have e2 : (decide ((0 : Int) ≤ u) && decide (u ≤ 4294967295)) = true:=by simp; omega
 rw [in_eq,e2,Option.bind_some,Bool.not_true,sel_false rfl,in_eq,e1]
 simp only [Option.bind_some,Bool.not_true]
 rw [sel_false rfl,w64_s (by omega) (by omega),in_eq]
 have e3 : (decide ((1 : Int) ≤ (n : Int)) && decide ((n : Int) ≤ 32 - (lo : Int))) = true:=by simp; omega
 rw [e3]
 simp only [Option.bind_some,Bool.not_true]
 rw [sel_false rfl,pow_eq (by omega),Option.bind_some]
 have p1 : 0 < 2 ^ lo:=Nat.two_pow_pos lo
 have p2 : 0 < 2 ^ n:=Nat.two_pow_pos n
 obtain ⟨k,rfl⟩:=Int.eq_ofNat_of_zero_le h0
 have hk : k / 2 ^ lo ≤ k:=Nat.div_le_self _ _
 have hq : quoO .i64 (k : Int) ((2 ^ lo : Nat) : Int) = some ((k / 2 ^ lo : Nat) : Int):=by
  unfold quoO
  rw [if_neg (by omega)]
  congr 1
  have hx : ∀ x : Nat,x ≤ k → w64 (x : Int) = x:=fun x hx=>w64_s (by omega) (by omega)
  exact hx _ hk
 rw [hq,Option.bind_some,pow_eq (by omega),Option.bind_some]
 unfold remO
 rw [if_neg (by omega)]
 simp only [Option.bind_some]
 rfl
theorem ibits_eq {u : Int} (h0 : 0 ≤ u) (h1 : u ≤ 4294967295) {lo n : Nat} (hn : 1 ≤ n) (h : lo + n ≤ 32) : f0o u lo n = some (u / ((2 ^ lo : Nat) : Int) % ((2 ^ n : Nat) : Int)):=by
 unfold f0o f55
 rw [Option.bind_some,w64_s (by omega) (by omega),sel_false (by simp; omega)]
 obtain ⟨k,rfl⟩:=Int.eq_ofNat_of_zero_le h0
 have p1 : (2 : Nat) ^ n ≤ 2 ^ 32:=Nat.pow_le_pow_right (by omega) (by omega)
 have h32 : (2 : Nat) ^ 32 = 4294967296:=by decide
 have p2 : 0 < 2 ^ n:=Nat.two_pow_pos n
 have hk : k / 2 ^ lo ≤ k:=Nat.div_le_self _ _
 rw [shr_nat (by omega),Option.bind_some]
 have hs:=shl_nat (x:=1) (k:=n) (by omega) (by omega)
 rw [Nat.one_mul] at hs
 rw [show ((1 : Nat) : Int) = 1 from rfl] at hs
 rw [hs,Option.bind_some,w64_s (by omega) (by omega),mask_nat (by omega) (by omega)]
 rfl
theorem unsigned_eq {n : Int} (h : Wd n) : f1g n = some (n % 4294967296) ∧ f1h n = some (n % 4294967296):=by
 unfold f1g f1h
 rw [word_eq,iword_eq,decide_eq_true h]
 simp only [Option.bind_some,Bool.not_true]
 rw [sel_false rfl,sel_false rfl]
 have hu : kwrap .u32 n = n % 4294967296:=by
  rw [kwrap_eq]
  simp [IntKind.wrap,IntKind.signed,IntKind.bits]
 unfold Wd at h
 rw [hu,w64_s (i:=n % 4294967296) (by omega) (by omega)]
 refine ⟨?_,rfl⟩
 refine Tot.eq (.sel (fun h'=>.pure ?_) fun h'=>.pure ?_)
 ·simp only [decide_eq_true_eq] at h'
  rw [w64_s (by omega) (by omega)]; omega
 ·simp only [decide_eq_false_iff_not] at h'
  omega
theorem swrap_eq {n : Int} : f0n n = some (if 2147483648 ≤ n % 4294967296 then n % 4294967296 - 4294967296 else n % 4294967296):=by
 refine Tot.eq ?_
 unfold f0n
 have hm : n.tmod 4294967296 = if 0 ≤ n ∨ n % 4294967296 = 0 then n % 4294967296 else n % 4294967296 - 4294967296:=by
  rw [Int.tmod_eq_emod]
  simp only [Int.dvd_iff_emod_eq_zero]
  split <;> simp
 rw [hm]
 refine .sel (fun h=>.pure ?_) fun h=>.sel (fun h'=>.pure ?_) fun h'=>.pure ?_
 all_goals simp only [decide_eq_true_eq,decide_eq_false_iff_not] at *
 ·rw [w64_s (by split <;> omega) (by split <;> omega)]; split <;> split <;> split at h <;> omega
 ·rw [w64_s (by split <;> omega) (by split <;> omega)]; split <;> split <;> split at h' <;> omega
 ·split <;> split <;> omega
theorem sext_eq {x : Int} (h0 : 0 ≤ x) (h1 : x < 4096) : f14 x 12 = some (if 2048 ≤ x then x - 4096 else x) ∧ f1z x 12 = some (if 2048 ≤ x then x - 4096 else x):=by
 have e12 : f0z 12 = some 4096:=pow_eq (n:=12) (by omega)
 have e11 : f0z 11 = some 2048:=pow_eq (n:=11) (by omega)
 have s12 : shO .shl .i64 1 12 = some 4096:=by decide
 have s11 : shO .shl .i64 1 11 = some 2048:=by decide
 have w12 : w64 (12 - 1) = 11:=by decide
 have w13 : w64 (4096 - 1) = 4095:=by decide
 constructor
 ·unfold f14
  simp only [in_eq,e12,w12,e11,Option.bind_some,w13]
  rw [sel_false (b:=!_) (by decide)]
  simp only [Option.bind_some]
  rw [sel_false (by simp; omega)]
  refine Tot.eq (.sel (fun h=>.pure ?_) fun h=>.pure ?_)
  ·simp at h; rw [if_pos h,w64_s (by omega) (by omega)]
  ·simp at h; rw [if_neg (by omega)]
 ·unfold f1z
  simp only [s12,w12,s11,Option.bind_some]
  rw [sel_false (b:=_ || _) (by simp; omega)]
  simp only [Option.bind_some]
  rw [sel_false (by simp; omega)]
  refine Tot.eq (.sel (fun h=>.pure ?_) fun h=>.pure ?_)
  ·simp at h; rw [if_pos h,w64_s (by omega) (by omega)]
  ·simp at h; rw [if_neg (by omega)]
def lo12 (n : Int) : Int:=if 2048 ≤ n % 4096 then n % 4096 - 4096 else n % 4096
def hi20 (n : Int) : Int:=(n - lo12 n) % 4294967296 / 4096
def constL (rd n : Int) : List Instr:=if -2048 ≤ n ∧ n ≤ 2047 then [⟨12,rd,0,0,n⟩] else [⟨19,rd,0,0,hi20 n⟩,⟨12,rd,rd,0,lo12 n⟩]
theorem const_eq {rd n : Int} (h : Wd n) : f71 rd n = some (constL rd n):=by
 have hu:=unsigned_eq h
 have hb1 : ∀ {u : Int},0 ≤ u → u ≤ 4294967295 → f08 u 0 12 = some (u % 4096) ∧ f0o u 0 12 = some (u % 4096):=fun h0 h1=>by
  have a:=sbits_eq h0 h1 (lo:=0) (n:=12) (by omega) (by omega)
  have b:=ibits_eq h0 h1 (lo:=0) (n:=12) (by omega) (by omega)
  simp at a b
  exact ⟨a,b⟩
 have hb2 : ∀ {u : Int},0 ≤ u → u ≤ 4294967295 → f08 u 12 20 = some (u / 4096 % 1048576) ∧ f0o u 12 20 = some (u / 4096 % 1048576):=fun h0 h1=>by
  have a:=sbits_eq h0 h1 (lo:=12) (n:=20) (by omega) (by omega)
  have b:=ibits_eq h0 h1 (lo:=12) (n:=20) (by omega) (by omega)
  simp at a b
  exact ⟨a,b⟩
 have hw:=h
 unfold Wd at hw
 have e0 : n % 4294967296 % 4096 = n % 4096:=by omega
 have hl : -2048 ≤ lo12 n ∧ lo12 n ≤ 2047:=by unfold lo12; split <;> omega
 have hwd : ∀ m : Int,Wd (if 2147483648 ≤ m % 4294967296 then m % 4294967296 - 4294967296 else m % 4294967296):=fun m=>by unfold Wd; split <;> omega
 have e1 : ∀ m : Int,(if 2147483648 ≤ m % 4294967296 then m % 4294967296 - 4294967296 else m % 4294967296) % 4294967296 = m % 4294967296:=fun m=>by split <;> omega
 have e2 : (n - lo12 n) % 4294967296 / 4096 % 1048576 = hi20 n:=by unfold hi20; omega
 ·unfold f71 constL
  rw [in_eq,Option.bind_some]
  refine Tot.eq (.sel (fun h=>.pure ?_) fun h=>?_)
  ·simp at h; rw [if_pos h]
  ·rw [if_neg (by simp at h; omega),hu.1,Option.bind_some,(hb1 (by omega) (by omega)).1,Option.bind_some,(sext_eq (by omega) (by omega)).1,Option.bind_some,e0]
   rw [show (if 2048 ≤ n % 4096 then n % 4096 - 4096 else n % 4096) = lo12 n from rfl,w64_s (by omega) (by omega),swrap_eq,Option.bind_some,(unsigned_eq (hwd _)).1,Option.bind_some,e1,(hb2 (by omega) (by omega)).1,Option.bind_some,e2]
   refine .bind (.app (by simp)) fun r hr=>.pure ?_
   subst hr; rfl
end Go.Proofs.YtcljimkjmklkmaaGreat.N
namespace Go.Proofs.YtcljimkjmklkmaaGreat.N
open Go.Proofs.YtcljimkjmklkmaaGreat.X
def binInstrs : List Int:=[7,8,6,8,11,9,10,1,2,3,4,5]
def colorRegs : List Int:=[8,9,18,19,20,21,22,23]
def rgOf (c p s : Int) : Int:=if p < c then (colorRegs[p.toNat]?).getD 0 else s
def rdL (c p s : Int) : List Instr:=if p < c then [] else [⟨14,s,2,0,4 * (p - c)⟩]
def wrL (c p : Int) : List Instr:=if p < c then [] else [⟨16,0,2,7,4 * (p - c)⟩]
def callL (n : Int) : List Instr:=[⟨12,17,0,0,n⟩,⟨15,1,0,0,0⟩]
def opOf (n : Int) : Int:=(binInstrs[(n - 1).toNat]?).getD 0
def quadL (q : Quad) (c off : Int) : List Instr:=
 if q.Op = 1 then constL (rgOf c q.Dst 7) q.N ++ wrL c q.Dst
 else if q.Op = 2 then rdL c q.A 5 ++ [⟨12,rgOf c q.Dst 7,rgOf c q.A 5,0,0⟩] ++ wrL c q.Dst
 else if q.Op = 3 then rdL c q.A 5 ++ rdL c q.B 6 ++ [⟨opOf q.N,rgOf c q.Dst 7,rgOf c q.A 5,rgOf c q.B 6,0⟩] ++ (if q.N = 4 then [⟨13,rgOf c q.Dst 7,rgOf c q.Dst 7,0,1⟩] else []) ++ wrL c q.Dst
 else if q.Op = 4 then [⟨20,0,0,0,off⟩]
 else if q.Op = 5 then rdL c q.A 5 ++ [⟨18,0,rgOf c q.A 5,0,8⟩] ++ [⟨20,0,0,0,off - 4 * ((rdL c q.A 5).length + 1)⟩]
 else if q.Op = 6 then rdL c q.A 5 ++ [⟨12,10,rgOf c q.A 5,0,0⟩,⟨12,11,0,0,q.N⟩] ++ callL 1
 else if q.Op = 7 then [⟨12,11,0,0,q.N⟩] ++ callL 2 ++ [⟨12,rgOf c q.Dst 7,10,0,0⟩] ++ wrL c q.Dst
 else if q.Op = 8 then callL 3
 else if q.Op = 9 then rdL c q.A 5 ++ [⟨12,10,rgOf c q.A 5,0,0⟩] ++ callL 4
 else callL 5
theorem rd_len (c p s : Int) : (rdL c p s).length ≤ 1:=by unfold rdL; split <;> simp
theorem wr_len (c p : Int) : (wrL c p).length ≤ 1:=by unfold wrL; split <;> simp
theorem const_len (r n : Int) : 1 ≤ (constL r n).length ∧ (constL r n).length ≤ 2:=by unfold constL; split <;> simp
theorem sreg_eq {c p s : Int} (hc : 1 ≤ c ∧ c ≤ 8) (hp : Rg p) : f29 p c s = some (rgOf c p s):=by
 refine Tot.eq ?_
 unfold f29 rgOf Rg at *
 refine .sel (fun h=>.pure (by simp at h; rw [if_neg (by omega)])) fun h=>?_
 simp at h
 refine .bind (.nth (by omega) (by simp; omega)) fun x ⟨hx,_⟩=>.pure ?_
 rw [if_pos h]
 show x = ((colorRegs[p.toNat]?).getD 0)
 unfold colorRegs
 rw [hx]; rfl
theorem sread_eq {c p s : Int} (hc : 1 ≤ c ∧ c ≤ 8) (hp : Rg p) : f2l p c s = some (rdL c p s):=by
 refine Tot.eq ?_
 unfold f2l rdL Rg at *
 refine .sel (fun h=>.pure (by simp at h; rw [if_pos h])) fun h=>.pure ?_
 simp at h
 rw [if_neg (by omega),w64_s (i:=p - c) (by omega) (by omega),w64_s (by omega) (by omega)]
theorem swrite_eq {c p : Int} (hc : 1 ≤ c ∧ c ≤ 8) (hp : Rg p) {l : List Instr} (hl : l.length ≤ 1000) : f2u l p c = some (l ++ wrL c p):=by
 refine Tot.eq ?_
 unfold f2u wrL Rg at *
 refine .sel (fun h=>.pure (by simp at h; rw [if_pos h,List.append_nil])) fun h=>?_
 simp at h
 rw [if_neg (by omega),w64_s (i:=p - c) (by omega) (by omega),w64_s (by omega) (by omega)]
 exact .bind (.app (by simp; omega)) fun r hr=>.pure hr
theorem scall_eq {n : Int} {l : List Instr} (hl : l.length ≤ 1000) : f2n l n = some (l ++ callL n):=by
 refine Tot.eq ?_
 unfold f2n
 refine .bind (.app (by simp; omega)) fun r hr=>.bind (.app (by subst hr; simp; omega)) fun r2 hr2=>.pure ?_
 subst hr hr2; simp [callL]
theorem opnth {n : Int} (h : 1 ≤ n ∧ n ≤ 12) : nth binInstrs (w64 (n - 1)) = some (opOf n):=by
 rw [w64_s (by omega) (by omega)]
 refine (Tot.nth (l:=binInstrs) (i:=n - 1) (by omega) (by simp [binInstrs]; omega)).mono (Q:=fun x=>x = opOf n) (fun x ⟨hx,_⟩=>?_) |>.eq
 unfold opOf; rw [hx]; rfl
theorem sop_eq {n : Int} (h : 1 ≤ n ∧ n ≤ 12) : fa7 n = some (opOf n):=by
 unfold fa7
 have:=opnth h
 unfold binInstrs at this
 rw [this]; rfl
theorem sgive_eq {c p : Int} (hc : 1 ≤ c ∧ c ≤ 8) (hp : Rg p) : f5y p c = some (rdL c p 5 ++ [⟨12,10,rgOf c p 5,0,0⟩]):=by
 refine Tot.eq ?_
 unfold f5y f3d
 rw [sread_eq hc hp,sreg_eq hc hp]
 simp only [Option.bind_some]
 have:=rd_len c p 5
 exact .bind (.app (by simp; omega)) fun r hr=>.pure hr
theorem squad_eq {q : Quad} {m c off : Int} (hq : QOk m q) (hc : 1 ≤ c ∧ c ≤ 8) (ho : -1000000 ≤ off ∧ off ≤ 1000000) : f65 q c off = some (quadL q c off):=by
 have hd : Rg q.Dst:=by unfold QOk at hq; unfold Rg at *; omega
 have l1:=rd_len c q.A 5
 have l2:=rd_len c q.B 6
 refine Tot.eq ?_
 unfold f65 quadL
 rw [sreg_eq hc hd,Option.bind_some]
 refine .sel (fun h=>?_) fun h1=>.sel (fun h=>?_) fun h2=>.sel (fun h=>?_) fun h3=>.sel (fun h=>?_) fun h4=>.sel (fun h=>?_) fun h5=>.sel (fun h=>?_) fun h6=>.sel (fun h=>?_) fun h7=>.sel (fun h=>?_) fun h8=>.sel (fun h=>?_) fun h9=>?_
 all_goals
  simp only [beq_iff_eq,beq_eq_false_iff_ne,ne_eq] at *
  unfold QOk at hq
 ·simp [h] at hq
  have:=const_len (rgOf c q.Dst 7) q.N
  rw [if_pos h,const_eq hq.2.2.2,Option.bind_some,swrite_eq hc hd (by omega)]; exact .pure rfl
 ·simp [h] at hq
  rw [if_neg h1,if_pos h,sread_eq hc hq.2.1,sreg_eq hc hq.2.1]
  simp only [Option.bind_some,f3d]
  refine .bind (.app (by simp; omega)) fun r hr=>?_
  rw [swrite_eq hc hd (by subst hr; simp; omega),hr]; exact .pure rfl
 ·simp [h] at hq
  rw [if_neg h1,if_neg h2,if_pos h]
  refine .bind (P:=fun r=>r = _) ?_ fun r hr=>.pure hr
  unfold fak
  rw [sread_eq hc hq.2.1,sread_eq hc hq.2.2.1,sreg_eq hc hq.2.1,sreg_eq hc hq.2.2.1,sreg_eq hc hd,sop_eq hq.2.2.2]
  simp only [Option.bind_some]
  refine .bind (.app (by omega)) fun r hr=>.bind (.app (by subst hr; simp; omega)) fun r2 hr2=>?_
  have e2 : r2.length ≤ 3:=by subst hr hr2; simp; omega
  refine .bind (P:=fun y=>y = r2 ++ (if q.N = 4 then [⟨13,rgOf c q.Dst 7,rgOf c q.Dst 7,0,1⟩] else []) ∧ y.length ≤ 4) (.sel (fun h=>.bind (.app (by simp; omega)) fun r3 hr3=>.pure ?_) fun h=>.pure ?_) fun y ⟨hy,hyl⟩=>?_
  ·simp at h; rw [if_pos h,hr3]; exact ⟨rfl,by simp; omega⟩
  ·simp at h; rw [if_neg h,List.append_nil]; exact ⟨rfl,by omega⟩
  ·rw [swrite_eq hc hd (by omega),hy,hr2,hr]
   exact .pure (by simp)
 ·rw [if_neg h1,if_neg h2,if_neg h3,if_pos h]; exact .pure rfl
 ·simp [h] at hq
  rw [if_neg h1,if_neg h2,if_neg h3,if_neg h4,if_pos h]
  refine .bind (P:=fun r=>r = _) ?_ fun r hr=>.pure hr
  unfold fa0
  rw [sread_eq hc hq.2.1,sreg_eq hc hq.2.1]
  simp only [Option.bind_some]
  refine .bind (.app (by simp; omega)) fun r hr=>?_
  have e1 : r.length = (rdL c q.A 5).length + 1:=by subst hr; simp
  rw [w64_s (i:=4 * (r.length : Int)) (by omega) (by omega),w64_s (by omega) (by omega)]
  refine .bind (.app (by simp; omega)) fun r2 hr2=>.pure ?_
  rw [hr2,e1,hr]; simp
 ·simp [h] at hq
  rw [if_neg h1,if_neg h2,if_neg h3,if_neg h4,if_neg h5,if_pos h,sgive_eq hc hq.2.1]
  simp only [Option.bind_some,f7f]
  refine .bind (.app (by simp; omega)) fun r hr=>?_
  rw [scall_eq (by subst hr; simp; omega),hr]; exact .pure (by simp)
 ·simp [h] at hq
  rw [if_neg h1,if_neg h2,if_neg h3,if_neg h4,if_neg h5,if_neg h6,if_pos h]
  simp only [Option.bind_some,f7f,f3d]
  rw [scall_eq (by simp),Option.bind_some]
  refine .bind (.app (by simp [callL])) fun r hr=>?_
  rw [swrite_eq hc hd (by subst hr; simp [callL]),hr]; exact .pure (by simp)
 ·rw [if_neg h1,if_neg h2,if_neg h3,if_neg h4,if_neg h5,if_neg h6,if_neg h7,if_pos h,scall_eq (by simp)]; exact .pure (by simp)
 ·simp [h] at hq
  rw [if_neg h1,if_neg h2,if_neg h3,if_neg h4,if_neg h5,if_neg h6,if_neg h7,if_neg h8,if_pos h,sgive_eq hc hq.2.1,Option.bind_some,scall_eq (by simp; omega)]; exact .pure (by simp)
 ·rw [if_neg h1,if_neg h2,if_neg h3,if_neg h4,if_neg h5,if_neg h6,if_neg h7,if_neg h8,if_neg h9,scall_eq (by simp)]; exact .pure (by simp)
theorem quadL_len (q : Quad) (c off : Int) : 1 ≤ (quadL q c off).length ∧ (quadL q c off).length ≤ 6 ∧ (quadL q c off).length = (quadL q c 0).length:=by
 have l1:=rd_len c q.A 5
 have l2:=rd_len c q.B 6
 have l3:=wr_len c q.Dst
 have l4:=const_len (rgOf c q.Dst 7) q.N
 unfold quadL callL
 split
 ·simp; omega
 split
 ·simp; omega
 split
 ·split <;> simp <;> omega
 split
 ·simp
 split
 ·simp; omega
 split
 ·simp; omega
 split
 ·simp; omega
 split
 ·simp
 split
 ·simp; omega
 ·simp
end Go.Proofs.YtcljimkjmklkmaaGreat.N
namespace Go.Proofs.YtcljimkjmklkmaaGreat.N
open Go.Proofs.YtcljimkjmklkmaaGreat.X
def qAt (code : List Quad) (i : Nat) : Quad:=(code[i]?).getD ⟨0,0,0,0,0⟩
theorem qAt_of {code : List Quad} {i : Nat} {q : Quad} (h : code[i]? = some q) : qAt code i = q:=by unfold qAt; rw [h]; rfl
def pl (code : List Quad) (c : Int) : Nat → Nat
 | 0=>0
 | i + 1=>pl code c i + (quadL (qAt code i) c 0).length
def offL (code : List Quad) (c : Int) (i : Nat) : Int:=if (qAt code i).Op = 4 ∨ (qAt code i).Op = 5 then 4 * ((pl code c (qAt code i).N.toNat : Int) - pl code c i) else 0
def blk (code : List Quad) (c : Int) (i : Nat) : List Instr:=quadL (qAt code i) c (offL code c i)
def tk (code : List Quad) (c : Int) : Nat → List Instr
 | 0=>[]
 | i + 1=>tk code c i ++ blk code c i
def plL (code : List Quad) (c : Int) (n : Nat) : List Int:=(List.range n).map fun i=>(pl code c i : Int)
theorem pl_le (code : List Quad) (c : Int) : ∀ i,pl code c i ≤ 6 * i
 | 0=>Nat.le_refl _
 | i + 1=>by have:=pl_le code c i; have:=(quadL_len (qAt code i) c 0).2.1; simp only [pl]; omega
theorem tk_len (code : List Quad) (c : Int) : ∀ i,(tk code c i).length = pl code c i
 | 0=>rfl
 | i + 1=>by simp only [tk,pl,List.length_append,tk_len code c i,blk,(quadL_len (qAt code i) c (offL code c i)).2.2]
theorem plL_get {code : List Quad} {c : Int} {n i : Nat} (h : i < n) : (plL code c n)[i]? = some (pl code c i : Int):=by simp [plL,h]
theorem plL_len (code : List Quad) (c : Int) (n : Nat) : (plL code c n).length = n:=by simp [plL]
theorem plL_nth {code : List Quad} {c : Int} {n : Nat} {i : Int} (h0 : 0 ≤ i) (h : i < n) : nth (plL code c n) i = some (pl code c i.toNat : Int):=by
 refine (Tot.nth (l:=plL code c n) h0 (by rw [plL_len]; exact h)).mono (Q:=fun x=>x = (pl code c i.toNat : Int)) (fun x ⟨hx,_⟩=>?_) |>.eq
 rw [plL_get (by omega)] at hx
 injection hx with hx
 exact hx.symm
theorem plL_succ (code : List Quad) (c : Int) (n : Nat) : plL code c (n + 1) = plL code c n ++ [(pl code c n : Int)]:=by simp [plL,List.range_succ]
theorem COk.at {code : List Quad} (hc : COk code) {i : Int} (h0 : 0 ≤ i) (h1 : i < code.length) : ∃ q,nth code i = some q ∧ qAt code i.toNat = q ∧ QOk code.length q:=by
 obtain ⟨q,e,h2,h3⟩:=Tot.nth (l:=code) h0 h1
 exact ⟨q,e,qAt_of h2,hc.q q h3⟩
theorem splaces_eq {code : List Quad} (hc : COk code) {c : Int} (h : 1 ≤ c ∧ c ≤ 8) : f5o code c = some (plL code c code.length):=by
 have hmx:=hc.max
 refine Tot.eq ?_
 unfold f5o
 refine .bind (P:=fun r=>r = plL code c code.length) (.iter (fun s=>0 ≤ s.2.2 ∧ s.2.2 ≤ (code.length : Int) ∧ s.1 = plL code c s.2.2.toNat ∧ s.2.1 = (pl code c s.2.2.toNat : Int)) (fun s=>((code.length : Int) - s.2.2).toNat) ⟨by simp,by simp,rfl,rfl⟩ fun s hs=>?_) fun r hr=>.pure hr
 obtain ⟨out,a,i⟩:=s
 obtain ⟨g0,g1,g2,g3⟩:=hs
 simp only at g0 g1 g2 g3
 unfold f8r
 refine .sel (fun hlt=>?_) fun hge=>.inr (show out = _ from ?_)
 ·simp only [decide_eq_true_eq] at hlt
  obtain ⟨q,e1,e2,hq⟩:=hc.at g0 hlt
  have hl:=plL_len code c i.toNat
  have h6:=pl_le code c i.toNat
  have hql:=(quadL_len q c 0).2.1
  refine .bind (.app (by subst g2; simp; omega)) fun r hr=>?_
  dsimp only
  rw [e1,Option.bind_some,squad_eq hq h (by omega),Option.bind_some,w64_up g0 (by omega),w64_s (by omega) (by omega)]
  have e3 : (i + 1).toNat = i.toNat + 1:=by omega
  refine .inl ⟨⟨by simp only; omega,by simp only; omega,?_,?_⟩,by simp only; omega⟩
  ·simp only; rw [e3,plL_succ,hr,g2,g3]
  ·simp only; rw [e3,pl,e2,g3]; simp
 ·simp only [decide_eq_false_iff_not] at hge
  rw [g2,show i.toNat = code.length by omega]
theorem off_small {code : List Quad} (hc : COk code) {c : Int} {i : Nat} (hi : i < code.length) : -1000000 ≤ offL code c i ∧ offL code c i ≤ 1000000:=by
 have hmx:=hc.max
 have hq:=hc.q _ (List.mem_of_getElem? (List.getElem?_eq_getElem hi))
 have e : qAt code i = code[i]:=qAt_of (List.getElem?_eq_getElem hi)
 unfold offL
 rw [e]
 split
 ·rename_i h
  have hN : 0 ≤ (code[i]).N ∧ (code[i]).N < code.length:=by unfold QOk at hq; rcases h with h | h <;> simp [h] at hq <;> omega
  have h1:=pl_le code c (code[i]).N.toNat
  have h2:=pl_le code c i
  omega
 ·omega
theorem stask_eq {code : List Quad} (hc : COk code) {c : Int} (h : 1 ≤ c ∧ c ≤ 8) : f8b code c = some (tk code c code.length):=by
 have hmx:=hc.max
 refine Tot.eq ?_
 unfold f8b
 rw [splaces_eq hc h,Option.bind_some]
 refine .bind (P:=fun r=>r = tk code c code.length) (.iter (fun s=>0 ≤ s.2 ∧ s.2 ≤ (code.length : Int) ∧ s.1 = tk code c s.2.toNat) (fun s=>((code.length : Int) - s.2).toNat) ⟨by simp,by simp,rfl⟩ fun s hs=>?_) fun r hr=>.pure hr
 obtain ⟨out,i⟩:=s
 obtain ⟨g0,g1,g2⟩:=hs
 simp only at g0 g1 g2
 unfold faa
 refine .sel (fun hlt=>?_) fun hge=>.inr (show out = _ from ?_)
 ·simp only [decide_eq_true_eq] at hlt
  obtain ⟨q,e1,e2,hq⟩:=hc.at g0 hlt
  have h6:=pl_le code c i.toNat
  have hql:=(quadL_len q c (offL code c i.toNat)).2.1
  have hof:=off_small hc (c:=c) (i:=i.toNat) (by omega)
  dsimp only
  rw [e1]
  simp only [Option.bind_some]
  refine .bind (P:=fun y=>y = offL code c i.toNat) (.bind (P:=fun b=>b = true ↔ (q.Op = 4 ∨ q.Op = 5)) (.sel (fun h=>.pure ?_) fun h=>.pure ?_) fun b hb=>.sel (fun h=>?_) fun h=>.pure ?_) fun y hy=>?_
  ·simp at h; simp [h]
  ·simp at h; simp [h]
  ·have ho:=hb.1 h
   have hN : 0 ≤ q.N ∧ q.N < code.length:=by unfold QOk at hq; rcases ho with h | h <;> simp [h] at hq <;> omega
   have h7:=pl_le code c q.N.toNat
   rw [plL_nth hN.1 hN.2,plL_nth g0 hlt,Option.bind_some,Option.bind_some,w64_s (i:=_ - _) (by omega) (by omega),w64_s (by omega) (by omega)]
   unfold offL
   rw [e2,if_pos ho]; exact .pure rfl
  ·unfold offL; rw [e2,if_neg (fun hh=>by rw [hb.2 hh] at h; cases h)]
  ·subst hy
   rw [squad_eq hq h hof,Option.bind_some]
   refine .bind (.app (by subst g2; rw [tk_len]; omega)) fun r hr=>.inl ?_
   rw [w64_up g0 (by omega)]
   refine ⟨⟨by simp only; omega,by simp only; omega,?_⟩,by simp only; omega⟩
   simp only
   rw [show (i + 1).toNat = i.toNat + 1 by omega,tk,hr,g2,blk,e2]
 ·simp only [decide_eq_false_iff_not] at hge
  rw [g2,show i.toNat = code.length by omega]
theorem bytes_wf {l : List Int} (h : ∀ x ∈ l,(fun n=>(Lit.int .u8 n).wf = true) x) : ∀ x ∈ l,0 ≤ x ∧ x ≤ 255:=fun x hx=>by
 have h1 : (Lit.int .u8 x).wf = true:=h x hx
 simp [Lit.wf,IntKind.min,IntKind.max,IntKind.signed,IntKind.bits] at h1
 omega
end Go.Proofs.YtcljimkjmklkmaaGreat.N
namespace Go.Proofs.YtcljimkjmklkmaaGreat.N
open Go.Proofs.YtcljimkjmklkmaaGreat.X
theorem rgOf_bd {c p s : Int} (hc : 1 ≤ c ∧ c ≤ 8) (hp : Rg p) (hs : 0 ≤ s ∧ s ≤ 31) : 0 ≤ rgOf c p s ∧ rgOf c p s ≤ 31:=by
 unfold rgOf
 split
 ·rename_i h
  unfold Rg at hp
  rcases (by omega : p = 0 ∨ p = 1 ∨ p = 2 ∨ p = 3 ∨ p = 4 ∨ p = 5 ∨ p = 6 ∨ p = 7) with rfl | rfl | rfl | rfl | rfl | rfl | rfl | rfl <;> decide
 ·exact hs
theorem opOf_bd {n : Int} (h : 1 ≤ n ∧ n ≤ 12) : 1 ≤ opOf n ∧ opOf n ≤ 11:=by
 rcases (by omega : n = 1 ∨ n = 2 ∨ n = 3 ∨ n = 4 ∨ n = 5 ∨ n = 6 ∨ n = 7 ∨ n = 8 ∨ n = 9 ∨ n = 10 ∨ n = 11 ∨ n = 12) with rfl | rfl | rfl | rfl | rfl | rfl | rfl | rfl | rfl | rfl | rfl | rfl <;> decide
def All (l : List Instr) : Prop:=∀ x ∈ l,IOk x
theorem All.nil : All []:=fun x h=>by cases h
theorem All.cons {x : Instr} {l : List Instr} (h : IOk x) (k : All l) : All (x :: l):=fun y hy=>by
 rcases List.mem_cons.1 hy with rfl | hy
 ·exact h
 ·exact k y hy
theorem All.app {l l' : List Instr} (h : All l) (k : All l') : All (l ++ l'):=fun y hy=>(List.mem_append.1 hy).elim (h y) (k y)
theorem q0 : (0 : Int) ≤ 0 ∧ (0 : Int) ≤ 31:=by decide
theorem q2 : (0 : Int) ≤ 2 ∧ (2 : Int) ≤ 31:=by decide
theorem q7 : (0 : Int) ≤ 7 ∧ (7 : Int) ≤ 31:=by decide
theorem io_addi {d s i : Int} (hd : 0 ≤ d ∧ d ≤ 31) (hs : 0 ≤ s ∧ s ≤ 31) (hi : -2048 ≤ i ∧ i ≤ 2047) {op : Int} (ho : 12 ≤ op ∧ op ≤ 15) : IOk ⟨op,d,s,0,i⟩:=⟨hd,hs,q0,.inr (.inl ⟨ho.1,ho.2,rfl,hi.1,hi.2⟩)⟩
theorem rdL_iok {c p s : Int} (hc : 1 ≤ c ∧ c ≤ 8) (hp : Rg p) (hs : 0 ≤ s ∧ s ≤ 31) : All (rdL c p s):=by
 unfold rdL Rg at *
 split
 ·exact .nil
 ·exact .cons (io_addi hs (by omega) (by omega) (by omega)) .nil
theorem wrL_iok {c p : Int} (hc : 1 ≤ c ∧ c ≤ 8) (hp : Rg p) : All (wrL c p):=by
 unfold wrL Rg at *
 split
 ·exact .nil
 ·exact .cons ⟨q0,q2,q7,.inr (.inr (.inl ⟨rfl,rfl,by show -2048 ≤ 4 * (p - c); omega,by show 4 * (p - c) ≤ 2047; omega⟩))⟩ .nil
theorem callL_iok {n : Int} (h : 0 ≤ n ∧ n ≤ 5) : All (callL n):=.cons (io_addi (by omega) (by omega) (by omega) (by omega)) (.cons (io_addi (by omega) (by omega) (by omega) (by omega)) .nil)
theorem constL_iok {d n : Int} (hd : 0 ≤ d ∧ d ≤ 31) (hn : Wd n) : All (constL d n):=by
 unfold constL
 split
 ·exact .cons (io_addi hd (by omega) (by omega) (by omega)) .nil
 ·refine .cons ?_ (.cons (io_addi hd hd ?_ (by omega)) .nil)
  ·exact ⟨hd,q0,q0,.inr (.inr (.inr (.inr (.inl ⟨rfl,rfl,rfl,by show 0 ≤ hi20 n; unfold hi20; omega,by show hi20 n ≤ 1048575; unfold hi20; omega⟩))))⟩
  ·unfold lo12; split <;> omega
theorem quadL_iok {q : Quad} {m c off : Int} (hq : QOk m q) (hc : 1 ≤ c ∧ c ≤ 8) (ho : -1000000 ≤ off ∧ off ≤ 1000000) (he : off % 2 = 0) : All (quadL q c off):=by
 unfold QOk at hq
 unfold quadL
 split
 ·rename_i h1
  simp [h1] at hq
  exact (constL_iok (rgOf_bd hc (hq.1) (by omega)) (hq.2.2.2)).app (wrL_iok hc (hq.1))
 split
 ·rename_i h1 h2
  simp [h2] at hq
  exact ((rdL_iok hc (hq.2.1) (by omega)).app (.cons (io_addi (rgOf_bd hc (hq.1) (by omega)) (rgOf_bd hc (hq.2.1) (by omega)) (by omega) (by omega)) .nil)).app (wrL_iok hc (hq.1))
 split
 ·rename_i h1 h2 h3
  simp [h3] at hq
  have r1:=rgOf_bd (c:=c) (p:=q.Dst) (s:=7) hc (hq.1) (by omega)
  have r2:=rgOf_bd (c:=c) (p:=q.A) (s:=5) hc (hq.2.1) (by omega)
  have r3:=rgOf_bd (c:=c) (p:=q.B) (s:=6) hc (hq.2.2.1) (by omega)
  have r4:=opOf_bd (n:=q.N) (by omega)
  refine (((rdL_iok hc (hq.2.1) (by omega)).app (rdL_iok hc (hq.2.2.1) (by omega))).app (.cons ⟨r1,r2,r3,.inl ⟨r4.1,r4.2,rfl⟩⟩ .nil) |>.app ?_).app (wrL_iok hc (hq.1))
  ·split
   ·exact .cons (io_addi r1 r1 (by omega) (by omega)) .nil
   ·exact .nil
 split
 ·exact .cons ⟨q0,q0,q0,.inr (.inr (.inr (.inr (.inr (.inl ⟨rfl,rfl,rfl,by show -1048576 ≤ off; omega,by show off ≤ 1048574; omega,he⟩)))))⟩ .nil
 split
 ·rename_i h1 h2 h3 h4 h5
  simp [h5] at hq
  have r2:=rgOf_bd (c:=c) (p:=q.A) (s:=5) hc (hq.2.1) (by omega)
  have l1:=rd_len c q.A 5
  refine ((rdL_iok hc (hq.2.1) (by omega)).app (.cons ⟨q0,r2,q0,.inr (.inr (.inr (.inl ⟨.inr rfl,rfl,(by decide : (-4096 : Int) ≤ 8),(by decide : (8 : Int) ≤ 4094),(rfl : (8 : Int) % 2 = 0)⟩)))⟩ .nil)).app (.cons ?_ .nil)
  refine ⟨q0,q0,q0,.inr (.inr (.inr (.inr (.inr (.inl ⟨rfl,rfl,rfl,?_,?_,?_⟩)))))⟩
  ·show -1048576 ≤ off - 4 * (((rdL c q.A 5).length : Int) + 1); omega
  ·show off - 4 * (((rdL c q.A 5).length : Int) + 1) ≤ 1048574; omega
  ·show (off - 4 * (((rdL c q.A 5).length : Int) + 1)) % 2 = 0; omega
 split
 ·rename_i h1 h2 h3 h4 h5 h6
  simp [h6] at hq
  have r2:=rgOf_bd (c:=c) (p:=q.A) (s:=5) hc (hq.2.1) (by omega)
  exact ((rdL_iok hc (hq.2.1) (by omega)).app (.cons (io_addi (by omega) r2 (by omega) (by omega)) (.cons (io_addi (by omega) (by omega) (by omega) (by omega)) .nil))).app (callL_iok (by omega))
 split
 ·rename_i h1 h2 h3 h4 h5 h6 h7
  simp [h7] at hq
  exact (((All.cons (io_addi (by omega) (by omega) (by omega) (by omega)) .nil).app (callL_iok (by omega))).app (.cons (io_addi (rgOf_bd hc (hq.1) (by omega)) (by omega) (by omega) (by omega)) .nil)).app (wrL_iok hc (hq.1))
 split
 ·exact callL_iok (by omega)
 split
 ·rename_i h1 h2 h3 h4 h5 h6 h7 h8 h9
  simp [h9] at hq
  have r2:=rgOf_bd (c:=c) (p:=q.A) (s:=5) hc (hq.2.1) (by omega)
  exact ((rdL_iok hc (hq.2.1) (by omega)).app (.cons (io_addi (by omega) r2 (by omega) (by omega)) .nil)).app (callL_iok (by omega))
 ·exact callL_iok (by omega)
theorem off_even (code : List Quad) (c : Int) (i : Nat) : offL code c i % 2 = 0:=by
 unfold offL; split <;> omega
theorem tk_iok {code : List Quad} (hc : COk code) {c : Int} (h : 1 ≤ c ∧ c ≤ 8) : ∀ i,i ≤ code.length → All (tk code c i)
 | 0,_=>.nil
 | i + 1,hi=>by
  have e : qAt code i = code[i]:=qAt_of (List.getElem?_eq_getElem (by omega))
  have hq:=hc.q _ (List.mem_of_getElem? (List.getElem?_eq_getElem (show i < code.length by omega)))
  refine (tk_iok hc h i (by omega)).app ?_
  unfold blk
  rw [e]
  exact quadL_iok hq h (off_small hc (by omega)) (off_even code c i)
end Go.Proofs.YtcljimkjmklkmaaGreat.N
namespace Go.Proofs.YtcljimkjmklkmaaGreat.N
open Go.Proofs.YtcljimkjmklkmaaGreat.X
variable {b : List Int} {p m : Int}
theorem codes_dr (hb : By b) {k : Nat} (hk : 20 ≤ k) (h0 : 0 ≤ p) (hm : p ≤ m) (hp : m ≤ 100000) : Dr (f6l k ⟨b,p⟩) (m + 150001) fun l=>1 ≤ l.length ∧ l.length ≤ 3 ∧ ∀ c ∈ l,COk c ∧ c.length ≤ 40:=by
 unfold f6l
 refine .bind (pick_dr hb h0 hm (by omega) (by omega) (by omega)) fun x p1 hx h1 h2=>?_
 dsimp only
 obtain ⟨n,hn⟩ : ∃ n : Int,n = 1 + x:=⟨_,rfl⟩
 have hw : w64 (1 + x) = n:=by rw [w64_s (by omega) (by omega),hn]
 refine .tot (P:=fun r=>0 ≤ r.2 ∧ r.2 ≤ m + 1 + 150000 ∧ (r.1.length : Int) = n ∧ ∀ c ∈ r.1,COk c ∧ c.length ≤ 40) (.iter (fun s=>0 ≤ s.2.1 ∧ s.2.1 ≤ n ∧ 0 ≤ s.2.2 ∧ s.2.2 ≤ m + 1 + 50000 * s.2.1 ∧ (s.1.length : Int) = s.2.1 ∧ ∀ c ∈ s.1,COk c ∧ c.length ≤ 40) (fun s=>(n - s.2.1).toNat) ⟨by simp,by simp only; omega,h1,by simp only; omega,by simp,by simp⟩ fun s hs=>?_) fun r hr=>?_
 ·obtain ⟨out,i,q⟩:=s
  obtain ⟨g0,g1,g2,g3,g4,g5⟩:=hs
  simp only at g0 g1 g2 g3 g4 g5
  unfold f9o
  dsimp only
  rw [hw,w64_up g0 (by omega)]
  refine .sel (fun h=>?_) fun h=>.inr (show 0 ≤ q ∧ q ≤ m + 1 + 150000 ∧ (out.length : Int) = n ∧ ∀ c ∈ out,COk c ∧ c.length ≤ 40 from ?_)
  ·simp only [decide_eq_true_eq] at h
   refine .bind (good_dr hb hk g2 g3 (by omega)) fun y hy=>.bind (.app (l:=out) (by simp; omega)) fun r hr=>.inl ?_
   subst hr
   refine ⟨⟨by simp only; omega,by simp only; omega,hy.1,by have:=hy.2.1; simp only; omega,by simp; omega,fun z hz=>?_⟩,by simp only; omega⟩
   simp only [List.mem_append,List.mem_singleton] at hz
   rcases hz with hz | rfl
   ·exact g5 z hz
   ·exact hy.2.2
  ·simp only [decide_eq_false_iff_not] at h
   exact ⟨g2,by omega,by omega,g5⟩
 ·exact .pure ⟨by have:=hr.2.2.1; omega,by have:=hr.2.2.1; omega,hr.2.2.2⟩ hr.1 (by have:=hr.2.1; omega)
def LOk (l : List (List Instr)) : Prop:=1 ≤ l.length ∧ l.length ≤ 3 ∧ ∀ x ∈ l,x.length ≤ 240 ∧ All x
end Go.Proofs.YtcljimkjmklkmaaGreat.N
namespace Go.Proofs.YtcljimkjmklkmaaGreat.N
open Go.Proofs.YtcljimkjmklkmaaGreat.X
theorem ivalid_of {x : Instr} (h : IOk x) : f0p x = some true:=by
 obtain ⟨b,v1,v2⟩:=valid_ok x
 rw [svalid_eq,decide_eq_true h] at v1
 rw [v2,← Option.some.inj v1]
theorem roomsB_two {r1 r2 : Int} (h1 : 1 ≤ r1 ∧ r1 ≤ 4) (h2 : 1 ≤ r2 ∧ r2 ≤ 4) : roomsB [r1,r2] = true:=by
 have s0 : f1c [r1,r2] 0 = some (.inl 1):=by
  unfold f1c f02
  rw [show nth [r1,r2] 0 = some r1 from rfl]
  simp only [Option.bind_some]
  rw [decide_eq_true (show r1 ≥ 1 from h1.1),decide_eq_true (show r1 ≤ 4 from h1.2)]
  rfl
 have s1 : f1c [r1,r2] 1 = some (.inl 2):=by
  unfold f1c f02
  rw [show nth [r1,r2] 1 = some r2 from rfl]
  simp only [Option.bind_some]
  rw [decide_eq_true (show r2 ≥ 1 from h2.1),decide_eq_true (show r2 ≤ 4 from h2.2)]
  rfl
 have s2 : f1c [r1,r2] 2 = some (.inr (.inr ())):=rfl
 unfold roomsB f3n
 rw [iter_eq,s0]
 simp only
 rw [iter_eq,s1]
 simp only
 rw [iter_eq,s2]
 rfl
end Go.Proofs.YtcljimkjmklkmaaGreat.N
namespace Go.Proofs.YtcljimkjmklkmaaGreat.N
open Go.Proofs.YtcljimkjmklkmaaGreat.X
theorem sameInts_refl {l : List Int} (hl : l.length ≤ 1048576) : f3p l l = some true:=by
 unfold f3p
 refine sel_to (by simp) ?_
 have e:=all_loop (f:=f4e l l) (l:=l) (fun _=>true) (by omega) (fun i hi=>by
  unfold f4e
  exact sel_tt' (by simpa using hi) (bind_to (nth_at hi) (bind_to (nth_at hi) (sel_to (by simp) rfl)))) (by
  unfold f4e
  exact sel_to (by simp) rfl)
 rw [show l.all (fun _=>true) = true by simp] at e
 exact bind_to e rfl
theorem all_wd {l : List Int} (h : ∀ x ∈ l,Wd x) : l.all wdB = true:=by
 rw [List.all_eq_true]
 intro x hx
 have:=h x hx
 unfold Wd at this
 unfold wdB
 simp
 exact this
theorem mv_true {r : List Int} {pc : Int} {m : List Int} (hM : MOK r pc m) (h0 : r[0]? = some 0) : f1x ⟨r,pc,m⟩ = some true ∧ f3v ⟨r,pc,m⟩ = some true:=by
 have h32:=hM.r32
 have h10:=hM.m10
 have hn:=nth_at (l:=r) (i:=0) (by omega)
 have g0 : (r[0]'(by omega) == 0) = true:=by
  rw [List.getElem?_eq_getElem (by omega)] at h0
  rw [Option.some.inj h0]; rfl
 have w1 : f1i r = some true:=(iwords_ok r (by omega)).trans (by rw [all_wd hM.wr])
 have w2 : f1i m = some true:=(iwords_ok m (by omega)).trans (by rw [all_wd hM.wm])
 have w3 : f1j pc = some true:=by
  have:=hM.wp
  unfold Wd at this
  unfold f1j
  rw [decide_eq_true (by omega),decide_eq_true (by omega)]; rfl
 have key : f1x ⟨r,pc,m⟩ = some true:=by
  unfold f1x
  exact bind_to (y:=true) (sel_tt' (by simp [h32]) (bind_to w1 rfl)) (bind_to (y:=true) (sel_tt' rfl (bind_to hn (congrArg some g0))) (bind_to (y:=true) (sel_tt' rfl (bind_to w3 rfl)) (bind_to (y:=true) (sel_tt' (by simp; omega) (bind_to w2 rfl)) rfl)))
 obtain ⟨b,v1,v2,_⟩:=mv_ok r pc m (by omega) (by omega)
 rw [v2] at key
 rw [v1,v2]
 exact ⟨key,key⟩
theorem wl_wd : ∀ {l : List Instr} {ws : List Int},wl l = some ws → ∀ x ∈ ws,Wd x
 | [],ws,h=>by simp only [wl,Option.some.injEq] at h; subst h; intro x hx; cases hx
 | x :: xs,ws,h=>by
  simp only [wl] at h
  split at h
  ·rename_i w ws' h1 h2
   injection h with h
   subst h
   intro y hy
   rcases List.mem_cons.1 hy with rfl | hy
   ·rcases encW_cases x with ⟨r,_,_,e⟩ | ⟨r,_,_,e⟩
    ·rw [e] at h1
     rw [← Option.some.inj h1]
     exact wrapW_bd r
    ·rw [e] at h1; cases h1
   ·exact wl_wd h2 y hy
  ·cases h
end Go.Proofs.YtcljimkjmklkmaaGreat.N
namespace Go.Proofs.YtcljimkjmklkmaaGreat.N
open Go.Proofs.YtcljimkjmklkmaaGreat.X
theorem so_fl {k f3 f7 : Nat} (hk : k < 21) (h3 : k < 18 → f3 = t3 k) (h7 : k < 11 → f7 = t7 k) : So (tO k) f3 f7 = k + 1:=by
 rcases Nat.lt_or_ge k 11 with h | h
 ·obtain rfl:=h3 (by omega)
  obtain rfl:=h7 h
  rcases (by omega : k = 0 ∨ k = 1 ∨ k = 2 ∨ k = 3 ∨ k = 4 ∨ k = 5 ∨ k = 6 ∨ k = 7 ∨ k = 8 ∨ k = 9 ∨ k = 10) with rfl | rfl | rfl | rfl | rfl | rfl | rfl | rfl | rfl | rfl | rfl <;> rfl
 rcases Nat.lt_or_ge k 18 with h' | h'
 ·obtain rfl:=h3 h'
  rcases (by omega : k = 11 ∨ k = 12 ∨ k = 13 ∨ k = 14 ∨ k = 15 ∨ k = 16 ∨ k = 17) with rfl | rfl | rfl | rfl | rfl | rfl | rfl <;> rfl
 ·rcases (by omega : k = 18 ∨ k = 19 ∨ k = 20) with rfl | rfl | rfl <;> rfl
theorem dec_fl {i : Instr} {r : Nat} (hr : r < 4294967296) (h : Fl i r) (he : f0r i = some (r : Int)) : f2e (r : Int) = some (i,true):=by
 obtain ⟨x,b,d1,d2,_⟩:=dec_ok r hr
 have key : f1d (r : Int) = some (i,true):=by
  obtain ⟨k,hk,ho,f1,f2,f3,f4⟩:=h
  have hop : f50 (r : Int) = some ((k : Int) + 1):=by
   rw [kind_ok r hr]
   have e1 : r / 2 ^ 0 % 2 ^ 7 = tO k:=by simp only [Nat.pow_zero,Nat.div_one,Nat.reducePow]; exact f1
   have e2:=so_fl (f3:=r / 2 ^ 12 % 2 ^ 3) (f7:=r / 2 ^ 25 % 2 ^ 7) hk (fun h=>by simp only [Nat.reducePow]; exact f2 h) (fun h=>by simp only [Nat.reducePow]; exact f3 h)
   rw [e1,e2]
   rfl
  have e1 : (decide ((r : Int) ≥ 0) && decide ((r : Int) ≤ 4294967295)) = true:=by rw [decide_eq_true (by omega),decide_eq_true (by omega)]; rfl
  unfold f1d f02
  rw [e1]
  rw [ho] at f4
  have hz : ((k : Int) + 1 == 0) = false:=by simp; omega
  simp only [Option.bind_some,Bool.not_true,hop,f4,he,hz,sel,bne_self_eq_false]
 rw [d1] at key
 rw [d2]
 exact key
theorem encW_dec {x : Instr} {w : Int} (h : encW x = some w) : ∃ u : Nat,f1h w = some (u : Int) ∧ f2e (u : Int) = some (x,true):=by
 obtain ⟨r,b,h1,h2,h3,h4,h5,h6,h7⟩:=enc_ok x
 unfold encW at h
 rw [h3] at h
 cases b
 ·cases h
 ·obtain rfl:=Option.some.inj h
  have hb:=wrapW_bd (r : Int)
  obtain ⟨u,u1,u2,u3,_⟩:=uns_ok (x:=wrapW (r : Int)) hb.1 hb.2
  have : u = r:=by
   have : wrapW (r : Int) % 4294967296 = (r : Int):=by unfold wrapW; split <;> omega
   omega
  subst this
  exact ⟨u,u3,dec_fl h1 (h7 rfl) (h4 rfl)⟩
theorem wl_dec : ∀ {l : List Instr} {ws : List Int},wl l = some ws → ∀ (i : Nat) (x : Instr),l[i]? = some x → ∃ (w : Int) (u : Nat),ws[i]? = some w ∧ f1h w = some (u : Int) ∧ f2e (u : Int) = some (x,true)
 | [],ws,h,i,x,hx=>by simp at hx
 | y :: ys,ws,h,i,x,hx=>by
  simp only [wl] at h
  split at h
  ·rename_i w ws' h1 h2
   injection h with h
   subst h
   cases i with
   | zero =>
    obtain rfl : y = x:=by simpa using hx
    obtain ⟨u,u1,u2⟩:=encW_dec h1
    exact ⟨w,u,rfl,u1,u2⟩
   | succ i=>exact wl_dec h2 i x (by simpa using hx)
  ·cases h
theorem hart_ok (l : List Instr) (hl : l.length ≤ 1000) : (wl l = none ∧ f64 l = some (⟨[],0,[]⟩,false) ∧ f2t l = some (⟨[],0,[]⟩,false)) ∨
  ∃ ws,wl l = some ws ∧ f64 l = some (⟨(List.replicate 32 (0 : Int)).set 2 (4 * ((l.length : Int) + 1)),4,0 :: ws ++ List.replicate 12 0⟩,true) ∧ f2t l = some (⟨(List.replicate 32 (0 : Int)).set 2 (4 * ((l.length : Int) + 1)),4,0 :: ws ++ List.replicate 12 0⟩,true):=by
 have w:=words_ok l (by omega)
 obtain ⟨m',c⟩:=code_words l [0] (by simp; omega)
 have hmk : mk 8 32 (0 : Int) = some (List.replicate 32 0):=rfl
 cases hw : wl l with
 | none =>
  rw [hw] at w c
  refine .inl ⟨rfl,?_,?_⟩
  ·unfold f64
   exact bind_to w (sel_tt' rfl rfl)
  ·unfold f2t
   exact sel_to (by simp; omega) (bind_to c (sel_tt' rfl rfl))
 | some ws =>
  rw [hw] at w c
  have hlen:=wl_length hw
  have ha : app 8 [0] ws = some ([0] ++ ws):=app_ok (by simp; omega)
  have hz : appz 8 ([0] ++ ws) 12 0 = some ([0] ++ ws ++ List.replicate 12 0):=appz_ok (k:=12) (by simp; omega)
  have e1 : w64 (4 * ((([0] ++ ws : List Int).length : Nat) : Int)) = 4 * ((l.length : Int) + 1):=by
   rw [List.length_append,List.length_singleton,hlen,w64_id (by omega) (by omega)]; omega
  have hu : upd (List.replicate 32 (0 : Int)) 2 (w64 (4 * ((([0] ++ ws : List Int).length : Nat) : Int))) = some ((List.replicate 32 (0 : Int)).set 2 (4 * ((l.length : Int) + 1))):=by rw [e1]; rfl
  have hn : nth (List.replicate 32 (0 : Int)) 2 = some 0:=rfl
  refine .inr ⟨ws,rfl,?_,?_⟩
  ·unfold f64
   refine bind_to w (sel_to ?_ (bind_to hmk (bind_to ha (bind_to hn (bind_to hu (bind_to hz rfl))))))
   simp only [Bool.not_true,Bool.false_or]
   rw [w64_id (x:=(ws.length : Int) + 1) (by omega) (by omega),w64_id (by omega) (by omega)]
   simp; omega
  ·unfold f2t
   exact sel_to (by simp; omega) (bind_to c (sel_to rfl (bind_to hmk (bind_to hn (bind_to hu (bind_to hz rfl))))))
theorem hart_mok {l : List Instr} {ws : List Int} (hl : l.length ≤ 1000) (hw : wl l = some ws) : MOK ((List.replicate 32 (0 : Int)).set 2 (4 * ((l.length : Int) + 1))) 4 (0 :: ws ++ List.replicate 12 0):=by
 have hlen:=wl_length hw
 refine ⟨rfl,by simp; omega,?_,?_,by unfold Wd; omega⟩
 ·intro x hx
  unfold Wd
  rcases List.mem_or_eq_of_mem_set hx with hm | rfl
  ·have:=List.eq_of_mem_replicate hm; omega
  ·omega
 ·intro x hx
  rw [List.cons_append] at hx
  rcases List.mem_cons.1 hx with rfl | hx
  ·unfold Wd; omega
  ·rcases List.mem_append.1 hx with hx | hx
   ·exact wl_wd hw x hx
   ·have:=List.eq_of_mem_replicate hx; unfold Wd; omega
end Go.Proofs.YtcljimkjmklkmaaGreat.N
namespace Go.Proofs.YtcljimkjmklkmaaGreat.N
open Go.Proofs.YtcljimkjmklkmaaGreat.X
theorem nth_get {α : Type} {l : List α} {n : Nat} {x : α} (h : l[n]? = some x) : nth l (n : Int) = some x:=by
 unfold nth
 rw [if_neg (by omega)]
 simpa using h
def mp {α β : Type} (g : α → Option β) : List α → Option (List β)
 | []=>some []
 | x :: xs=>match g x,mp g xs with
  | some y,some ys=>some (y :: ys)
  | _,_=>none
theorem mp_get {α β : Type} {g : α → Option β} : ∀ {l : List α} {ys : List β},mp g l = some ys → ys.length = l.length ∧ ∀ (i : Nat) x,l[i]? = some x → ∃ y,g x = some y ∧ ys[i]? = some y
 | [],ys,h=>by simp only [mp,Option.some.injEq] at h; subst h; exact ⟨rfl,fun i x hx=>by simp at hx⟩
 | x :: xs,ys,h=>by
  simp only [mp] at h
  split at h
  ·rename_i y ys' h1 h2
   injection h with h
   subst h
   obtain ⟨k1,k2⟩:=mp_get h2
   refine ⟨by simp [k1],fun i z hz=>?_⟩
   cases i with
   | zero =>
    obtain rfl : x = z:=by simpa using hz
    exact ⟨y,h1,rfl⟩
   | succ i=>exact k2 i z (by simpa using hz)
  ·cases h
theorem mp_loop {α β ρ : Type} {f : Int × List β → Option ((Int × List β) ⊕ (ρ ⊕ List β))} {l : List α} {g : α → Option β} {z : ρ}
  (h1 : ∀ (i : Nat) acc x,l[i]? = some x → acc.length = i → f ((i : Int),acc) = some (match g x with | some y=>.inl (((i + 1 : Nat) : Int),acc ++ [y]) | none=>.inr (.inl z)))
  (h2 : ∀ acc,acc.length = l.length → f ((l.length : Int),acc) = some (.inr (.inr acc))) : iter f (0,[]) = some (match mp g l with | some ys=>.inr ys | none=>.inl z):=by
 have key : ∀ (suf pre : List α) (acc : List β),l = pre ++ suf → acc.length = pre.length → iter f ((pre.length : Int),acc) = some (match mp g suf with | some ys=>.inr (acc ++ ys) | none=>.inl z):=by
  intro suf
  induction suf with
  | nil =>
   intro pre acc hl ha
   rw [List.append_nil] at hl
   subst hl
   rw [iter_eq,h2 acc ha]
   simp [mp]
  | cons x xs ih =>
   intro pre acc hl ha
   have hx : l[pre.length]? = some x:=by rw [hl,List.getElem?_append_right (Nat.le_refl _),Nat.sub_self]; rfl
   rw [iter_eq,h1 _ acc x hx ha]
   simp only [mp]
   cases hg : g x with
   | none=>simp
   | some y =>
    simp only
    have:=ih (pre ++ [x]) (acc ++ [y]) (by rw [hl,List.append_assoc]; rfl) (by simp [ha])
    rw [List.length_append,List.length_singleton] at this
    rw [this]
    cases mp g xs with
    | none=>rfl
    | some ys=>simp
 have:=key l [] [] rfl rfl
 simpa using this
theorem mapl_loop {α β : Type} {f : List β × Int → Option ((List β × Int) ⊕ List β)} {l : List α} {g : α → β} (h1 : ∀ (i : Nat) acc x,l[i]? = some x → acc.length = i → f (acc,(i : Int)) = some (.inl (acc ++ [g x],((i + 1 : Nat) : Int))))
  (h2 : ∀ acc,acc.length = l.length → f (acc,(l.length : Int)) = some (.inr acc)) : iter f ([],0) = some (l.map g):=by
 have key : ∀ (suf pre : List α) (acc : List β),l = pre ++ suf → acc.length = pre.length → iter f (acc,(pre.length : Int)) = some (acc ++ suf.map g):=by
  intro suf
  induction suf with
  | nil =>
   intro pre acc hl ha
   rw [List.append_nil] at hl
   subst hl
   rw [iter_eq,h2 acc ha]
   simp
  | cons x xs ih =>
   intro pre acc hl ha
   have hx : l[pre.length]? = some x:=by rw [hl,List.getElem?_append_right (Nat.le_refl _),Nat.sub_self]; rfl
   rw [iter_eq,h1 _ acc x hx ha]
   simp only
   have:=ih (pre ++ [x]) (acc ++ [g x]) (by rw [hl,List.append_assoc]; rfl) (by simp [ha])
   rw [List.length_append,List.length_singleton] at this
   rw [this]
   simp
 exact key l [] [] rfl rfl
end Go.Proofs.YtcljimkjmklkmaaGreat.N
namespace Go.Proofs.YtcljimkjmklkmaaGreat.N
open Go.Proofs.YtcljimkjmklkmaaGreat.X
def hM (n : Nat) (ws : List Int) : Machine:=⟨(List.replicate 32 (0 : Int)).set 2 (4 * ((n : Int) + 1)),4,0 :: ws ++ List.replicate 12 0⟩
noncomputable def hN (l : List Instr) : Option Machine:=match wl l with
 | some ws=>some (hM l.length ws)
 | none=>none
theorem hN_ok {l : List Instr} (hl : l.length ≤ 1000) : f64 l = some (match hN l with | some m=>(m,true) | none=>(⟨[],0,[]⟩,false)) ∧ f2t l = some (match hN l with | some m=>(m,true) | none=>(⟨[],0,[]⟩,false)):=by
 rcases hart_ok l hl with ⟨h,e1,e2⟩ | ⟨ws,h,e1,e2⟩
 ·unfold hN; rw [h]; exact ⟨e1,e2⟩
 ·unfold hN; rw [h]; exact ⟨e1,e2⟩
theorem boxes_new {rooms : List Int} (h : rooms.length ≤ 1000) : fam rooms = some (rooms.map fun r=>Box.mk r []) ∧ f78 rooms = some (rooms.map fun r=>Box.mk r []):=by
 refine ⟨?_,?_⟩
 ·unfold fam
  refine bind_to (mapl_loop (fun i acc x hx ha=>?_) fun acc ha=>?_) rfl
  ·have hi : i < rooms.length:=by rcases Nat.lt_or_ge i rooms.length with h | h; exact h; rw [List.getElem?_eq_none h] at hx; cases hx
   unfold f9f
   exact sel_tt' (by simpa using hi) (bind_to (nth_get hx) (bind_to (app_ok (by simp; omega)) (by rw [w64_nat (by omega)])))
  ·unfold f9f
   exact sel_to (by simp) rfl
 ·unfold f78
  refine bind_to (mapl_loop (fun i acc x hx ha=>?_) fun acc ha=>?_) rfl
  ·have hi : i < rooms.length:=by rcases Nat.lt_or_ge i rooms.length with h | h; exact h; rw [List.getElem?_eq_none h] at hx; cases hx
   unfold f6j
   exact sel_tt' (by simpa using hi) (bind_to (nth_get hx) (bind_to (app_ok (by simp; omega)) (by rw [w64_nat (by omega)])))
  ·unfold f6j
   exact sel_to (by simp) rfl
noncomputable def sqR (rooms : List Int) (lists : List (List Instr)) : Squad × Bool:=
 if roomsB rooms = true ∧ 1 ≤ lists.length ∧ lists.length ≤ 3 then match mp hN lists with
  | some ms=>(Squad.mk ms (rooms.map fun r=>Box.mk r []) 0 0 [],true)
  | none=>(Squad.mk [] [] 0 0 [],false)
 else (Squad.mk [] [] 0 0 [],false)
theorem squad_ok {rooms : List Int} {lists : List (List Instr)} (h1 : rooms.length ≤ 1000) (h2 : lists.length ≤ 1000) (h3 : ∀ x ∈ lists,x.length ≤ 1000) : fby rooms lists = some (sqR rooms lists) ∧ f6m rooms lists = some (sqR rooms lists):=by
 obtain ⟨b,r1,r2⟩:=rooms_ok rooms (by omega)
 have hrb : roomsB rooms = b:=by unfold roomsB; rw [r1]; rfl
 obtain ⟨b1,b2⟩:=boxes_new h1
 have L1:=mp_loop (f:=f6a lists) (l:=lists) (g:=hN) (z:=(Squad.mk [] [] 0 0 [],false)) (fun i acc x hx ha=>by
  have hi : i < lists.length:=by rcases Nat.lt_or_ge i lists.length with h | h; exact h; rw [List.getElem?_eq_none h] at hx; cases hx
  have hh:=(hN_ok (h3 x (List.mem_of_getElem? hx))).1
  unfold f6a
  refine sel_tt' (by simpa using hi) (bind_to (nth_get hx) (bind_to hh ?_))
  cases hN x with
  | none=>exact sel_tt' rfl rfl
  | some m=>exact sel_to rfl (bind_to (app_ok (by simp; omega)) (by rw [w64_nat (by omega)]))) (fun acc ha=>by
  unfold f6a
  exact sel_to (by simp) rfl)
 have L2:=mp_loop (f:=f4p lists) (l:=lists) (g:=hN) (z:=(Squad.mk [] [] 0 0 [],false)) (fun i acc x hx ha=>by
  have hi : i < lists.length:=by rcases Nat.lt_or_ge i lists.length with h | h; exact h; rw [List.getElem?_eq_none h] at hx; cases hx
  have hh:=(hN_ok (h3 x (List.mem_of_getElem? hx))).2
  unfold f4p
  refine sel_tt' (by simpa using hi) (bind_to (nth_get hx) (bind_to hh ?_))
  cases hN x with
  | none=>exact sel_tt' rfl rfl
  | some m=>exact sel_to rfl (bind_to (app_ok (by simp; omega)) (by rw [w64_nat (by omega)]))) (fun acc ha=>by
  unfold f4p
  exact sel_to (by simp) rfl)
 unfold fby f6m f02 sqR
 rw [r1,r2,hrb]
 simp only [Option.bind_some]
 cases b
 ·exact ⟨sel_tt' rfl rfl,bind_to (y:=true) (sel_tt' rfl rfl) (sel_tt' rfl rfl)⟩
 rcases (Decidable.em (1 ≤ lists.length ∧ lists.length ≤ 3)).symm with hn | hn
 ·rw [if_neg (by simpa using hn)]
  have c1 : (decide ((lists.length : Int) ≥ 1) && decide ((lists.length : Int) ≤ 3)) = false:=by simp; omega
  exact ⟨sel_tt' (by simp; omega) rfl,bind_to (y:=true) (sel_to rfl (by rw [c1]; rfl)) (sel_tt' rfl rfl)⟩
 ·rw [if_pos (by simpa using hn)]
  have c1 : (decide ((lists.length : Int) ≥ 1) && decide ((lists.length : Int) ≤ 3)) = true:=by rw [decide_eq_true (by omega),decide_eq_true (by omega)]; rfl
  refine ⟨sel_to (by simp; omega) (bind_to b1 (bind_to L1 ?_)),bind_to (y:=false) (sel_to rfl (by rw [c1]; rfl)) (sel_to rfl (bind_to b2 (bind_to L2 ?_)))⟩
  ·cases mp hN lists <;> rfl
  ·cases mp hN lists <;> rfl
end Go.Proofs.YtcljimkjmklkmaaGreat.N
namespace Go.Proofs.YtcljimkjmklkmaaGreat.N
open Go.Proofs.YtcljimkjmklkmaaGreat.X
def st (regs : List Int) (rd v : Int) : List Int:=if rd = 0 then regs else regs.set rd.toNat v
theorem set_st {regs : List Int} {pc : Int} {mem : List Int} (h32 : regs.length = 32) {rd v : Int} (hr : 0 ≤ rd ∧ rd ≤ 31) : f25 (Machine.mk regs pc mem) rd v = some (st regs rd v):=by
 obtain ⟨d,rfl,hd⟩:=nat_of hr.1 hr.2
 unfold f25 st
 cases h0 : ((d : Int) != 0)
 ·rw [if_pos (by simpa using h0)]; exact sel_to rfl rfl
 ·rw [if_neg (by simpa using h0)]
  exact sel_tt' rfl (bind_to (nth_at (l:=regs) (i:=d) (by omega)) (bind_to (upd_at (l:=regs) (i:=d) (by omega) v) (by simp)))
theorem st_len {regs : List Int} {rd v : Int} : (st regs rd v).length = regs.length:=by unfold st; split <;> simp
theorem st_ne {regs : List Int} {rd v : Int} (hr : 0 ≤ rd) {k : Nat} (h : (k : Int) ≠ rd) : (st regs rd v)[k]? = regs[k]?:=by
 unfold st
 split
 ·rfl
 ·rw [List.getElem?_set_ne (by omega)]
theorem st_eq {regs : List Int} {k : Nat} {v : Int} (h0 : k ≠ 0) (hk : k < regs.length) : (st regs (k : Int) v)[k]? = some v:=by
 unfold st
 rw [if_neg (by omega),Int.toNat_natCast,List.getElem?_set_self hk]
theorem st_wd {regs : List Int} {rd v : Int} (hw : ∀ x ∈ regs,Wd x) (hv : Wd v) : ∀ x ∈ st regs rd v,Wd x:=by
 unfold st
 split
 ·exact hw
 ·intro x hx
  rcases List.mem_or_eq_of_mem_set hx with h | h
  ·exact hw x h
  ·exact h ▸ hv
section
variable {regs mem : List Int} {pc rd rs rt imm a b : Int}
theorem sdo_addi (hM : MOK regs pc mem) (h0 : 0 ≤ pc) (h1 : pc ≤ 40000) (hd : 0 ≤ rd ∧ rd ≤ 31) (ha : nth regs rs = some a) : f1e (Machine.mk regs pc mem) ⟨12,rd,rs,rt,imm⟩ = some (true,st regs rd (wrapW (w64 (a + imm))),pc + 4,mem):=by
 obtain ⟨n1,n2,n3,n4⟩:=next_ok hM h0 h1
 have k1:=set_st (pc:=pc) (mem:=mem) hM.r32 hd (v:=wrapW (w64 (a + imm)))
 exact bind_to ha (bind_to (y:=.inl (st regs rd (wrapW (w64 (a + imm))))) (bind_to (y:=false) rfl (sel_to rfl (bind_to (y:=false) rfl (sel_to rfl (sel_tt' rfl (bind_to (swrap_ok _) (bind_to k1 rfl))))))) (by show some (true,_,w64 (pc + 4),mem) = _; rw [n3]))
theorem sdo_sltiu (hM : MOK regs pc mem) (h0 : 0 ≤ pc) (h1 : pc ≤ 40000) (hd : 0 ≤ rd ∧ rd ≤ 31) (hs : 0 ≤ rs ∧ rs ≤ 31) (hi : -1048576 ≤ imm ∧ imm ≤ 1048575) : ∃ v,Wd v ∧ f1e (Machine.mk regs pc mem) ⟨13,rd,rs,rt,imm⟩ = some (true,st regs rd v,pc + 4,mem):=by
 obtain ⟨a,ha,wa⟩:=reg_at hM.r32 hM.wr hs
 obtain ⟨n1,n2,n3,n4⟩:=next_ok hM h0 h1
 obtain ⟨u1,_,_,p1,p2⟩:=uns_ok wa.1 wa.2
 obtain ⟨u2,_,_,p3,p4⟩:=uns_ok (x:=imm) (by omega) (by omega)
 obtain ⟨v,f1,f2,f3⟩:=flag_wd (decide ((u1 : Int) < (u2 : Int)))
 have k1:=set_st (pc:=pc) (mem:=mem) hM.r32 hd (v:=v)
 exact ⟨v,f1,bind_to ha (bind_to (y:=.inl (st regs rd v)) (bind_to (y:=false) rfl (sel_to rfl (bind_to (y:=false) rfl (sel_to rfl (sel_to rfl (sel_tt' rfl (bind_to p2 (bind_to p4 (bind_to f2 (bind_to k1 rfl)))))))))) (by show some (true,_,w64 (pc + 4),mem) = _; rw [n3]))⟩
theorem sdo_lui (hM : MOK regs pc mem) (h0 : 0 ≤ pc) (h1 : pc ≤ 40000) (hd : 0 ≤ rd ∧ rd ≤ 31) (hs : 0 ≤ rs ∧ rs ≤ 31) : ∃ v,Wd v ∧ f1e (Machine.mk regs pc mem) ⟨19,rd,rs,rt,imm⟩ = some (true,st regs rd v,pc + 4,mem):=by
 obtain ⟨a,ha,wa⟩:=reg_at hM.r32 hM.wr hs
 obtain ⟨n1,n2,n3,n4⟩:=next_ok hM h0 h1
 have k1:=set_st (pc:=pc) (mem:=mem) hM.r32 hd (v:=wrapW (w64 (imm * 4096)))
 exact ⟨_,wd_wrap _,bind_to ha (bind_to (y:=.inl (st regs rd (wrapW (w64 (imm * 4096))))) (bind_to (y:=false) rfl (sel_to rfl (bind_to (y:=false) rfl (sel_to rfl (sel_to rfl (sel_to rfl (sel_tt' rfl (bind_to (swrap_ok _) (bind_to k1 rfl))))))))) (by show some (true,_,w64 (pc + 4),mem) = _; rw [n3]))⟩
theorem sdo_alu {k : Nat} (hk : k < 11) (hM : MOK regs pc mem) (h0 : 0 ≤ pc) (h1 : pc ≤ 40000) (hd : 0 ≤ rd ∧ rd ≤ 31) (hs : 0 ≤ rs ∧ rs ≤ 31) (ht : 0 ≤ rt ∧ rt ≤ 31) : ∃ v,Wd v ∧ f1e (Machine.mk regs pc mem) ⟨(k : Int) + 1,rd,rs,rt,imm⟩ = some (true,st regs rd v,pc + 4,mem):=by
 obtain ⟨a,ha,wa⟩:=reg_at hM.r32 hM.wr hs
 obtain ⟨b,hb,wb⟩:=reg_at hM.r32 hM.wr ht
 obtain ⟨n1,n2,n3,n4⟩:=next_ok hM h0 h1
 obtain ⟨v,f1,f2,_⟩:=alu_ok k hk wa wb
 have k1:=set_st (pc:=pc) (mem:=mem) hM.r32 hd (v:=v)
 have c : ∀ n : Int,12 ≤ n → (((k : Int) + 1) == n) = false:=fun n hn=>by simp; omega
 exact ⟨v,f1,bind_to ha (bind_to (y:=.inl (st regs rd v)) (bind_to (y:=false) (sel_to (c 14 (by decide)) (congrArg some (c 16 (by decide)))) (sel_to rfl (bind_to (y:=false) (sel_to (c 15 (by decide)) (sel_to (c 20 (by decide)) (sel_to (c 17 (by decide)) (congrArg some (c 18 (by decide)))))) (sel_to rfl (sel_to (c 12 (by decide)) (sel_to (c 13 (by decide)) (sel_to (c 19 (by decide)) (bind_to hb (bind_to f2 (bind_to k1 rfl))))))))))
  (by show some (true,_,w64 (pc + 4),mem) = _; rw [n3]))⟩
theorem word_at {j : Nat} (hj : j < mem.length) (hl : mem.length ≤ 10000) : f2r mem (4 * (j : Int)) = some true ∧ w64 (Int.tdiv (4 * (j : Int)) 4) = (j : Int):=by
 rcases word_ok (mem:=mem) [] 0 (a:=4 * (j : Int)) (by unfold Wd; omega) hl with ⟨j',hj',e1,e2,_,e4⟩ | ⟨e2,_⟩
 ·obtain rfl : j' = j:=by omega
  exact ⟨e2,e4⟩
 ·exfalso
  unfold f2r at e2
  rw [Int.tmod_eq_emod_of_nonneg (by omega),Int.tdiv_eq_ediv_of_nonneg (by omega),w64_id (by omega) (by omega)] at e2
  have:=Option.some.inj e2
  simp at this
  omega
theorem sdo_lw {j : Nat} (hM : MOK regs pc mem) (h0 : 0 ≤ pc) (h1 : pc ≤ 40000) (hd : 0 ≤ rd ∧ rd ≤ 31) (ha : nth regs rs = some a) (hj : j < mem.length) (hj' : wrapW (w64 (a + imm)) = 4 * (j : Int)) : f1e (Machine.mk regs pc mem) ⟨14,rd,rs,rt,imm⟩ = some (true,st regs rd mem[j],pc + 4,mem):=by
 obtain ⟨n1,n2,n3,n4⟩:=next_ok hM h0 h1
 obtain ⟨e2,e4⟩:=word_at hj hM.m10
 have k1:=set_st (pc:=pc) (mem:=mem) hM.r32 hd (v:=mem[j])
 have hx' : nth mem (w64 (Int.tdiv (4 * (j : Int)) 4)) = some mem[j]:=by rw [e4]; exact nth_at hj
 refine bind_to ha (bind_to (y:=.inr (true,st regs rd mem[j],pc + 4,mem)) (bind_to (y:=true) rfl (sel_tt' rfl (bind_to (y:=(true,st regs rd mem[j],pc + 4,mem)) ?_ rfl))) rfl)
 refine bind_to ha (bind_to ((swrap_ok _).trans (congrArg some hj')) (bind_to e2 (sel_to rfl (bind_to (y:=(st regs rd mem[j],mem)) (sel_tt' rfl (bind_to hx' (bind_to k1 rfl))) ?_))))
 show some (true,_,w64 (pc + 4),mem) = _
 rw [n3]
theorem sdo_sw {j : Nat} (hM : MOK regs pc mem) (h0 : 0 ≤ pc) (h1 : pc ≤ 40000) (ha : nth regs rs = some a) (hb : nth regs rt = some b) (hj : j < mem.length) (hj' : wrapW (w64 (a + imm)) = 4 * (j : Int)) : f1e (Machine.mk regs pc mem) ⟨16,rd,rs,rt,imm⟩ = some (true,regs,pc + 4,mem.set j b):=by
 obtain ⟨n1,n2,n3,n4⟩:=next_ok hM h0 h1
 obtain ⟨e2,e4⟩:=word_at hj hM.m10
 have hx' : nth mem (w64 (Int.tdiv (4 * (j : Int)) 4)) = some mem[j]:=by rw [e4]; exact nth_at hj
 have hu' : upd mem (w64 (Int.tdiv (4 * (j : Int)) 4)) b = some (mem.set j b):=by rw [e4]; exact upd_at hj b
 refine bind_to ha (bind_to (y:=.inr (true,regs,pc + 4,mem.set j b)) (bind_to (y:=true) rfl (sel_tt' rfl (bind_to (y:=(true,regs,pc + 4,mem.set j b)) ?_ rfl))) rfl)
 refine bind_to ha (bind_to ((swrap_ok _).trans (congrArg some hj')) (bind_to e2 (sel_to rfl (bind_to (y:=(regs,mem.set j b)) (sel_to rfl (bind_to hb (bind_to hx' (bind_to hu' rfl)))) ?_))))
 show some (true,regs,w64 (pc + 4),mem.set j b) = _
 rw [n3]
theorem sdo_jalr (hM : MOK regs pc mem) (h0 : 0 ≤ pc) (h1 : pc ≤ 40000) (hz : nth regs 0 = some 0) : f1e (Machine.mk regs pc mem) ⟨15,1,0,0,0⟩ = some (true,st regs 1 (pc + 4),0,mem):=by
 obtain ⟨n1,n2,n3,n4⟩:=next_ok hM h0 h1
 have k1:=set_st (pc:=pc) (mem:=mem) hM.r32 (rd:=1) (by omega) (v:=pc + 4)
 refine bind_to hz (bind_to (y:=.inr (true,st regs 1 (pc + 4),0,mem)) (bind_to (y:=false) rfl (sel_to rfl (bind_to (y:=true) rfl (sel_tt' rfl (bind_to (y:=(st regs 1 (pc + 4),0)) ?_ rfl))))) rfl)
 exact bind_to n2 (bind_to hz (bind_to hz (sel_tt' rfl (bind_to hz (bind_to (y:=0) rfl (bind_to k1 rfl))))))
theorem sdo_jal {q : Int} (hM : MOK regs pc mem) (h0 : 0 ≤ pc) (h1 : pc ≤ 40000) (hz : nth regs 0 = some 0) (hq : wrapW (w64 (pc + imm)) = q) : f1e (Machine.mk regs pc mem) ⟨20,0,0,0,imm⟩ = some (true,regs,q,mem):=by
 obtain ⟨n1,n2,n3,n4⟩:=next_ok hM h0 h1
 have k1:=set_st (pc:=pc) (mem:=mem) hM.r32 (rd:=0) (by omega) (v:=pc + 4)
 exact bind_to hz (bind_to (y:=.inr (true,regs,q,mem)) (bind_to (y:=false) rfl (sel_to rfl (bind_to (y:=true) rfl (sel_tt' rfl (bind_to (y:=(regs,q)) (bind_to n2 (bind_to hz (bind_to hz (sel_to rfl (sel_tt' rfl (bind_to k1 (bind_to ((swrap_ok _).trans (congrArg some hq)) rfl))))))) rfl))))) rfl)
theorem sdo_bne {q : Int} (hM : MOK regs pc mem) (h0 : 0 ≤ pc) (h1 : pc ≤ 40000) (hs : 0 ≤ rs ∧ rs ≤ 31) (hz : nth regs 0 = some 0) (hq : wrapW (w64 (pc + imm)) = q) : ∃ p,(p = pc + 4 ∨ p = q) ∧ f1e (Machine.mk regs pc mem) ⟨18,0,rs,0,imm⟩ = some (true,regs,p,mem):=by
 obtain ⟨a,ha,wa⟩:=reg_at hM.r32 hM.wr hs
 obtain ⟨n1,n2,n3,n4⟩:=next_ok hM h0 h1
 cases hc : ((a == 0) == ((18 : Int) == 17))
 ·refine ⟨pc + 4,.inl rfl,bind_to ha (bind_to (y:=.inr (true,regs,pc + 4,mem)) (bind_to (y:=false) rfl (sel_to rfl (bind_to (y:=true) rfl (sel_tt' rfl (bind_to (y:=(regs,pc + 4)) ?_ rfl))))) rfl)⟩
  exact bind_to n2 (bind_to ha (bind_to hz (sel_to rfl (sel_to rfl (sel_to hc rfl)))))
 ·refine ⟨q,.inr rfl,bind_to ha (bind_to (y:=.inr (true,regs,q,mem)) (bind_to (y:=false) rfl (sel_to rfl (bind_to (y:=true) rfl (sel_tt' rfl (bind_to (y:=(regs,q)) ?_ rfl))))) rfl)⟩
  exact bind_to n2 (bind_to ha (bind_to hz (sel_to rfl (sel_to rfl (sel_tt' hc (bind_to ((swrap_ok _).trans (congrArg some hq)) rfl))))))
end
inductive Kn where
 | any
 | b11
 | c17 (n : Int)
def Kn.holds (regs : List Int) : Kn → Prop
 | .any=>True
 | .b11=>∃ b : Int,regs[11]? = some b ∧ 0 ≤ b ∧ b ≤ 1
 | .c17 n=>regs[17]? = some n ∧ 1 ≤ n ∧ n ≤ 5 ∧ (n ≤ 2 → ∃ b : Int,regs[11]? = some b ∧ 0 ≤ b ∧ b ≤ 1)
def plain (i : Instr) : Prop:=
 ((1 ≤ i.Op ∧ i.Op ≤ 11 ∨ i.Op = 12 ∨ i.Op = 13 ∨ i.Op = 19) ∧ (0 ≤ i.Rd ∧ i.Rd ≤ 31) ∧ i.Rd ≠ 2 ∧ (0 ≤ i.Rs ∧ i.Rs ≤ 31) ∧ (0 ≤ i.Rt ∧ i.Rt ≤ 31) ∧ (i.Op = 13 → -1048576 ≤ i.Imm ∧ i.Imm ≤ 1048575)) ∨
 (i.Op = 14 ∧ i.Rs = 2 ∧ (0 ≤ i.Rd ∧ i.Rd ≤ 31) ∧ i.Rd ≠ 2 ∧ ∃ k : Nat,k < 12 ∧ i.Imm = 4 * (k : Int)) ∨ (i.Op = 16 ∧ i.Rs = 2 ∧ i.Rt = 7 ∧ ∃ k : Nat,k < 12 ∧ i.Imm = 4 * (k : Int))
def chk (F : Prop) (J : Int → Prop) : Int → Kn → List Instr → Prop
 | _,_,[]=>F
 | at_,σ,i :: s=>(plain i ∧ chk F J (at_ + 1) .any s) ∨ (∃ b : Int,i = ⟨12,11,0,0,b⟩ ∧ 0 ≤ b ∧ b ≤ 1 ∧ chk F J (at_ + 1) .b11 s) ∨
   (∃ n : Int,i = ⟨12,17,0,0,n⟩ ∧ 1 ≤ n ∧ n ≤ 5 ∧ (n ≤ 2 → σ = .b11) ∧ chk F J (at_ + 1) (.c17 n) s) ∨ (i = ⟨15,1,0,0,0⟩ ∧ ∃ n,σ = .c17 n ∧ (n ≠ 5 → chk F J (at_ + 1) .any s)) ∨
   (∃ imm : Int,i = ⟨20,0,0,0,imm⟩ ∧ J (4 * at_ + imm)) ∨ (∃ rs : Int,(0 ≤ rs ∧ rs ≤ 31) ∧ i = ⟨18,0,rs,0,8⟩ ∧ s.length = 1 ∧ F ∧ chk F J (at_ + 1) .any s)
section
variable {F : Prop} {J : Int → Prop}
theorem chk.pl {σ : Kn} {at_ : Int} {i : Instr} {s : List Instr} (h : plain i) (k : chk F J (at_ + 1) .any s) : chk F J at_ σ (i :: s):=.inl ⟨h,k⟩
theorem rg_free {c p s : Int} (hc : 1 ≤ c ∧ c ≤ 8) (hp : Rg p) (hs : s = 5 ∨ s = 6 ∨ s = 7) : (0 ≤ rgOf c p s ∧ rgOf c p s ≤ 31) ∧ rgOf c p s ≠ 2:=by
 unfold rgOf
 unfold Rg at hp
 split
 ·obtain ⟨k,hk,hk2⟩ : ∃ k : Nat,p = (k : Int) ∧ k < 8:=⟨p.toNat,by omega,by omega⟩
  subst hk
  rcases (by omega : k = 0 ∨ k = 1 ∨ k = 2 ∨ k = 3 ∨ k = 4 ∨ k = 5 ∨ k = 6 ∨ k = 7) with rfl | rfl | rfl | rfl | rfl | rfl | rfl | rfl <;> exact ⟨⟨by decide,by decide⟩,by decide⟩
 ·omega
theorem chk.rd {σ : Kn} {at_ c p s : Int} {l : List Instr} (hc : 1 ≤ c ∧ c ≤ 8) (hp : Rg p) (hs : s = 5 ∨ s = 6) (k : ∀ a σ,chk F J a σ l) : chk F J at_ σ (rdL c p s ++ l):=by
 unfold rdL
 unfold Rg at hp
 split
 ·exact k _ _
 ·exact .pl (.inr (.inl ⟨rfl,rfl,by simp only; omega,by simp only; omega,(p - c).toNat,by omega,by simp only; omega⟩)) (k _ _)
theorem chk.wr {at_ c p : Int} (hc : 1 ≤ c ∧ c ≤ 8) (hp : Rg p) (hF : F) : chk F J at_ .any (wrL c p):=by
 unfold wrL
 unfold Rg at hp
 split
 ·exact hF
 ·exact .pl (.inr (.inr ⟨rfl,rfl,rfl,(p - c).toNat,by omega,by simp only; omega⟩)) hF
theorem plain_addi {d s i : Int} (hd : 0 ≤ d ∧ d ≤ 31) (h2 : d ≠ 2) (hs : 0 ≤ s ∧ s ≤ 31) : plain ⟨12,d,s,0,i⟩:=.inl ⟨.inr (.inl rfl),hd,h2,hs,by simp,fun h=>by cases h⟩
theorem quad_chk {q : Quad} {m c off : Int} (hq : QOk m q) (hc : 1 ≤ c ∧ c ≤ 8) (hF : q.Op ≠ 4 → q.Op ≠ 10 → F) (hJ : q.Op = 4 ∨ q.Op = 5 → J off) : chk F J 0 .any (quadL q c off):=by
 have hd : Rg q.Dst:=by unfold QOk at hq; unfold Rg at *; omega
 have rD:=rg_free hc hd (s:=7) (by omega)
 unfold quadL
 unfold QOk at hq
 split
 ·rename_i h
  have hf:=hF (by omega) (by omega)
  unfold constL
  split
  ·exact .pl (plain_addi rD.1 rD.2 (by omega)) (.wr hc hd hf)
  ·exact .pl (.inl ⟨.inr (.inr (.inr rfl)),rD.1,rD.2,by simp,by simp,fun h=>by cases h⟩) (.pl (plain_addi rD.1 rD.2 rD.1) (.wr hc hd hf))
 split
 ·rename_i h
  have hf:=hF (by omega) (by omega)
  have hA : Rg q.A:=by unfold Rg at *; omega
  have rA:=rg_free hc hA (s:=5) (by omega)
  rw [List.append_assoc]
  exact .rd hc hA (.inl rfl) fun a σ=>.pl (plain_addi rD.1 rD.2 rA.1) (.wr hc hd hf)
 split
 ·rename_i h
  have hf:=hF (by omega) (by omega)
  have hA : Rg q.A:=by unfold Rg at *; omega
  have hB : Rg q.B:=by unfold Rg at *; omega
  have rA:=rg_free hc hA (s:=5) (by omega)
  have rB:=rg_free hc hB (s:=6) (by omega)
  have ho:=opOf_bd (n:=q.N) (by omega)
  rw [List.append_assoc,List.append_assoc,List.append_assoc]
  refine .rd hc hA (.inl rfl) fun a σ=>.rd hc hB (.inr rfl) fun a σ=>.pl (.inl ⟨.inl ho,rD.1,rD.2,rA.1,rB.1,fun h=>by simp only at h; omega⟩) ?_
  split
  ·exact .pl (.inl ⟨.inr (.inr (.inl rfl)),rD.1,rD.2,rD.1,by simp,fun _=>by simp⟩) (.wr hc hd hf)
  ·exact .wr hc hd hf
 split
 ·rename_i h
  exact .inr (.inr (.inr (.inr (.inl ⟨off,rfl,by have:=hJ (.inl h); simpa using this⟩))))
 split
 ·rename_i h
  have hf:=hF (by omega) (by omega)
  have hA : Rg q.A:=by unfold Rg at *; omega
  have rA:=rg_free hc hA (s:=5) (by omega)
  have hj:=hJ (.inr h)
  unfold rdL
  split
  ·exact .inr (.inr (.inr (.inr (.inr ⟨_,rA.1,rfl,rfl,hf,.inr (.inr (.inr (.inr (.inl ⟨_,rfl,by simp only [List.length_nil]; rw [show (4 * (0 + 1) + (off - 4 * (((0 : Nat) : Int) + 1)) : Int) = off by omega]; exact hj⟩))))⟩))))
  ·unfold Rg at hA
   exact .pl (.inr (.inl ⟨rfl,rfl,by simp,by simp,(q.A - c).toNat,by omega,by simp only; omega⟩)) (.inr (.inr (.inr (.inr (.inr ⟨_,rA.1,rfl,rfl,hf,.inr (.inr (.inr (.inr (.inl ⟨_,rfl,by simp only [List.length_singleton]; rw [show (4 * (0 + 1 + 1) + (off - 4 * (((1 : Nat) : Int) + 1)) : Int) = off by omega]; exact hj⟩))))⟩)))))
 split
 ·rename_i h
  have hf:=hF (by omega) (by omega)
  have hA : Rg q.A:=by unfold Rg at *; omega
  have rA:=rg_free hc hA (s:=5) (by omega)
  rw [List.append_assoc]
  exact .rd hc hA (.inl rfl) fun a σ=>.pl (plain_addi (by omega) (by omega) rA.1) (.inr (.inl ⟨q.N,rfl,by omega,by omega,.inr (.inr (.inl ⟨1,rfl,by omega,by omega,fun _=>rfl,.inr (.inr (.inr (.inl ⟨rfl,1,rfl,fun _=>hf⟩)))⟩))⟩))
 split
 ·rename_i h
  have hf:=hF (by omega) (by omega)
  rw [List.append_assoc,List.append_assoc]
  exact .inr (.inl ⟨q.N,rfl,by omega,by omega,.inr (.inr (.inl ⟨2,rfl,by omega,by omega,fun _=>rfl,.inr (.inr (.inr (.inl ⟨rfl,2,rfl,fun _=>.pl (plain_addi rD.1 rD.2 (by omega)) (.wr hc hd hf)⟩)))⟩))⟩)
 split
 ·rename_i h
  have hf:=hF (by omega) (by omega)
  exact .inr (.inr (.inl ⟨3,rfl,by omega,by omega,fun h=>by omega,.inr (.inr (.inr (.inl ⟨rfl,3,rfl,fun _=>hf⟩)))⟩))
 split
 ·rename_i h
  have hf:=hF (by omega) (by omega)
  have hA : Rg q.A:=by unfold Rg at *; omega
  have rA:=rg_free hc hA (s:=5) (by omega)
  rw [List.append_assoc]
  exact .rd hc hA (.inl rfl) fun a σ=>.pl (plain_addi (by omega) (by omega) rA.1) (.inr (.inr (.inl ⟨4,rfl,by omega,by omega,fun h=>by omega,.inr (.inr (.inr (.inl ⟨rfl,4,rfl,fun _=>hf⟩)))⟩)))
 ·exact .inr (.inr (.inl ⟨5,rfl,by omega,by omega,fun h=>by omega,.inr (.inr (.inr (.inl ⟨rfl,5,rfl,fun h=>absurd rfl h⟩)))⟩))
end
end Go.Proofs.YtcljimkjmklkmaaGreat.N
namespace Go.Proofs.YtcljimkjmklkmaaGreat.N
open Go.Proofs.YtcljimkjmklkmaaGreat.X
section
variable {code : List Quad} {c : Int}
def Jp (code : List Quad) (c : Int) (i : Nat) (x : Int) : Prop:=∃ t : Nat,t < code.length ∧ 4 * (pl code c t : Int) = 4 * (pl code c i : Int) + x
theorem blk_chk (hc : COk code) (h : 1 ≤ c ∧ c ≤ 8) {i : Nat} (hi : i < code.length) : chk (i + 1 < code.length) (Jp code c i) 0 .any (blk code c i):=by
 have hg:=List.getElem?_eq_getElem hi
 have hq:=hc.q _ (List.mem_of_getElem? hg)
 have hqa:=qAt_of hg
 unfold blk
 rw [hqa]
 refine quad_chk hq h (fun h4 h10=>hc.nxt hg h10 h4) fun ho=>?_
 have hN : 0 ≤ (code[i]).N ∧ (code[i]).N < code.length:=by unfold QOk at hq; omega
 refine ⟨(code[i]).N.toNat,by omega,?_⟩
 unfold offL
 rw [hqa,if_pos ho]
 omega
theorem pl_up (code : List Quad) (c : Int) {i j : Nat} (h : i ≤ j) : pl code c i ≤ pl code c j:=by
 induction j with
 | zero =>
  obtain rfl : i = 0:=by omega
  exact Nat.le_refl _
 | succ j ih =>
  rcases Nat.lt_or_ge i (j + 1) with h1 | h1
  ·have:=ih (by omega)
   simp only [pl]
   omega
  ·obtain rfl : i = j + 1:=by omega
   exact Nat.le_refl _
theorem blk_len (code : List Quad) (c : Int) (i : Nat) : pl code c (i + 1) = pl code c i + (blk code c i).length:=by
 simp only [pl,blk,(quadL_len (qAt code i) c (offL code c i)).2.2]
theorem tk_get (code : List Quad) (c : Int) : ∀ (n i r : Nat),i < n → r < (blk code c i).length → (tk code c n)[pl code c i + r]? = (blk code c i)[r]?
 | 0,i,r,h,_=>by omega
 | n + 1,i,r,h,hr=>by
  simp only [tk]
  have hl:=tk_len code c n
  rcases Nat.lt_or_ge i n with h1 | h1
  ·have h2:=pl_up code c (show i + 1 ≤ n by omega)
   have h3:=blk_len code c i
   rw [List.getElem?_append_left (by omega)]
   exact tk_get code c n i r h1 hr
  ·obtain rfl : i = n:=by omega
   rw [List.getElem?_append_right (by omega),hl,Nat.add_sub_cancel_left]
def Run (code : List Quad) (c : Int) (p : Nat) (σ : Kn) : Prop:=∃ (i : Nat) (pre s : List Instr),i < code.length ∧ blk code c i = pre ++ s ∧ s ≠ [] ∧ p = pl code c i + pre.length ∧ chk (i + 1 < code.length) (Jp code c i) (pre.length : Int) σ s
theorem Run.start (hc : COk code) (h : 1 ≤ c ∧ c ≤ 8) {t : Nat} (ht : t < code.length) : Run code c (pl code c t) .any:=by
 refine ⟨t,[],blk code c t,ht,rfl,fun he=>?_,rfl,blk_chk hc h ht⟩
 have:=(quadL_len (qAt code t) c (offL code c t)).1
 unfold blk at he
 rw [he] at this
 simp at this
theorem Run.norm (hc : COk code) (h : 1 ≤ c ∧ c ≤ 8) {i : Nat} {pre s : List Instr} {σ : Kn} (hi : i < code.length) (hb : blk code c i = pre ++ s) (hk : chk (i + 1 < code.length) (Jp code c i) (pre.length : Int) σ s) : ∃ σ',Run code c (pl code c i + pre.length) σ' ∧ (σ' = σ ∨ σ' = .any):=by
 cases s with
 | nil =>
  have hF : i + 1 < code.length:=hk
  have:=blk_len code c i
  rw [hb,List.append_nil] at this
  rw [← this]
  exact ⟨.any,.start hc h hF,.inr rfl⟩
 | cons x s=>exact ⟨σ,⟨i,pre,x :: s,hi,hb,by simp,rfl,hk⟩,.inl rfl⟩
theorem Run.lt {p : Nat} {σ : Kn} (h : Run code c p σ) : p < (tk code c code.length).length:=by
 obtain ⟨i,pre,s,hi,hb,hs,rfl,_⟩:=h
 have h1:=pl_up code c (show i + 1 ≤ code.length by omega)
 have h2:=blk_len code c i
 rw [hb,List.length_append] at h2
 have : 0 < s.length:=List.length_pos_iff.2 hs
 rw [tk_len]
 omega
end
structure HI (n : Nat) (ws : List Int) (m : Machine) : Prop where
 ok : MOK m.Regs m.Pc m.Mem
 z0 : m.Regs[0]? = some 0
 sp : m.Regs[2]? = some (4 * ((n : Int) + 1))
 len : m.Mem.length = n + 13
 code : ∀ (j : Nat) w,ws[j]? = some w → m.Mem[j + 1]? = some w
def At (code : List Quad) (c : Int) (m : Machine) : Prop:=(∃ p σ,Run code c p σ ∧ m.Pc = 4 * ((p : Int) + 1) ∧ σ.holds m.Regs) ∨
 (m.Pc = 0 ∧ ∃ n,(Kn.c17 n).holds m.Regs ∧ (n ≠ 5 → ∃ p,Run code c p .any ∧ m.Regs[1]? = some (4 * ((p : Int) + 1))))
theorem nth_of {l : List Int} {k : Nat} {x : Int} (h : l[k]? = some x) : nth l (k : Int) = some x:=nth_get h
theorem Kn.any_or {σ' σ : Kn} {r : List Int} (h : σ' = σ ∨ σ' = .any) (hσ : σ.holds r) : σ'.holds r:=by
 rcases h with rfl | rfl
 ·exact hσ
 ·trivial
section
variable {code : List Quad} {c : Int} {n : Nat} {ws : List Int} {m : Machine}
theorem HI.pos (h : HI n ws m) : n ≤ 9987:=by have:=h.ok.m10; have:=h.len; omega
theorem fetch {L : List Instr} {ws : List Int} (hw : wl L = some ws) (hn : L.length = n) (h : HI n ws m) {p : Nat} {i : Instr} (hp : m.Pc = 4 * ((p : Int) + 1)) (hi : L[p]? = some i) (h21 : (i.Op == 21) = false) {r q mem} (hd : f1e (Machine.mk m.Regs m.Pc m.Mem) i = some (true,r,q,mem)) :
  f3g m = some (1,r,q,mem):=by
 obtain ⟨w,u,w1,w2,w3⟩:=wl_dec hw p i hi
 have hm:=h.code p w w1
 have hlt : p + 1 < m.Mem.length:=by rcases Nat.lt_or_ge (p + 1) m.Mem.length with h | h; exact h; rw [List.getElem?_eq_none h] at hm; cases hm
 have hpc : m.Pc = 4 * ((p + 1 : Nat) : Int):=by rw [hp]; omega
 obtain ⟨e2,e4⟩:=word_at hlt h.ok.m10
 rw [← hpc] at e2 e4
 have hx : nth m.Mem (w64 (Int.tdiv m.Pc 4)) = some w:=by rw [e4]; exact nth_of hm
 have hwd:=h.ok.wm w (List.mem_of_getElem? hm)
 obtain ⟨u',u1,u2,u3,u4⟩:=uns_ok hwd.1 hwd.2
 have hu : u' = u:=by rw [u3] at w2; have:=Option.some.inj w2; omega
 subst hu
 obtain ⟨x,b,d1,d2,_⟩:=dec_ok u' u1
 rw [d2] at w3
 obtain ⟨rfl,rfl⟩:=Prod.mk.inj (Option.some.inj w3)
 unfold f3g
 exact bind_to e2 (sel_to rfl (bind_to hx (bind_to u4 (bind_to d1 (sel_to rfl (sel_to h21 (bind_to hd (sel_to rfl rfl))))))))
theorem HI.turn {r : List Int} {q : Int} {mem : List Int} (h : HI n ws m) (hr : r.length = 32) (hw : ∀ x ∈ r,Wd x) (h0 : r[0]? = m.Regs[0]?) (h2 : r[2]? = m.Regs[2]?) (hq : 0 ≤ q ∧ q ≤ 50000) (hm : mem = m.Mem ∨ ∃ j b,n + 1 ≤ j ∧ Wd b ∧ mem = m.Mem.set j b) (hws : ws.length ≤ n) : HI n ws ⟨r,q,mem⟩:=by
 have hlen:=h.len
 have h10:=h.ok.m10
 rcases hm with rfl | ⟨j,b,hj,hb,rfl⟩
 ·exact ⟨⟨hr,h10,hw,h.ok.wm,by unfold Wd; simp only; omega⟩,h0.trans h.z0,h2.trans h.sp,hlen,h.code⟩
 ·refine ⟨⟨hr,by simpa using h10,hw,fun x hx=>?_,by unfold Wd; simp only; omega⟩,h0.trans h.z0,h2.trans h.sp,by simpa using hlen,fun k w hk=>?_⟩
  ·rcases List.mem_or_eq_of_mem_set hx with hx | rfl
   ·exact h.ok.wm x hx
   ·exact hb
  ·have hkl : k < ws.length:=by rcases Nat.lt_or_ge k ws.length with h | h; exact h; rw [List.getElem?_eq_none h] at hk; cases hk
   show (m.Mem.set j b)[k + 1]? = some w
   rw [List.getElem?_set_ne (by omega)]
   exact h.code k w hk
theorem hart_step (hc : COk code) (h8 : 1 ≤ c ∧ c ≤ 8) (hw : wl (tk code c code.length) = some ws) (hn : (tk code c code.length).length = n) (h : HI n ws m) {p : Nat} {σ : Kn} (hR : Run code c p σ) (hp : m.Pc = 4 * ((p : Int) + 1)) (hσ : σ.holds m.Regs) :
  ∃ r q mem,f3g m = some (1,r,q,mem) ∧ HI n ws ⟨r,q,mem⟩ ∧ At code c ⟨r,q,mem⟩:=by
 have hpn:=hR.lt
 rw [hn] at hpn
 have hn9:=h.pos
 have hwl:=wl_length hw
 rw [hn] at hwl
 have h32:=h.ok.r32
 have hlen:=h.len
 obtain ⟨i,pre,s,hi,hb,hs,rfl,hk⟩:=hR
 obtain ⟨x,s,rfl⟩ : ∃ x t,s = x :: t:=by cases s with | nil=>exact absurd rfl hs | cons x t=>exact ⟨x,t,rfl⟩
 have hx : (tk code c code.length)[pl code c i + pre.length]? = some x:=by
  rw [tk_get code c _ i pre.length hi (by rw [hb,List.length_append,List.length_cons]; omega),hb,List.getElem?_append_right (Nat.le_refl _),Nat.sub_self]; rfl
 have hb' : blk code c i = (pre ++ [x]) ++ s:=by rw [hb,List.append_assoc]; rfl
 have hl' : ((pre.length : Int) + 1) = ((pre ++ [x]).length : Int):=by rw [List.length_append,List.length_singleton]; omega
 have hpc0 : 0 ≤ m.Pc:=by rw [hp]; omega
 have hpc1 : m.Pc ≤ 40000:=by rw [hp]; omega
 have hz : nth m.Regs 0 = some 0:=nth_of (k:=0) h.z0
 have hsp : nth m.Regs 2 = some (4 * ((n : Int) + 1)):=nth_of (k:=2) h.sp
 have fall : ∀ {r : List Int} {mem : List Int} {τ : Kn},f1e (Machine.mk m.Regs m.Pc m.Mem) x = some (true,r,m.Pc + 4,mem) → (x.Op == 21) = false → r.length = 32 → (∀ y ∈ r,Wd y) → r[0]? = m.Regs[0]? → r[2]? = m.Regs[2]? → (mem = m.Mem ∨ ∃ j b,n + 1 ≤ j ∧ Wd b ∧ mem = m.Mem.set j b) → τ.holds r → chk (i + 1 < code.length) (Jp code c i) ((pre.length : Int) + 1) τ s →
   ∃ r q mem,f3g m = some (1,r,q,mem) ∧ HI n ws ⟨r,q,mem⟩ ∧ At code c ⟨r,q,mem⟩:=by
  intro r mem τ hd h21 hr hwd r0 r2 hm hτ hch
  rw [hl'] at hch
  obtain ⟨σ',q1,q2⟩:=Run.norm hc h8 hi hb' hch
  refine ⟨r,m.Pc + 4,mem,fetch hw hn h hp hx h21 hd,h.turn hr hwd r0 r2 (by omega) hm (by omega),.inl ⟨_,σ',q1,?_,Kn.any_or q2 hτ⟩⟩
  show m.Pc + 4 = _
  rw [hp,List.length_append,List.length_singleton]; omega
 have goes : ∀ {v rd : Int},0 ≤ rd ∧ rd ≤ 31 → rd ≠ 2 → (st m.Regs rd v).length = 32 ∧ (st m.Regs rd v)[0]? = m.Regs[0]? ∧ (st m.Regs rd v)[2]? = m.Regs[2]?:=by
  intro v rd h1 h2
  refine ⟨by rw [st_len,h32],?_,st_ne h1.1 (by omega)⟩
  by_cases h0 : rd = 0
  ·unfold st; rw [if_pos h0]
  ·exact st_ne h1.1 (by omega)
 rcases hk with ⟨hpl,hk⟩ | ⟨b,rfl,b0,b1,hk⟩ | ⟨k,rfl,k1,k5,kb,hk⟩ | ⟨rfl,k,rfl,hk⟩ | ⟨imm,rfl,t,ht,hk⟩ | ⟨rs,hrs,rfl,hsl,hF,hk⟩
 ·rcases hpl with ⟨ho,hrd,hrd2,hrs,hrt,him⟩ | ⟨ho,hrs,hrd,hrd2,k,hk12,him⟩ | ⟨ho,hrs,hrt,k,hk12,him⟩
  ·have h21 : (x.Op == 21) = false:=by simp; omega
   obtain ⟨op,rd,rs,rt,imm⟩:=x
   simp only at ho hrd hrd2 hrs hrt him h21
   have hd : ∃ v,Wd v ∧ f1e (Machine.mk m.Regs m.Pc m.Mem) ⟨op,rd,rs,rt,imm⟩ = some (true,st m.Regs rd v,m.Pc + 4,m.Mem):=by
    rcases ho with ho | rfl | rfl | rfl
    ·obtain ⟨k,rfl,hk⟩ : ∃ k : Nat,op = (k : Int) + 1 ∧ k < 11:=⟨(op - 1).toNat,by omega,by omega⟩
     exact sdo_alu hk h.ok hpc0 hpc1 hrd hrs hrt
    ·obtain ⟨a,ha,_⟩:=reg_at h32 h.ok.wr hrs
     exact ⟨_,wd_wrap _,sdo_addi h.ok hpc0 hpc1 hrd ha⟩
    ·exact sdo_sltiu h.ok hpc0 hpc1 hrd hrs (him rfl)
    ·exact sdo_lui h.ok hpc0 hpc1 hrd hrs
   obtain ⟨v,hv,hd⟩:=hd
   obtain ⟨g1,g2,g3⟩:=goes (v:=v) hrd hrd2
   exact fall (τ:=.any) hd h21 g1 (st_wd h.ok.wr hv) g2 g3 (.inl rfl) trivial hk
  ·obtain ⟨op,rd,rs,rt,imm⟩:=x
   simp only at ho hrs hrd hrd2 him
   subst ho hrs him
   have hj : n + 1 + k < m.Mem.length:=by omega
   have ha : wrapW (w64 (4 * ((n : Int) + 1) + 4 * (k : Int))) = 4 * ((n + 1 + k : Nat) : Int):=by rw [w64_id (by omega) (by omega)]; unfold wrapW; split <;> omega
   have hd:=sdo_lw (rt:=rt) h.ok hpc0 hpc1 hrd hsp hj ha
   obtain ⟨g1,g2,g3⟩:=goes (v:=m.Mem[n + 1 + k]) hrd hrd2
   exact fall (τ:=.any) hd rfl g1 (st_wd h.ok.wr (h.ok.wm _ (List.getElem_mem hj))) g2 g3 (.inl rfl) trivial hk
  ·obtain ⟨op,rd,rs,rt,imm⟩:=x
   simp only at ho hrs hrt him
   subst ho hrs hrt him
   have hj : n + 1 + k < m.Mem.length:=by omega
   have ha : wrapW (w64 (4 * ((n : Int) + 1) + 4 * (k : Int))) = 4 * ((n + 1 + k : Nat) : Int):=by rw [w64_id (by omega) (by omega)]; unfold wrapW; split <;> omega
   obtain ⟨b,hb7,wb⟩:=reg_at h32 h.ok.wr (r:=7) (by omega)
   have hd:=sdo_sw (rd:=rd) h.ok hpc0 hpc1 hsp hb7 hj ha
   exact fall (τ:=.any) hd rfl h32 h.ok.wr rfl rfl (.inr ⟨_,b,by omega,wb,rfl⟩) trivial hk
 ·have hd:=sdo_addi (rt:=0) (imm:=b) h.ok hpc0 hpc1 (rd:=11) (by omega) hz
  have hv : wrapW (w64 (0 + b)) = b:=by rw [w64_id (by omega) (by omega)]; unfold wrapW; split <;> omega
  rw [hv] at hd
  obtain ⟨g1,g2,g3⟩:=goes (v:=b) (rd:=11) (by omega) (by omega)
  exact fall (τ:=.b11) hd rfl g1 (st_wd h.ok.wr (by unfold Wd; omega)) g2 g3 (.inl rfl) ⟨b,st_eq (k:=11) (by omega) (by omega),b0,b1⟩ hk
 ·have hd:=sdo_addi (rt:=0) (imm:=k) h.ok hpc0 hpc1 (rd:=17) (by omega) hz
  have hv : wrapW (w64 (0 + k)) = k:=by rw [w64_id (by omega) (by omega)]; unfold wrapW; split <;> omega
  rw [hv] at hd
  obtain ⟨g1,g2,g3⟩:=goes (v:=k) (rd:=17) (by omega) (by omega)
  refine fall (τ:=.c17 k) hd rfl g1 (st_wd h.ok.wr (by unfold Wd; omega)) g2 g3 (.inl rfl) ⟨st_eq (k:=17) (by omega) (by omega),k1,k5,fun h2=>?_⟩ hk
  obtain rfl:=kb h2
  obtain ⟨b,hb1,hb2⟩:=hσ
  exact ⟨b,(st_ne (rd:=17) (k:=11) (by omega) (by omega)).trans hb1,hb2⟩
 ·have hd:=sdo_jalr h.ok hpc0 hpc1 hz
  obtain ⟨g1,g2,g3⟩:=goes (v:=m.Pc + 4) (rd:=1) (by omega) (by omega)
  obtain ⟨s1,s2,s3,s4⟩:=hσ
  refine ⟨_,0,m.Mem,fetch hw hn h hp hx rfl hd,h.turn g1 (st_wd h.ok.wr (by unfold Wd; omega)) g2 g3 (by omega) (.inl rfl) (by omega),.inr ⟨rfl,k,⟨(st_ne (rd:=1) (k:=17) (by omega) (by omega)).trans s1,s2,s3,fun h2=>?_⟩,fun h5=>?_⟩⟩
  ·obtain ⟨b,hb1,hb2⟩:=s4 h2
   exact ⟨b,(st_ne (rd:=1) (k:=11) (by omega) (by omega)).trans hb1,hb2⟩
  ·have hch:=hk h5
   rw [hl'] at hch
   obtain ⟨σ',q1,q2⟩:=Run.norm hc h8 hi hb' hch
   obtain rfl : σ' = .any:=by rcases q2 with h | h <;> exact h
   refine ⟨_,q1,(st_eq (k:=1) (by omega) (by omega)).trans ?_⟩
   congr 1
   rw [hp,List.length_append,List.length_singleton]; omega
 ·have hlt:=(Run.start hc h8 ht).lt
  rw [hn] at hlt
  have hq : wrapW (w64 (m.Pc + imm)) = 4 * ((pl code c t : Int) + 1):=by
   have : m.Pc + imm = 4 * ((pl code c t : Int) + 1):=by rw [hp]; omega
   rw [this,w64_id (by omega) (by omega)]; unfold wrapW; split <;> omega
  have hd:=sdo_jal h.ok hpc0 hpc1 hz hq
  exact ⟨_,_,_,fetch hw hn h hp hx rfl hd,h.turn h32 h.ok.wr rfl rfl (by omega) (.inl rfl) (by omega),.inl ⟨_,.any,Run.start hc h8 ht,rfl,trivial⟩⟩
 ·have hlt:=(Run.start hc h8 hF).lt
  rw [hn] at hlt
  have hbl:=blk_len code c i
  rw [hb',List.length_append,List.length_append,List.length_singleton,hsl] at hbl
  have hq : wrapW (w64 (m.Pc + 8)) = 4 * ((pl code c (i + 1) : Int) + 1):=by
   have : m.Pc + 8 = 4 * ((pl code c (i + 1) : Int) + 1):=by rw [hp]; omega
   rw [this,w64_id (by omega) (by omega)]; unfold wrapW; split <;> omega
  obtain ⟨q,hq2,hd⟩:=sdo_bne h.ok hpc0 hpc1 hrs hz hq
  rcases hq2 with rfl | rfl
  ·exact fall (τ:=.any) hd rfl h32 h.ok.wr rfl rfl (.inl rfl) trivial hk
  ·exact ⟨_,_,_,fetch hw hn h hp hx rfl hd,h.turn h32 h.ok.wr rfl rfl (by omega) (.inl rfl) (by omega),.inl ⟨_,.any,Run.start hc h8 hF,rfl,trivial⟩⟩
end
end Go.Proofs.YtcljimkjmklkmaaGreat.N
namespace Go.Proofs.YtcljimkjmklkmaaGreat.N
open Go.Proofs.YtcljimkjmklkmaaGreat.X
variable {b : List Int} {p m : Int}
def LQ (c : Int) (l : List (List Instr)) : Prop:=1 ≤ l.length ∧ l.length ≤ 3 ∧ ∀ x ∈ l,∃ code,COk code ∧ code.length ≤ 40 ∧ x = tk code c code.length
theorem lists_dq (hb : By b) {k : Nat} (hk : 20 ≤ k) (h0 : 0 ≤ p) (hm : p ≤ m) (hp : m ≤ 100000) : Dr (f6o k ⟨b,p⟩) (m + 150002) fun l=>∃ c,(1 ≤ c ∧ c ≤ 8) ∧ LQ c l:=by
 unfold f6o
 refine .bind (codes_dr hb hk h0 hm hp) fun l p1 hl h1 h2=>.bind (pick_dr hb h1 h2 (by omega) (by omega) (by omega)) fun x p2 hx h3 h4=>?_
 refine .tot (P:=LQ (1 + x)) (.iter (fun s : List (List Instr) × Int=>0 ≤ s.2 ∧ s.2 ≤ (l.length : Int) ∧ (s.1.length : Int) = s.2 ∧ ∀ y ∈ s.1,∃ code,COk code ∧ code.length ≤ 40 ∧ y = tk code (1 + x) code.length) (fun s=>((l.length : Int) - s.2).toNat) ⟨by simp,by simp only; omega,by simp,by simp⟩ fun s hs=>?_) fun r hr=>.pure ⟨1 + x,by omega,hr⟩ h3 (by omega)
 obtain ⟨out,i⟩:=s
 obtain ⟨g0,g1,g2,g3⟩:=hs
 simp only at g0 g1 g2 g3
 have hl1:=hl.1
 have hl2:=hl.2.1
 unfold f9c
 dsimp only
 rw [w64_s (i:=1 + x) (by omega) (by omega),w64_up g0 (by omega)]
 refine .sel (fun h=>?_) fun h=>.inr (show LQ (1 + x) out from ?_)
 ·simp only [decide_eq_true_eq] at h
  refine .bind (.nth (l:=l) g0 h) fun c ⟨_,hc⟩=>?_
  have hc':=hl.2.2 c hc
  rw [stask_eq hc'.1 (c:=1 + x) (by omega)]
  refine .bind (.pure (Q:=fun y=>y = tk c (1 + x) c.length) rfl) fun y hy=>.bind (.app (l:=out) (by simp; omega)) fun r hr=>.inl ?_
  subst hr hy
  refine ⟨⟨by simp only; omega,by simp only; omega,by simp; omega,fun z hz=>?_⟩,by simp only; omega⟩
  simp only [List.mem_append,List.mem_singleton] at hz
  rcases hz with hz | rfl
  ·exact g3 z hz
  ·exact ⟨c,hc'.1,hc'.2,rfl⟩
 ·simp only [decide_eq_false_iff_not] at h
  exact ⟨by omega,by omega,g3⟩
theorem LQ.lok {c : Int} (h : 1 ≤ c ∧ c ≤ 8) {l : List (List Instr)} (hl : LQ c l) : LOk l:=by
 refine ⟨hl.1,hl.2.1,fun x hx=>?_⟩
 obtain ⟨code,h1,h2,rfl⟩:=hl.2.2 x hx
 refine ⟨?_,tk_iok h1 h _ (Nat.le_refl _)⟩
 rw [tk_len]
 have:=pl_le code c code.length
 omega
theorem hart_at {code : List Quad} {c : Int} (hc : COk code) (h8 : 1 ≤ c ∧ c ≤ 8) (h40 : code.length ≤ 40) : ∃ ws,wl (tk code c code.length) = some ws ∧ f2t (tk code c code.length) = some (hM (tk code c code.length).length ws,true) ∧
  HI (tk code c code.length).length ws (hM (tk code c code.length).length ws) ∧ At code c (hM (tk code c code.length).length ws):=by
 have hlen : (tk code c code.length).length ≤ 240:=by rw [tk_len]; have:=pl_le code c code.length; omega
 obtain ⟨ws,hw⟩:=wl_some (l:=tk code c code.length) fun y hy=>ivalid_of (tk_iok hc h8 _ (Nat.le_refl _) y hy)
 have hwl:=wl_length hw
 rcases hart_ok (tk code c code.length) (by omega) with ⟨h,_⟩ | ⟨ws',h,_,e2⟩
 ·rw [hw] at h; cases h
 ·obtain rfl : ws = ws':=by rw [hw] at h; exact Option.some.inj h
  refine ⟨ws,hw,e2,⟨hart_mok (by omega) hw,rfl,rfl,by simp [hM]; omega,fun j w hj=>?_⟩,.inl ⟨0,.any,?_,rfl,trivial⟩⟩
  ·have hjl : j < ws.length:=by rcases Nat.lt_or_ge j ws.length with h | h; exact h; rw [List.getElem?_eq_none h] at hj; cases hj
   show (0 :: ws ++ List.replicate 12 0)[j + 1]? = some w
   rw [List.cons_append,List.getElem?_cons_succ,List.getElem?_append_left hjl,hj]
  ·exact Run.start hc h8 (t:=0) (by have:=hc.one; omega)
end Go.Proofs.YtcljimkjmklkmaaGreat.N
namespace Go.Proofs.YtcljimkjmklkmaaGreat.N
open Go.Proofs.YtcljimkjmklkmaaGreat.X
def BxOk (b : Box) : Prop:=1 ≤ b.Room ∧ b.Room ≤ 4 ∧ (b.Items.length : Int) ≤ b.Room ∧ ∀ x ∈ b.Items,Wd x
theorem words_true {l : List Int} (hl : l.length ≤ 1048576) (h : ∀ x ∈ l,Wd x) : f1p l (l.length : Int) = some true ∧ f1i l = some true:=
 ⟨(swords_ok l hl).trans (by rw [all_wd h]),(iwords_ok l hl).trans (by rw [all_wd h])⟩
theorem box_true {b : Box} (h : BxOk b) : f3q (Box.mk b.Room b.Items) = some true ∧ f6x (Box.mk b.Room b.Items) = some true:=by
 obtain ⟨h1,h2,h3,h4⟩:=h
 obtain ⟨w1,w2⟩:=words_true (l:=b.Items) (by omega) h4
 refine ⟨?_,?_⟩
 ·unfold f3q f02
  refine bind_to rfl (bind_to (y:=true) (sel_tt' ?_ (bind_to w1 rfl)) rfl)
  simp; omega
 ·unfold f6x
  exact bind_to (y:=true) (sel_tt' (by simp; omega) (bind_to w2 rfl)) rfl
def HA (c : Int) (code : List Quad) (m : Machine) : Prop:=∃ ws,wl (tk code c code.length) = some ws ∧ HI (tk code c code.length).length ws m ∧ At code c m
structure SQ (c : Int) (cs : List (List Quad)) (s : Squad) : Prop where
 hl : s.Harts.length = cs.length
 hs : ∀ (j : Nat) code m,cs[j]? = some code → s.Harts[j]? = some m → HA c code m
 bl : s.Boxes.length = 2
 bs : ∀ b ∈ s.Boxes,BxOk b
 t : 0 ≤ s.Turn ∧ s.Turn < cs.length
 i : 0 ≤ s.Idle ∧ s.Idle ≤ cs.length
 o : ∀ x ∈ s.Out,Wd x
structure CsOK (c : Int) (cs : List (List Quad)) : Prop where
 c8 : 1 ≤ c ∧ c ≤ 8
 l1 : 1 ≤ cs.length
 l3 : cs.length ≤ 3
 ok : ∀ code ∈ cs,COk code ∧ code.length ≤ 40
section
variable {c : Int} {cs : List (List Quad)} {s : Squad}
theorem turn_next {k : Nat} {t i d : Int} (h1 : 1 ≤ k) (h3 : k ≤ 3) (ht : 0 ≤ t ∧ t < k) (hi : 0 ≤ i ∧ i < k) (hd : 1 ≤ d ∧ d ≤ 4) : ∃ t' i',f4w (k : Int) t i d = some (t',i',true) ∧ (0 ≤ t' ∧ t' < k) ∧ 0 ≤ i' ∧ i' ≤ k:=by
 have hm : 0 ≤ (t + 1).tmod (k : Int) ∧ (t + 1).tmod (k : Int) < k:=⟨Int.tmod_nonneg _ (by omega),Int.tmod_lt_of_pos _ (by omega)⟩
 have hr : remO (w64 (t + 1)) (k : Int) = some ((t + 1).tmod (k : Int)):=by unfold remO; rw [w64_id (by omega) (by omega),if_neg (by omega)]
 have wk : w64 ((k : Int) - 1) = (k : Int) - 1:=w64_id (by omega) (by omega)
 have wi : w64 (i + 1) = i + 1:=w64_id (by omega) (by omega)
 have b1 : (decide ((k : Int) ≥ 1) && decide ((k : Int) ≤ 3)) = true:=by simp; omega
 have b2 : (decide (t ≥ 0) && decide (t ≤ (k : Int) - 1)) = true:=by simp; omega
 have b3 : (decide (i ≥ 0) && decide (i ≤ (k : Int) - 1)) = true:=by simp; omega
 unfold f4w f02
 rw [wk,wi]
 simp only [Option.bind_some,b1,b2,b3,Bool.not_true,sel,hr]
 rcases (by omega : d = 1 ∨ d = 2 ∨ d = 3 ∨ d = 4) with rfl | rfl | rfl | rfl
 ·exact ⟨t,0,rfl,ht,by omega,by omega⟩
 ·exact ⟨_,0,rfl,hm,by omega,by omega⟩
 ·exact ⟨_,i + 1,rfl,hm,by omega,by omega⟩
 ·exact ⟨_,i + 1,rfl,hm,by omega,by omega⟩
theorem call_ok {code : List Quad} {m : Machine} {bs : List Box} {n : Nat} {ws : List Int} (hc : COk code) (hn9 : n ≤ 240) (hws : ws.length ≤ n) (hn : (tk code c code.length).length = n) (h : HI n ws m) (hp : m.Pc = 0) {k : Int} (hk : (Kn.c17 k).holds m.Regs) (h1 : k ≠ 5 → ∃ p,Run code c p .any ∧ m.Regs[1]? = some (4 * ((p : Int) + 1)))
  (bl : bs.length = 2) (hb : ∀ b ∈ bs,BxOk b) : f5t (Machine.mk m.Regs m.Pc m.Mem) (bs.length : Int) = some true ∧ ∃ o d r q bs',f1o (Machine.mk m.Regs m.Pc m.Mem) bs = some (o,d,r,q,bs') ∧ (1 ≤ d ∧ d ≤ 4) ∧ HI n ws ⟨r,q,m.Mem⟩ ∧ At code c ⟨r,q,m.Mem⟩ ∧ bs'.length = 2 ∧ (∀ b ∈ bs',BxOk b) ∧ (∀ x ∈ o,Wd x) ∧ o.length ≤ 1 ∧ bs'.map Box.Room = bs.map Box.Room:=by
 obtain ⟨k17,k1,k5,k11⟩:=hk
 have n17 : nth m.Regs 17 = some k:=nth_of (k:=17) k17
 have hl32:=h.ok.r32
 have keep : At code c m:=.inr ⟨hp,k,⟨k17,k1,k5,k11⟩,h1⟩
 have hpp : ∀ {p : Nat},Run code c p .any → 0 ≤ 4 * ((p : Int) + 1) ∧ 4 * ((p : Int) + 1) ≤ 50000:=fun hR=>by have:=hR.lt; rw [hn] at this; omega
 have fits : f5t (Machine.mk m.Regs m.Pc m.Mem) (bs.length : Int) = some true:=by
  unfold f5t f02
  rw [bl]
  have e1 : (decide (k ≥ 1) && decide (k ≤ 5)) = true:=by simp; omega
  refine bind_to n17 (bind_to (y:=false) (sel_to (by simp [hp]) (bind_to (y:=true) (congrArg some e1) rfl)) (sel_to rfl ?_))
  by_cases h2 : k ≤ 2
  ·obtain ⟨b,hb1,hb2⟩:=k11 h2
   have e2 : (decide (b ≥ 0) && decide (b ≤ w64 (((2 : Nat) : Int) - 1))) = true:=by
    rw [w64_id (by omega) (by omega)]; simp; omega
   exact bind_to (y:=true) (sel_to (by simp; omega) (bind_to (nth_of (k:=11) hb1) (bind_to (y:=true) (congrArg some e2) rfl))) rfl
  ·exact bind_to (y:=true) (sel_tt' (by simp; omega) rfl) rfl
 refine ⟨fits,?_⟩
 by_cases h2 : k ≤ 2
 ·obtain ⟨b,hb1,hb2⟩:=k11 h2
  have n11 : nth m.Regs 11 = some b:=nth_of (k:=11) hb1
  obtain ⟨p,hR,hr1⟩:=h1 (by omega)
  have n1 : nth m.Regs 1 = some (4 * ((p : Int) + 1)):=nth_of (k:=1) hr1
  obtain ⟨j,rfl⟩ : ∃ j : Nat,b = (j : Int):=⟨b.toNat,by omega⟩
  have hj : j < bs.length:=by omega
  have hbx:=hb _ (List.getElem_mem hj)
  have nb:=nth_at hj
  obtain ⟨v1,_⟩:=box_true hbx
  obtain ⟨x,hx,wx⟩:=reg_at hl32 h.ok.wr (r:=10) (by omega)
  obtain ⟨g1,g2,g3,g4⟩:=hbx
  have y1 : ((sel (k == 1) (some (k == 1)) <| some (k == 2)) : Option Bool) = some true:=by
   rcases (by omega : k = 1 ∨ k = 2) with rfl | rfl <;> rfl
  have hset : ∀ {bx : Box},BxOk bx → bx.Room = (bs[j]).Room → (bs.set j bx).length = 2 ∧ (∀ b ∈ bs.set j bx,BxOk b) ∧ (bs.set j bx).map Box.Room = bs.map Box.Room:=fun hbx hrm=>by
   refine ⟨by simpa using bl,fun b hbm=>?_,?_⟩
   ·rcases List.mem_or_eq_of_mem_set hbm with h | rfl
    ·exact hb b h
    ·exact hbx
   ·rw [List.map_set,hrm]
    apply List.ext_getElem?
    intro q
    rw [List.getElem?_set]
    split
    ·rename_i hq; subst hq; simp [hj]
    ·rfl
  rcases (by omega : k = 1 ∨ k = 2) with rfl | rfl
  ·by_cases hroom : ((bs[j]).Items.length : Int) ≥ (bs[j]).Room
   ·have hput : f5e (Box.mk (bs[j]).Room (bs[j]).Items) x = some (Box.mk 0 [],false):=by
     unfold f5e
     exact bind_to v1 (bind_to (y:=false) (sel_to rfl (bind_to (swv_ok wx) rfl)) (sel_tt' (by simp; omega) rfl))
    refine ⟨[],3,m.Regs,m.Pc,bs,?_,by omega,h,keep,bl,hb,by simp,by simp,rfl⟩
    unfold f1o f4n
    exact bind_to n17 (bind_to y1 (sel_tt' rfl (bind_to (y:=(3,m.Regs,m.Pc,bs)) (bind_to n11 (bind_to n17 (sel_tt' rfl (bind_to nb (bind_to hx (bind_to hput (sel_tt' rfl rfl))))))) rfl)))
   ·have ha1 : app 8 [] (bs[j]).Items = some (bs[j]).Items:=(app_ok (by simp; omega)).trans (by simp)
    have ha2 : app 8 (bs[j]).Items [x] = some ((bs[j]).Items ++ [x]):=app_ok (by simp; omega)
    have hput : f5e (Box.mk (bs[j]).Room (bs[j]).Items) x = some (Box.mk (bs[j]).Room ((bs[j]).Items ++ [x]),true):=by
     unfold f5e
     exact bind_to v1 (bind_to (y:=false) (sel_to rfl (bind_to (swv_ok wx) rfl)) (sel_to (by simp; omega) (bind_to ha1 (bind_to ha2 rfl))))
    obtain ⟨s1,s2,s3⟩:=hset (bx:=Box.mk (bs[j]).Room ((bs[j]).Items ++ [x])) ⟨g1,g2,by simp only [List.length_append,List.length_singleton]; omega,fun y hy=>by
     rcases List.mem_append.1 hy with hy | hy
     ·exact g4 y hy
     ·rw [List.mem_singleton.1 hy]; exact wx⟩ rfl
    refine ⟨[],1,m.Regs,_,bs.set j (Box.mk (bs[j]).Room ((bs[j]).Items ++ [x])),?_,by omega,h.turn hl32 h.ok.wr rfl rfl (hpp hR) (.inl rfl) hws,.inl ⟨p,.any,hR,rfl,trivial⟩,s1,s2,by simp,by simp,s3⟩
    unfold f1o f4n
    exact bind_to n17 (bind_to y1 (sel_tt' rfl (bind_to (y:=(1,m.Regs,4 * ((p : Int) + 1),bs.set j (Box.mk (bs[j]).Room ((bs[j]).Items ++ [x])))) (bind_to n11 (bind_to n17 (sel_tt' rfl (bind_to nb (bind_to hx (bind_to hput (sel_to rfl (bind_to nb (bind_to n1 (by simp)))))))))) rfl)))
  ·by_cases hemp : (bs[j]).Items = []
   ·have htake : f4m (Box.mk (bs[j]).Room (bs[j]).Items) = some (Box.mk 0 [],0,false):=by
     unfold f4m
     exact bind_to v1 (sel_tt' (by simp [hemp]) rfl)
    refine ⟨[],3,m.Regs,m.Pc,bs,?_,by omega,h,keep,bl,hb,by simp,by simp,rfl⟩
    unfold f1o f4n
    exact bind_to n17 (bind_to y1 (sel_tt' rfl (bind_to (y:=(3,m.Regs,m.Pc,bs)) (bind_to n11 (bind_to n17 (sel_to rfl (bind_to nb (bind_to htake (sel_tt' rfl rfl)))))) rfl)))
   ·obtain ⟨y,ys,hys⟩ : ∃ y ys,(bs[j]).Items = y :: ys:=by
     cases hq : (bs[j]).Items with
     | nil=>exact absurd hq hemp
     | cons y ys=>exact ⟨y,ys,rfl⟩
    have wy : Wd y:=g4 y (by rw [hys]; simp)
    have hcut : cut (bs[j]).Items 1 ((bs[j]).Items.length : Int) = some ys:=by
     rw [hys]; unfold cut; rw [if_pos (by simp; omega)]; simp
    have h0 : nth (bs[j]).Items 0 = some y:=by rw [hys]; rfl
    have hlen : (bs[j]).Items.length = ys.length + 1:=by rw [hys]; rfl
    have ha : app 8 [] ys = some ys:=(app_ok (by simp; omega)).trans (by simp)
    have htake : f4m (Box.mk (bs[j]).Room (bs[j]).Items) = some (Box.mk (bs[j]).Room ys,y,true):=by
     unfold f4m
     refine bind_to v1 (sel_to ?_ (bind_to hcut (bind_to h0 (bind_to ha rfl))))
     simp [hys]; omega
    obtain ⟨s1,s2,s3⟩:=hset (bx:=Box.mk (bs[j]).Room ys) ⟨g1,g2,by simp only; omega,fun z hz=>g4 z (by rw [hys]; simp [hz])⟩ rfl
    have hu : upd m.Regs 10 y = some (m.Regs.set 10 y):=upd_at (i:=10) (by omega) y
    have hr1' : (m.Regs.set 10 y)[1]? = some (4 * ((p : Int) + 1)):=by rw [List.getElem?_set_ne (by omega)]; exact hr1
    have hwd : ∀ z ∈ m.Regs.set 10 y,Wd z:=fun z hz=>by
     rcases List.mem_or_eq_of_mem_set hz with h' | rfl
     ·exact h.ok.wr z h'
     ·exact wy
    refine ⟨[],1,m.Regs.set 10 y,_,bs.set j (Box.mk (bs[j]).Room ys),?_,by omega,h.turn (by simpa using hl32) hwd (by rw [List.getElem?_set_ne (by omega)]) (by rw [List.getElem?_set_ne (by omega)]) (hpp hR) (.inl rfl) hws,.inl ⟨p,.any,hR,rfl,trivial⟩,s1,s2,by simp,by simp,s3⟩
    unfold f1o f4n
    exact bind_to n17 (bind_to y1 (sel_tt' rfl (bind_to (y:=(1,m.Regs.set 10 y,4 * ((p : Int) + 1),bs.set j (Box.mk (bs[j]).Room ys))) (bind_to n11 (bind_to n17 (sel_to rfl (bind_to nb (bind_to htake (sel_to rfl (bind_to hx (bind_to hu (bind_to (nth_of (k:=1) hr1') (by simp)))))))))) rfl)))
 ·have y1 : ((sel (k == 1) (some (k == 1)) <| some (k == 2)) : Option Bool) = some false:=by
   rcases (by omega : k = 3 ∨ k = 4 ∨ k = 5) with rfl | rfl | rfl <;> rfl
  by_cases h5 : k = 5
  ·subst h5
   refine ⟨[],4,m.Regs,m.Pc,bs,?_,by omega,h,keep,bl,hb,by simp,by simp,rfl⟩
   unfold f1o
   exact bind_to n17 (bind_to y1 (sel_to rfl (sel_tt' rfl rfl)))
  ·obtain ⟨p,hR,hr1⟩:=h1 h5
   have n1 : nth m.Regs 1 = some (4 * ((p : Int) + 1)):=nth_of (k:=1) hr1
   obtain ⟨x,hx,wx⟩:=reg_at hl32 h.ok.wr (r:=10) (by omega)
   have hI:=h.turn (q:=4 * ((p : Int) + 1)) hl32 h.ok.wr rfl rfl (hpp hR) (.inl rfl) hws
   rcases (by omega : k = 3 ∨ k = 4) with rfl | rfl
   ·refine ⟨[],2,m.Regs,_,bs,?_,by omega,hI,.inl ⟨p,.any,hR,rfl,trivial⟩,bl,hb,by simp,by simp,rfl⟩
    unfold f1o
    exact bind_to n17 (bind_to y1 (sel_to rfl (sel_to rfl (bind_to n1 (bind_to n17 (sel_to rfl rfl))))))
   ·refine ⟨[x],1,m.Regs,_,bs,?_,by omega,hI,.inl ⟨p,.any,hR,rfl,trivial⟩,bl,hb,by simp [wx],by simp,rfl⟩
    unfold f1o
    exact bind_to n17 (bind_to y1 (sel_to rfl (sel_to rfl (bind_to n1 (bind_to n17 (sel_tt' rfl (bind_to hx rfl)))))))
theorem squad_step (hC : CsOK c cs) (h : SQ c cs s) (hi : s.Idle < cs.length) (ho : s.Out.length ≤ 1000000) : ∃ s',f5n (Squad.mk s.Harts s.Boxes s.Turn s.Idle s.Out) = some (true,s'.Harts,s'.Boxes,s'.Turn,s'.Idle,s'.Out) ∧ SQ c cs s' ∧ s'.Boxes.map Box.Room = s.Boxes.map Box.Room ∧ ∃ o,s'.Out = s.Out ++ o ∧ o.length ≤ 1:=by
 obtain ⟨t,ht,htl⟩ : ∃ t : Nat,s.Turn = (t : Int) ∧ t < cs.length:=⟨s.Turn.toNat,by have:=h.t; omega,by have:=h.t; omega⟩
 have hth : t < s.Harts.length:=by rw [h.hl]; exact htl
 have nm:=nth_at hth
 rw [← ht] at nm
 have hcode:=List.getElem?_eq_getElem htl
 obtain ⟨hcok,hc40⟩:=hC.ok _ (List.mem_of_getElem? hcode)
 obtain ⟨ws,hw,hI,hA⟩:=h.hs t _ _ hcode (List.getElem?_eq_getElem hth)
 have hn9 : (tk (cs[t]) c (cs[t]).length).length ≤ 240:=by rw [tk_len]; have:=pl_le (cs[t]) c (cs[t]).length; omega
 have hwl:=wl_length hw
 generalize hm : s.Harts[t] = m at nm hI hA
 have fin : ∀ {d : Int} {o : List Int} {r : List Int} {q : Int} {mem : List Int} {bs : List Box},(1 ≤ d ∧ d ≤ 4) → HI (tk (cs[t]) c (cs[t]).length).length ws ⟨r,q,mem⟩ → At (cs[t]) c ⟨r,q,mem⟩ → bs.length = 2 → (∀ b ∈ bs,BxOk b) → (∀ x ∈ o,Wd x) → o.length ≤ 1 → bs.map Box.Room = s.Boxes.map Box.Room →
   ∃ t' i',(f4w ((s.Harts.set t ⟨r,q,mem⟩).length : Int) s.Turn s.Idle d) = some (t',i',true) ∧ SQ c cs (Squad.mk (s.Harts.set t ⟨r,q,mem⟩) bs t' i' (s.Out ++ o)):=by
  intro d o r q mem bs hd hI' hA' hbl hbs hox hol _
  obtain ⟨t',i',e,ht',hi'⟩:=turn_next (k:=cs.length) hC.l1 hC.l3 h.t ⟨h.i.1,hi⟩ hd
  refine ⟨t',i',?_,⟨by simpa using h.hl,fun j code m' hj hm'=>?_,hbl,hbs,ht',hi',fun x hx=>?_⟩⟩
  ·rw [List.length_set,h.hl]; exact e
  ·by_cases hjt : j = t
   ·subst hjt
    rw [hcode] at hj
    obtain rfl:=Option.some.inj hj
    simp only [List.getElem?_set_self hth,Option.some.injEq] at hm'
    subst hm'
    exact ⟨ws,hw,hI',hA'⟩
   ·simp only [List.getElem?_set_ne (fun h=>hjt h.symm)] at hm'
    exact h.hs j code m' hj hm'
  ·rcases List.mem_append.1 hx with hx | hx
   ·exact h.o x hx
   ·exact hox x hx
 rcases hA with ⟨p,σ,hR,hp,hσ⟩ | ⟨hp,k,hk,h1⟩
 ·obtain ⟨r,q,mem,e,hI',hA'⟩:=hart_step hcok hC.c8 hw rfl hI hR hp hσ
  obtain ⟨t',i',e2,hS⟩:=fin (d:=1) (o:=[]) (by omega) hI' hA' h.bl h.bs (by simp) (by simp) rfl
  have hpc : (m.Pc == 0) = false:=by rw [hp]; simp; omega
  have e' : f3g (Machine.mk m.Regs m.Pc m.Mem) = some (1,r,q,mem):=e
  refine ⟨_,?_,hS,rfl,[],rfl,by simp⟩
  unfold f5n
  refine bind_to nm (bind_to (y:=.inl (1,s.Out,s.Harts.set t ⟨r,q,mem⟩,s.Boxes)) (sel_to hpc (bind_to e' (sel_to rfl ?_))) ?_)
  ·rw [ht]; simp
  ·dsimp only [both]
   refine bind_to e2 ?_
   simp
 ·obtain ⟨hf,o,d,r,q,bs',e,hd,hI',hA',b1,b2,o1,o2,b3⟩:=call_ok hcok hn9 (by omega) rfl hI hp hk h1 h.bl h.bs
  obtain ⟨t',i',e2,hS⟩:=fin hd hI' hA' b1 b2 o1 o2 b3
  have hpc : (m.Pc == 0) = true:=by rw [hp]; rfl
  refine ⟨_,?_,hS,b3,o,rfl,o2⟩
  have ha : app 8 s.Out o = some (s.Out ++ o):=app_ok (by omega)
  unfold f5n
  refine bind_to nm (bind_to (y:=.inl (d,s.Out ++ o,s.Harts.set t ⟨r,q,m.Mem⟩,bs')) (sel_tt' hpc (bind_to hf (sel_to rfl (bind_to e (bind_to ha ?_))))) ?_)
  ·rw [ht]; simp
  ·dsimp only [both]
   exact bind_to e2 rfl
end
end Go.Proofs.YtcljimkjmklkmaaGreat.N
namespace Go.Proofs.YtcljimkjmklkmaaGreat.N
open Go.Proofs.YtcljimkjmklkmaaGreat.X
theorem boxes_true {l : List Box} (hl : l.length ≤ 3) (h : ∀ b ∈ l,BxOk b) : f6v l = some true ∧ f5b l = some true:=by
 have e1:=all_loop (f:=f4k l) (l:=l) (fun _=>true) (by omega) (fun i hi=>by
  unfold f4k
  exact sel_tt' (by simpa using hi) (bind_to (nth_at hi) (bind_to (box_true (h _ (List.getElem_mem hi))).1 (sel_to rfl rfl)))) (by
  unfold f4k
  exact sel_to (by simp) rfl)
 have e2:=all_loop (f:=f3e l) (l:=l) (fun _=>true) (by omega) (fun i hi=>by
  unfold f3e
  exact sel_tt' (by simpa using hi) (bind_to (nth_at hi) (bind_to (box_true (h _ (List.getElem_mem hi))).2 (sel_to rfl rfl)))) (by
  unfold f3e
  exact sel_to (by simp) rfl)
 rw [show l.all (fun _=>true) = true by simp] at e1 e2
 have e3 : decide ((l.length : Int) ≤ 3) = true:=by simp; omega
 refine ⟨?_,?_⟩
 ·unfold f6v; exact bind_to e1 (congrArg some e3)
 ·unfold f5b; exact bind_to e2 (congrArg some e3)
structure DS (s : Squad) : Prop where
 l1 : 1 ≤ s.Harts.length
 l3 : s.Harts.length ≤ 3
 hm : ∀ m ∈ s.Harts,MOK m.Regs m.Pc m.Mem ∧ m.Regs[0]? = some 0
 bl : s.Boxes.length = 2
 bs : ∀ b ∈ s.Boxes,BxOk b
 i : 0 ≤ s.Idle ∧ s.Idle ≤ s.Harts.length
 o : s.Out.length ≤ 1000000
def okB (s : Squad) : Bool:=(decide (0 ≤ s.Turn) && decide (s.Turn < (s.Harts.length : Int))) && s.Out.all wdB
theorem valid_both {s : Squad} (h : DS s) : f4r (Squad.mk s.Harts s.Boxes s.Turn s.Idle s.Out) = some (okB s) ∧ f51 (Squad.mk s.Harts s.Boxes s.Turn s.Idle s.Out) = some (okB s):=by
 have h1:=h.l1
 have h3:=h.l3
 have hi:=h.i
 have ho:=h.o
 obtain ⟨b1,b2⟩:=boxes_true (by have:=h.bl; omega) h.bs
 have e1:=all_loop (f:=f4l (Squad.mk s.Harts s.Boxes s.Turn s.Idle s.Out)) (l:=s.Harts) (fun _=>true) (by omega) (fun i hi=>by
  obtain ⟨m1,m2⟩:=h.hm _ (List.getElem_mem hi)
  unfold f4l
  exact sel_tt' (by simpa using hi) (bind_to (nth_at hi) (bind_to (mv_true m1 m2).2 (sel_to rfl rfl)))) (by
  unfold f4l
  exact sel_to (by simp) rfl)
 rw [show s.Harts.all (fun _=>true) = true by simp] at e1
 have e2 : iter (f09 s.Harts) 0 = some (.inr ()):=iter_st (f:=f09 s.Harts) (fun i=>(i : Int)) s.Harts.length (fun i hi=>by
  obtain ⟨m1,m2⟩:=h.hm _ (List.getElem_mem hi)
  unfold f09 f5f
  exact sel_tt' (by simpa using hi) (bind_to (nth_at hi) (bind_to (y:=false) (bind_to (mv_true m1 m2).1 rfl) (sel_to rfl (by rw [w64_nat (by omega)]))))) (by
  unfold f09
  exact sel_to (by simp) rfl)
 have ec : f0g s.Harts = some false:=by
  unfold f0g f0q
  exact bind_to (y:=-1) (bind_to e2 rfl) rfl
 have wk : w64 ((s.Harts.length : Int) - 1) = (s.Harts.length : Int) - 1:=w64_id (by omega) (by omega)
 have hso:=swords_ok s.Out (by omega)
 have hio:=iwords_ok s.Out (by omega)
 have d1 : (decide ((s.Harts.length : Int) ≥ 1) && decide ((s.Harts.length : Int) ≤ 3)) = true:=by simp; omega
 have d4 : (decide (s.Idle ≥ 0) && decide (s.Idle ≤ (s.Harts.length : Int))) = true:=by simp; omega
 refine ⟨?_,?_⟩
 ·unfold f4r f02 okB
  refine bind_to (congrArg some d1) (bind_to (y:=false) (sel_to rfl (bind_to b1 rfl)) ?_)
  cases hT : (decide (0 ≤ s.Turn) && decide (s.Turn < (s.Harts.length : Int)))
  ·have d3 : (decide (s.Turn ≥ 0) && decide (s.Turn ≤ w64 ((s.Harts.length : Int) - 1))) = false:=by
    rw [wk]; simp at hT ⊢; intro h; have:=hT h; omega
   exact bind_to (y:=true) (sel_to rfl (bind_to (congrArg some d3) rfl)) (bind_to (y:=true) (sel_tt' rfl rfl) (sel_tt' rfl rfl))
  ·have d3 : (decide (s.Turn ≥ 0) && decide (s.Turn ≤ w64 ((s.Harts.length : Int) - 1))) = true:=by
    rw [wk]; simp at hT ⊢; omega
   refine bind_to (y:=false) (sel_to rfl (bind_to (congrArg some d3) rfl)) (bind_to (y:=false) (sel_to rfl (bind_to (congrArg some d4) rfl)) (sel_to rfl (bind_to e1 ?_)))
   exact bind_to hso rfl
 ·unfold f51 f7o okB
  cases hT : (decide (0 ≤ s.Turn) && decide (s.Turn < (s.Harts.length : Int)))
  ·have d : (((((decide ((s.Harts.length : Int) ≥ 1) && decide ((s.Harts.length : Int) ≤ 3)) && decide (s.Turn ≥ 0)) && decide (s.Turn < (s.Harts.length : Int))) && decide (s.Idle ≥ 0)) && decide (s.Idle ≤ (s.Harts.length : Int))) = false:=by
    simp at hT ⊢; intro _ _ h; have:=hT h; omega
   exact bind_to (y:=false) (bind_to (y:=false) (sel_to d rfl) rfl) (bind_to (y:=false) (sel_to rfl rfl) (bind_to (y:=false) (sel_to rfl rfl) rfl))
  ·have d : (((((decide ((s.Harts.length : Int) ≥ 1) && decide ((s.Harts.length : Int) ≤ 3)) && decide (s.Turn ≥ 0)) && decide (s.Turn < (s.Harts.length : Int))) && decide (s.Idle ≥ 0)) && decide (s.Idle ≤ (s.Harts.length : Int))) = true:=by
    simp at hT ⊢; omega
   refine bind_to (y:=s.Out.all wdB) (bind_to (y:=s.Out.all wdB) (sel_tt' d (bind_to hio rfl)) rfl) ?_
   cases s.Out.all wdB
   ·exact bind_to (y:=false) (sel_to rfl rfl) (bind_to (y:=false) (sel_to rfl rfl) rfl)
   ·exact bind_to (y:=true) (sel_tt' rfl (bind_to b2 rfl)) (bind_to (y:=true) (sel_tt' rfl (bind_to ec rfl)) rfl)
theorem SQ.ds {c : Int} {cs : List (List Quad)} {s : Squad} (hC : CsOK c cs) (h : SQ c cs s) (ho : s.Out.length ≤ 1000000) : DS s ∧ okB s = true:=by
 refine ⟨⟨by rw [h.hl]; exact hC.l1,by rw [h.hl]; exact hC.l3,fun m hm=>?_,h.bl,h.bs,by rw [h.hl]; exact h.i,ho⟩,?_⟩
 ·obtain ⟨j,hj⟩:=List.getElem?_of_mem hm
  have hjl : j < cs.length:=by rw [← h.hl]; rcases Nat.lt_or_ge j s.Harts.length with h | h; exact h; rw [List.getElem?_eq_none h] at hj; cases hj
  obtain ⟨ws,_,hI,_⟩:=h.hs j _ m (List.getElem?_eq_getElem hjl) hj
  exact ⟨hI.ok,hI.z0⟩
 ·unfold okB
  rw [all_wd h.o,h.hl]
  have:=h.t
  simp; omega
theorem copy_same {s : Squad} (h : DS s) : f7t (Squad.mk s.Harts s.Boxes s.Turn s.Idle s.Out) = some (Squad.mk s.Harts s.Boxes s.Turn s.Idle s.Out):=by
 have h3:=h.l3
 have hb : f3x s.Boxes = some s.Boxes:=by
  unfold f3x
  have:=mapl_loop (f:=f2i s.Boxes) (l:=s.Boxes) (g:=fun b=>b) (fun i acc x hx ha=>by
   have hbl:=h.bl
   have hi : i < s.Boxes.length:=by rcases Nat.lt_or_ge i s.Boxes.length with h | h; exact h; rw [List.getElem?_eq_none h] at hx; cases hx
   obtain ⟨g1,g2,g3,g4⟩:=h.bs x (List.mem_of_getElem? hx)
   have ha1 : app 8 [] x.Items = some x.Items:=(app_ok (by simp; omega)).trans (by simp)
   unfold f2i
   exact sel_tt' (by simpa using hi) (bind_to (nth_get hx) (bind_to (nth_get hx) (bind_to ha1 (bind_to (app_ok (by simp; omega)) (by rw [w64_nat (by omega)])))))) (fun acc ha=>by
   unfold f2i
   exact sel_to (by simp) rfl)
  rw [List.map_id'] at this
  exact bind_to this rfl
 have hh:=iter_st (f:=f4z (Squad.mk s.Harts s.Boxes s.Turn s.Idle s.Out)) (fun i=>((i : Int),s.Harts.take i)) s.Harts.length (r:=s.Harts) (fun i hi=>by
  obtain ⟨m1,_⟩:=h.hm _ (List.getElem_mem hi)
  have h32:=m1.r32
  have h10:=m1.m10
  have hc : f85 (Machine.mk (s.Harts[i]).Regs (s.Harts[i]).Pc (s.Harts[i]).Mem) = some (Machine.mk (s.Harts[i]).Regs (s.Harts[i]).Pc (s.Harts[i]).Mem):=by
   unfold f85
   exact bind_to ((app_ok (by simp; omega)).trans (by simp)) (bind_to ((app_ok (by simp; omega)).trans (by simp)) rfl)
  unfold f4z
  refine sel_tt' (by simpa using hi) (bind_to (nth_at hi) (bind_to hc (bind_to (app_ok (by simp; omega)) ?_)))
  rw [w64_nat (by omega),List.take_add_one,List.getElem?_eq_getElem hi]
  rfl) (by
  unfold f4z
  refine sel_to (by simp) ?_
  simp)
 unfold f7t
 exact bind_to hb (bind_to ((app_ok (by have:=h.o; simp; omega)).trans (by simp)) (bind_to hh rfl))
theorem squad_run {c : Int} {cs : List (List Quad)} {s : Squad} (hC : CsOK c cs) (h : SQ c cs s) {n : Int} (h0 : 0 ≤ n) (hn : n ≤ 10000) (ho : s.Out.length ≤ 10000) : Tot (f79 (Squad.mk s.Harts s.Boxes s.Turn s.Idle s.Out) n) fun z=>z.2 = true ∧ SQ c cs z.1 ∧ (z.1.Out.length : Int) ≤ s.Out.length + n ∧ z.1.Boxes.map Box.Room = s.Boxes.map Box.Room:=by
 obtain ⟨hD,hB⟩:=h.ds hC (by omega)
 have hv:=(valid_both hD).1
 rw [hB] at hv
 have hc:=copy_same hD
 have hl:=h.hl
 have h1:=hC.l1
 have e : (sel (!true) (some true) ((f02 n 0 1000000).bind fun y2=>some (!y2)) : Option Bool) = some false:=by
  unfold f02
  refine sel_to rfl ?_
  show some (!(decide (n ≥ 0) && decide (n ≤ 1000000))) = some false
  rw [decide_eq_true (by omega),decide_eq_true (by omega)]; rfl
 unfold f79
 rw [hv,Option.bind_some,e,Option.bind_some,hc,Option.bind_some]
 refine .sel (fun hh=>by cases hh) fun _=>.bind (P:=fun r=>match r with
  | .inl _=>False
  | .inr o=>SQ c cs (Squad.mk o.1 o.2.1 o.2.2.1 o.2.2.2.1 o.2.2.2.2) ∧ (o.2.2.2.2.length : Int) ≤ s.Out.length + n ∧ o.2.1.map Box.Room = s.Boxes.map Box.Room)
  (.iter (fun z=>0 ≤ z.1 ∧ z.1 ≤ n ∧ SQ c cs (Squad.mk z.2.1 z.2.2.1 z.2.2.2.1 z.2.2.2.2.1 z.2.2.2.2.2) ∧ (z.2.2.2.2.2.length : Int) ≤ s.Out.length + z.1 ∧ z.2.2.1.map Box.Room = s.Boxes.map Box.Room) (fun z=>(n - z.1).toNat) ⟨by simp,by simpa using h0,h,by simp,rfl⟩ fun z hz=>?_) fun r hr=>?_
 ·obtain ⟨i,hs,bs,t,d,out⟩:=z
  obtain ⟨g0,g1,g2,g3,g4⟩:=hz
  simp only at g0 g1 g2 g3 g4
  unfold f9m
  refine .sel (fun hlt=>?_) fun hlt=>.inr ?_
  ·simp only [Bool.and_eq_true,decide_eq_true_eq] at hlt
   have hl' : hs.length = cs.length:=g2.hl
   obtain ⟨s',k1,k2,k3,o,k4,k5⟩:=squad_step hC g2 (by simp only; omega) (by simp only; omega)
   dsimp only at k1 ⊢
   rw [k1,Option.bind_some]
   refine .sel (fun hh=>by cases hh) fun _=>.inl ?_
   rw [w64_up g0 (by omega)]
   refine ⟨⟨by simp only; omega,by simp only; omega,k2,?_,k3.trans g4⟩,by simp only; omega⟩
   simp only
   rw [k4,List.length_append]
   simp only
   omega
  ·exact ⟨g2,(by omega : (out.length : Int) ≤ s.Out.length + n),g4⟩
 ·cases r with
  | inl x=>exact hr.elim
  | inr o=>exact .pure ⟨rfl,hr.1,hr.2.1,hr.2.2⟩
theorem codes_of {c : Int} : ∀ {l : List (List Instr)},(∀ x ∈ l,∃ code,COk code ∧ code.length ≤ 40 ∧ x = tk code c code.length) → ∃ cs : List (List Quad),l = cs.map (fun code=>tk code c code.length) ∧ ∀ code ∈ cs,COk code ∧ code.length ≤ 40
 | [],_=>⟨[],rfl,by simp⟩
 | x :: xs,h=>by
  obtain ⟨code,h1,h2,rfl⟩:=h x (by simp)
  obtain ⟨cs,e,k⟩:=codes_of (l:=xs) fun y hy=>h y (by simp [hy])
  exact ⟨code :: cs,by rw [e]; rfl,fun q hq=>by
   rcases List.mem_cons.1 hq with rfl | hq
   ·exact ⟨h1,h2⟩
   ·exact k q hq⟩
theorem mp_all {α β : Type} {g : α → Option β} : ∀ {l : List α},(∀ x ∈ l,∃ y,g x = some y) → ∃ ys,mp g l = some ys
 | [],_=>⟨[],rfl⟩
 | x :: xs,h=>by
  obtain ⟨y,hy⟩:=h x (by simp)
  obtain ⟨ys,hys⟩:=mp_all (l:=xs) fun z hz=>h z (by simp [hz])
  exact ⟨y :: ys,by simp only [mp,hy,hys]⟩
theorem hN_code {c : Int} {code : List Quad} (hc : COk code) (h8 : 1 ≤ c ∧ c ≤ 8) (h40 : code.length ≤ 40) : ∃ m,hN (tk code c code.length) = some m ∧ HA c code m:=by
 obtain ⟨ws,hw,_,hI,hA⟩:=hart_at hc h8 h40
 exact ⟨_,by unfold hN; rw [hw],ws,hw,hI,hA⟩
theorem new_squad {c : Int} (h8 : 1 ≤ c ∧ c ≤ 8) {l : List (List Instr)} (hl : LQ c l) {r1 r2 : Int} (h1 : 1 ≤ r1 ∧ r1 ≤ 4) (h2 : 1 ≤ r2 ∧ r2 ≤ 4) : ∃ cs ms,CsOK c cs ∧ l = cs.map (fun code=>tk code c code.length) ∧ SQ c cs (Squad.mk ms [Box.mk r1 [],Box.mk r2 []] 0 0 []) ∧ sqR [r1,r2] l = (Squad.mk ms [Box.mk r1 [],Box.mk r2 []] 0 0 [],true) ∧ mp hN l = some ms:=by
 obtain ⟨cs,rfl,hcs⟩:=codes_of hl.2.2
 have l1:=hl.1
 have l2:=hl.2.1
 rw [List.length_map] at l1 l2
 obtain ⟨ms,hms⟩:=mp_all (g:=hN) (l:=cs.map (fun code=>tk code c code.length)) fun x hx=>by
  obtain ⟨code,hc,rfl⟩:=List.mem_map.1 hx
  obtain ⟨m,hm,_⟩:=hN_code (hcs code hc).1 h8 (hcs code hc).2
  exact ⟨m,hm⟩
 obtain ⟨k1,k2⟩:=mp_get hms
 rw [List.length_map] at k1
 refine ⟨cs,ms,⟨h8,l1,l2,hcs⟩,rfl,⟨k1,fun j code m hj hm=>?_,rfl,fun b hb=>?_,⟨Int.le_refl _,by simp only; omega⟩,⟨Int.le_refl _,by simp only; omega⟩,by simp⟩,?_,hms⟩
 ·obtain ⟨m',e1,e2⟩:=k2 j (tk code c code.length) (by rw [List.getElem?_map,hj]; rfl)
  have hc:=hcs code (List.mem_of_getElem? hj)
  obtain ⟨m2,e3,e4⟩:=hN_code hc.1 h8 hc.2
  simp only at hm
  rw [hm] at e2
  obtain rfl:=Option.some.inj e2
  rw [e1] at e3
  obtain rfl:=Option.some.inj e3
  exact e4
 ·simp only [List.mem_cons,List.not_mem_nil,or_false] at hb
  rcases hb with rfl | rfl
  ·exact ⟨h1.1,h1.2,by simp; omega,by simp⟩
  ·exact ⟨h2.1,h2.2,by simp; omega,by simp⟩
 ·unfold sqR
  rw [if_pos ⟨roomsB_two h1 h2,by rw [List.length_map]; exact l1,by rw [List.length_map]; exact l2⟩,hms]
  rfl
def DrS (z s : Squad) : Prop:=z = s ∨ z = Squad.mk s.Harts s.Boxes 3 s.Idle s.Out ∨ (∃ x,s.Harts[0]? = some x ∧ z = Squad.mk (s.Harts.set 0 (Machine.mk x.Regs 2 x.Mem)) s.Boxes s.Turn s.Idle s.Out) ∨ z = Squad.mk s.Harts s.Boxes s.Turn s.Idle (s.Out ++ [-2147483649])
theorem squad_dr {b : List Int} {p m : Int} (hb : By b) {k : Nat} (hk : 20 ≤ k) (h0 : 0 ≤ p) (hm : p ≤ m) (hp : m ≤ 100000) : Tot (f6k k ⟨b,p⟩) fun z=>0 ≤ z.2 ∧ z.2 ≤ m + 150010 ∧ ∃ c cs s,CsOK c cs ∧ SQ c cs s ∧ s.Out.length ≤ 100 ∧ DrS z.1 s:=by
 unfold f6k
 refine .bind (lists_dq hb hk h0 hm hp) fun l hl=>.bind (pick_dr hb hl.1 hl.2.1 (by omega) (by omega) (by omega)) fun x hx=>.bind (pick_dr hb hx.1 hx.2.1 (by omega) (by omega) (by omega)) fun y hy=>?_
 obtain ⟨c,h8,hL⟩:=hl.2.2
 have hx2:=hx.2.2
 have hy2:=hy.2.2
 rw [w64_s (i:=1 + x.1) (by omega) (by omega),w64_s (i:=1 + y.1) (by omega) (by omega)]
 obtain ⟨cs,ms,hC,hcs,hS,hR,_⟩:=new_squad h8 hL (r1:=1 + x.1) (r2:=1 + y.1) (by omega) (by omega)
 have hlok:=hL.lok h8
 obtain ⟨_,e2⟩:=squad_ok (rooms:=[1 + x.1,1 + y.1]) (lists:=l.1) (by simp) (by have:=hL.2.1; omega) (fun z hz=>by have:=(hlok.2.2 z hz).1; omega)
 rw [hR] at e2
 rw [e2,Option.bind_some]
 refine .bind (pick_dr hb hy.1 hy.2.1 (by omega) (by omega) (by omega)) fun n hn=>.bind (squad_run hC hS hn.2.2.1 (by have:=hn.2.2.2; omega) (by simp)) fun z hz=>.bind (pick_dr hb hn.1 hn.2.1 (by omega) (by omega) (by omega)) fun t ht=>?_
 obtain ⟨hz1,hz2,hz3,hz4⟩:=hz
 have hn2:=hn.2.2
 have hol : z.1.Out.length ≤ 100:=by simp only [List.length_nil] at hz3; omega
 have hp' : 0 ≤ t.2 ∧ t.2 ≤ m + 150010:=⟨ht.1,by have:=ht.2.1; omega⟩
 have hl0 : 0 < z.1.Harts.length:=by rw [hz2.hl]; exact hC.l1
 refine .sel (fun _=>.pure ⟨hp'.1,hp'.2,c,cs,z.1,hC,hz2,hol,.inr (.inl rfl)⟩) fun _=>.sel (fun _=>.bind (.nth (by omega) (by omega)) fun w ⟨hw,_⟩=>.pure ⟨hp'.1,hp'.2,c,cs,z.1,hC,hz2,hol,.inr (.inr (.inl ⟨w,hw,rfl⟩))⟩) fun _ =>
  .sel (fun _=>.bind (.app (by simp; omega)) fun r hr=>.pure ⟨hp'.1,hp'.2,c,cs,z.1,hC,hz2,hol,.inr (.inr (.inr (by rw [hr])))⟩) fun _=>.pure ⟨hp'.1,hp'.2,c,cs,z.1,hC,hz2,hol,.inl rfl⟩
theorem DrS.ds {c : Int} {cs : List (List Quad)} {z s : Squad} (hC : CsOK c cs) (h : SQ c cs s) (ho : s.Out.length ≤ 100) (hz : DrS z s) : DS z:=by
 obtain ⟨hD,_⟩:=h.ds hC (by omega)
 rcases hz with rfl | rfl | ⟨x,hx,rfl⟩ | rfl
 ·exact hD
 ·exact ⟨hD.l1,hD.l3,hD.hm,hD.bl,hD.bs,hD.i,hD.o⟩
 ·refine ⟨by simpa using hD.l1,by simpa using hD.l3,fun m hm=>?_,hD.bl,hD.bs,by simpa using hD.i,hD.o⟩
  rcases List.mem_or_eq_of_mem_set hm with hm | rfl
  ·exact hD.hm m hm
  ·obtain ⟨k1,k2⟩:=hD.hm x (List.mem_of_getElem? hx)
   exact ⟨⟨k1.r32,k1.m10,k1.wr,k1.wm,by unfold Wd; simp only; omega⟩,k2⟩
 ·exact ⟨hD.l1,hD.l3,hD.hm,hD.bl,hD.bs,hD.i,by simp only [List.length_append,List.length_singleton]; omega⟩
end Go.Proofs.YtcljimkjmklkmaaGreat.N
namespace Go.Proofs.YtcljimkjmklkmaaGreat.N
open Go.Proofs.YtcljimkjmklkmaaGreat.X
theorem sameLists_refl {l : List (List Int)} (hl : l.length ≤ 1048576) (h : ∀ x ∈ l,x.length ≤ 1048576) : f5h l l = some true:=by
 unfold f5h
 refine sel_to (by simp) ?_
 have e:=all_loop (f:=f3u l l) (l:=l) (fun _=>true) (by omega) (fun i hi=>by
  unfold f3u
  exact sel_tt' (by simpa using hi) (bind_to (nth_at hi) (bind_to (nth_at hi) (bind_to (sameInts_refl (l:=l[i]) (h _ (List.getElem_mem hi))) (sel_to rfl rfl))))) (by
  unfold f3u
  exact sel_to (by simp) rfl)
 rw [show l.all (fun _=>true) = true by simp] at e
 exact bind_to e rfl
theorem sameFlags_refl {l : List Bool} (hl : l.length ≤ 1048576) : f5z l l = some true:=by
 unfold f5z
 refine sel_to (by simp) ?_
 have e:=all_loop (f:=f3w l l) (l:=l) (fun _=>true) (by omega) (fun i hi=>by
  unfold f3w
  exact sel_tt' (by simpa using hi) (bind_to (nth_at hi) (bind_to (nth_at hi) (sel_to (by simp) rfl)))) (by
  unfold f3w
  exact sel_to (by simp) rfl)
 rw [show l.all (fun _=>true) = true by simp] at e
 exact bind_to e rfl
theorem sameOutcome_refl {o : Outcome} (h1 : o.Out.length ≤ 1048576) (h2 : o.Items.length ≤ 1048576) (h3 : ∀ x ∈ o.Items,x.length ≤ 1048576) (h4 : o.Ended.length ≤ 1048576) : f2w o o = some true:=by
 unfold f2w
 exact bind_to (sameInts_refl h1) (bind_to (y:=true) (sel_tt' rfl (bind_to (sameLists_refl h2 h3) rfl)) (bind_to (y:=true) (sel_tt' rfl (bind_to (sameFlags_refl h4) rfl)) (by simp)))
def endB (m : Machine) : Bool:=(m.Pc == 0) && ((m.Regs[17]?).getD 0 == 5)
theorem end_ok {m : Machine} (h : m.Regs.length = 32) : (sel (m.Pc == 0) ((nth m.Regs 17).bind fun b_1=>some (b_1 == 5)) (some false) : Option Bool) = some (endB m):=by
 have hx:=nth_at (l:=m.Regs) (i:=17) (by omega)
 have hg : m.Regs[17]? = some (m.Regs[17]'(by omega)):=List.getElem?_eq_getElem _
 unfold endB
 rw [hg]
 cases m.Pc == 0
 ·exact sel_to rfl rfl
 ·exact sel_tt' rfl (bind_to hx rfl)
theorem outcome_both {s : Squad} (h : DS s) (hB : okB s = true) : f1y (Squad.mk s.Harts s.Boxes s.Turn s.Idle s.Out) = some (Outcome.mk s.Out (s.Boxes.map Box.Items) (s.Harts.map endB) (s.Idle == (s.Harts.length : Int))) ∧ f1v (Squad.mk s.Harts s.Boxes s.Turn s.Idle s.Out) = some (Outcome.mk s.Out (s.Boxes.map Box.Items) (s.Harts.map endB) (s.Idle == (s.Harts.length : Int))):=by
 obtain ⟨v1,v2⟩:=valid_both h
 rw [hB] at v1 v2
 have h3:=h.l3
 have hbl:=h.bl
 have ho : app 8 [] s.Out = some s.Out:=(app_ok (by have:=h.o; simp; omega)).trans (by simp)
 have hit : ∀ b ∈ s.Boxes,app 8 [] b.Items = some b.Items:=fun b hb=>by
  obtain ⟨g1,g2,g3,g4⟩:=h.bs b hb
  exact (app_ok (by simp; omega)).trans (by simp)
 have hcl : ∀ {l : List Int},app 8 [] l = some l → f1b l = some l:=fun h=>by unfold f1b; exact bind_to h rfl
 have L1:=iter_st (f:=f3t s.Boxes) (fun i=>((i : Int),(s.Boxes.take i).map Box.Items)) s.Boxes.length (r:=s.Boxes.map Box.Items) (fun i hi=>by
  unfold f3t
  refine sel_tt' (by simpa using hi) (bind_to (nth_at hi) (bind_to (hcl (hit _ (List.getElem_mem hi))) (bind_to (app_ok (by simp; omega)) ?_)))
  rw [w64_nat (by omega),List.take_add_one,List.getElem?_eq_getElem hi,List.map_append]
  rfl) (by
  unfold f3t
  refine sel_to (by simp) ?_
  simp)
 have L2:=mapl_loop (f:=f4j s.Boxes) (l:=s.Boxes) (g:=Box.Items) (fun i acc x hx ha=>by
  have hi : i < s.Boxes.length:=by rcases Nat.lt_or_ge i s.Boxes.length with h | h; exact h; rw [List.getElem?_eq_none h] at hx; cases hx
  unfold f4j
  exact sel_tt' (by simpa using hi) (bind_to (nth_get hx) (bind_to (hit x (List.mem_of_getElem? hx)) (bind_to (app_ok (by simp; omega)) (by rw [w64_nat (by omega)]))))) (fun acc ha=>by
  unfold f4j
  exact sel_to (by simp) rfl)
 have L3:=iter_st (f:=f2s (Squad.mk s.Harts s.Boxes s.Turn s.Idle s.Out)) (fun i=>((i : Int),(s.Harts.take i).map endB)) s.Harts.length (r:=s.Harts.map endB) (fun i hi=>by
  unfold f2s
  refine sel_tt' (by simpa using hi) (bind_to (nth_at hi) (bind_to (end_ok (h.hm _ (List.getElem_mem hi)).1.r32) (bind_to (app_ok (by simp; omega)) ?_)))
  rw [w64_nat (by omega),List.take_add_one,List.getElem?_eq_getElem hi,List.map_append]
  rfl) (by
  unfold f2s
  refine sel_to (by simp) ?_
  simp)
 have L4:=iter_st (f:=f2q (Squad.mk s.Harts s.Boxes s.Turn s.Idle s.Out)) (fun i=>((i : Int),(s.Harts.take i).map endB)) s.Harts.length (r:=s.Harts.map endB) (fun i hi=>by
  have e:=end_ok (h.hm _ (List.getElem_mem hi)).1.r32
  have e' : (sel ((s.Harts[i]).Pc == 0) ((nth s.Harts (i : Int)).bind fun b_1=>(nth b_1.Regs 17).bind fun b_2=>some (b_2 == 5)) (some false) : Option Bool) = some (endB s.Harts[i]):=by
   rw [nth_at hi]; exact e
  unfold f2q
  refine sel_tt' (by simpa using hi) (bind_to (nth_at hi) (bind_to e' (bind_to (app_ok (by simp; omega)) ?_)))
  rw [w64_nat (by omega),List.take_add_one,List.getElem?_eq_getElem hi,List.map_append]
  rfl) (by
  unfold f2q
  refine sel_to (by simp) ?_
  simp)
 refine ⟨?_,?_⟩
 ·unfold f1y f8l
  exact bind_to v2 (sel_to rfl (bind_to (y:=Outcome.mk s.Out (s.Boxes.map Box.Items) [] (s.Idle == (s.Harts.length : Int))) (bind_to (hcl ho) (bind_to L1 rfl)) (bind_to L3 rfl)))
 ·unfold f1v f95
  exact bind_to v1 (sel_to rfl (bind_to ho (bind_to (y:=s.Boxes.map Box.Items) (bind_to L2 rfl) (bind_to L4 rfl))))
theorem drawSqO_tot {k : Nat} (hk : 20 ≤ k) {code : List Int} (h : ∀ x ∈ code,0 ≤ x ∧ x ≤ 255) : Tot (f2g k code) DS:=by
 unfold f2g
 refine .bind (open_tot h) fun r ⟨hb,hp⟩=>.bind (squad_dr (m:=0) hb hk (by rw [hp]; omega) (by rw [hp]; omega) (by omega)) fun z hz=>.pure ?_
 obtain ⟨_,_,c,cs,s,hC,hS,ho,hD⟩:=hz
 exact hD.ds hC hS ho
theorem law_sqout {k : Nat} (hk : 20 ≤ k) {a0 : List Int} (h : ∀ x ∈ a0,0 ≤ x ∧ x ≤ 255) : f4q k a0 = some true:=by
 refine Tot.eq ?_
 unfold f4q
 refine .sel (fun _=>.pure rfl) fun hlen=>.bind (drawSqO_tot hk h) fun s hs=>?_
 cases hB : okB s
 ·obtain ⟨v1,v2⟩:=valid_both hs
  rw [hB] at v1 v2
  have e1 : f1y (Squad.mk s.Harts s.Boxes s.Turn s.Idle s.Out) = some (Outcome.mk [] [] [] false):=by
   unfold f1y; exact bind_to v2 (sel_tt' rfl rfl)
  have e2 : f1v (Squad.mk s.Harts s.Boxes s.Turn s.Idle s.Out) = some (Outcome.mk [] [] [] false):=by
   unfold f1v; exact bind_to v1 (sel_tt' rfl rfl)
  have hS:=sameOutcome_refl (o:=Outcome.mk [] [] [] false) (by simp) (by simp) (by simp) (by simp)
  exact .of (bind_to e1 (bind_to e2 (bind_to hS (sel_tt' rfl (bind_to hS rfl))))) rfl
 ·obtain ⟨e1,e2⟩:=outcome_both hs hB
  have h1:=hs.l1
  have h3:=hs.l3
  have hbl:=hs.bl
  have ho:=hs.o
  have hS:=sameOutcome_refl (o:=Outcome.mk s.Out (s.Boxes.map Box.Items) (s.Harts.map endB) (s.Idle == (s.Harts.length : Int))) (by simp only; omega) (by simp; omega) (fun x hx=>by
   obtain ⟨b,hb,rfl⟩:=List.mem_map.1 hx
   obtain ⟨g1,g2,g3,g4⟩:=hs.bs b hb
   omega) (by simp; omega)
  have hne : (!true || (((s.Harts.map endB).length : Int) == 0)) = false:=by
   rw [List.length_map]
   simp only [Bool.not_true,Bool.false_or,beq_eq_false_iff_ne,ne_eq]
   omega
  refine .of (bind_to e1 (bind_to e2 (bind_to hS (sel_to hne ?_)))) rfl
  have L:=all_loop (f:=f26 s (Outcome.mk s.Out (s.Boxes.map Box.Items) (s.Harts.map endB) (s.Idle == (s.Harts.length : Int)))) (l:=s.Harts) (fun _=>true) (by omega) (fun i hi=>by
   have hn : nth (s.Harts.map endB) (i : Int) = some (endB s.Harts[i]):=nth_get (by rw [List.getElem?_map,List.getElem?_eq_getElem hi]; rfl)
   unfold f26
   exact sel_tt' (by simpa using hi) (bind_to (nth_at hi) (bind_to hn (bind_to (end_ok (hs.hm _ (List.getElem_mem hi)).1.r32) (sel_to (by simp) rfl))))) (by
   unfold f26
   exact sel_to (by simp) rfl)
  rw [show s.Harts.all (fun _=>true) = true by simp] at L
  refine bind_to L ?_
  dsimp only [both,cond_true]
  exact bind_to (sameInts_refl (by omega)) (by simp)
end Go.Proofs.YtcljimkjmklkmaaGreat.N
namespace Go.Proofs.YtcljimkjmklkmaaGreat.N
open Go.Proofs.YtcljimkjmklkmaaGreat.X
theorem z.{u} {α : Sort u} {a : α} : a = a := rfl
theorem zz {A S T : Nat → Prop} (h : ∀ b, S b → A b ∧ T b) : ∀ b, S b → T b := fun b hb => (h b hb).2
end Go.Proofs.YtcljimkjmklkmaaGreat.N
namespace Go.Proofs.YtcljimkjmklkmaaGreat.X
theorem CW.g {P : Program} {n id : Nat} {ops : Array Oper} {d : Code} {E : Env} {W : World} {R : Exit → Env → World → Prop} (h : RG P n ops ops.toList E W (fun E' W' => CW P n d E' W' R)) : CW P n (.seq (.region id ops false) d) E W R := .seq (.region h)
theorem RG.qn {P : Program} {n : Nat} {ops : Array Oper} {o : Oper} {E : Env} {W : World} {v : Value} {K : Env → World → Prop} (h : pq n E o = some v) (k : K (put E o.dst v) W) : RG P n ops [o] E W K := .q h (.nil k)
end Go.Proofs.YtcljimkjmklkmaaGreat.X
namespace Go.Proofs.YtcljimkjmklkmaaGreat.N
open Go.Proofs.YtcljimkjmklkmaaGreat.X
theorem f00 {a0 : L6Rd} {a1 : Int} {v_0_b : Hd} {g_0 : Nat} {S : Nat → Prop} {w : World} {r : Int × Int} (h : f01 a0 a1 = some r) (q_0_b : RV w (Old S w) (sv v_0_b) 5 1 (D.int .u8) a0.b) (hO : Owns w [.box g_0 54 [(sv v_0_b),.int .i64 a0.p]] S) (hlt : ∀ b,S b → b < w.heap.size) : Calls Tryz.prog 19 #[.pointer (some ⟨g_0,0,none⟩),.int .i64 a1] w (Ret S w (fun s : Unit=>.int .i64 r.1) (fun s=>[.box g_0 54 [(sv v_0_b),.int .i64 r.2]])):=by
 unfold f01 at h
 refine enter Tryz.func19 z z ?_
 have hS:=Sep.startM hO hlt
 refine .g (.qn z (.g (.q z (.q z (.q z (.s (fa T.f54_1 z z z) z (.s (ld T.t3 hS z z z z z) z (.q z (.q z (.s (fa T.f54_1 z z z) z (.c (.st T.t3 hS z z z ?_ z z z z z))))))))))))
 intro W hS
 refine .nil (.seq (.g (.q z (.q z (.q z (.chunk 7 24 ((decide (a1 < 1)) || ((a0.b.length : Int) == 0)) hS ?_ ?_))))))
 ·refine .both (decide (a1 < 1)) (fun hb=>?_) (fun hb=>?_)
  ·exact .xx hb z (.xx hb z (.xx hb z (.xx hb z (.xx hb z (.xx hb z (.s (pkt hb z z z) z (.nil (ck 7 hS z (or_t hb) z z))))))))
  have hg1:=hb
  exact .g hg1 (.q z (.g hg1 (.q z (.g hg1 (.s (fa T.f54_0 z z z) z (.g hg1 (.s (ld T.t22 hS z z z z z) z (.g hg1 (.s (lenv (hS.keep q_0_b) T.u22 z z) z (.g hg1 (.q z (.s (pkf hg1 z z z) z (.nil (ck 7 hS z (or_f hg1) z z)))) z)) z)) z)) z)) z)) z
 intro W hS
 refine .nil ?_
 refine .cs z h ?_ ?_ <;> intro h
 ·cases h
  exact .g (.qn z (.ret (fin_ret (vs:=[_]) () (rt z rn) z (hS.to [0] z))))
 refine .skip (.g (.q z (.q z (.s (fa T.f54_1 z z z) z (.s (ld T.t3 hS z z z z z) z (.q z (.qn z (.seq (.g (.q z (.q z (.q z (.s (fa T.f54_0 z z z) z (.s (ld T.t22 hS z z z z z) z (.s (lenv (hS.keep q_0_b) T.u22 z z) z (.q z (.nil ?_)))))))))))))))))
 refine .cs z h ?_ ?_ <;> intro h
 ·refine .g (.q z (.q z (.s (fa T.f54_0 z z z) z (.s (ld T.t22 hS z z z z z) z (.q z ?_)))))
  have ⟨x1,hx1,h⟩:=bnd h
  refine .s (ixv (hS.keep q_0_b) hx1 T.u22 T.t5 z z z) z (.s (lde (RV.flat (hS.keep q_0_b) hx1 z) T.t5 z z z z z) z (.s (cv T.u5 T.u3 z z) z (.q z ?_)))
  have ⟨d1,hd1,h⟩:=bnd h
  cases h
  exact .s (dr hd1 z z z) z (.qn z (.ret (fin_ret (vs:=[_]) () (rt z rn) z (hS.to [0] z))))
 refine .skip (.seq (.rk 46 hS [0] T.mix ?_))
 intro W hS
 have hT:=hS.to [0] z
 refine .tp 0 z z hT (by kernel_rfl) (.tp 1 z z hT (by kernel_rfl) (.ts 2 z (fun W hT=>fa T.f54_0 z z z) hT z (by kernel_rfl) (.ts 3 z (fun W hT=>ld T.t22 hT z z z z z) hT z (by kernel_rfl) (.tp 4 z z hT (by kernel_rfl) (.tp 5 z z hT (by kernel_rfl) (.tp 6 z z hT (by kernel_rfl) (.ts 7 z (fun W hT=>fa T.f54_0 z z z) hT z (by kernel_rfl) (.ts 8 z (fun W hT=>ld T.t22 hT z z z z z) hT z (by kernel_rfl) (.ts 9 z (fun W hT=>lenv (hS.keep q_0_b) T.u22 z z) hT z (by kernel_rfl) ?_)))))))))
 have ⟨d2,hd2,h⟩:=bnd h
 refine .ts 10 z (fun W hT=>dr hd2 z z z) hT z (by kernel_rfl) ?_
 have ⟨x2,hx2,h⟩:=bnd h
 refine .ts 11 z (fun W hT=>ixv (hS.keep q_0_b) hx2 T.u22 T.t5 z z z) hT z (by kernel_rfl) (.ts 12 z (fun W hT=>lde (RV.flat (hT.keep q_0_b) hx2 z) T.t5 z z z z z) hT z (by kernel_rfl) (.ts 13 z (fun W hT=>cv T.u5 T.u3 z z) hT z (by kernel_rfl) (.tp 14 z z hT (by kernel_rfl) (.tp 15 z z hT (by kernel_rfl) (.tp 16 z z hT (by kernel_rfl) (.ts 17 z (fun W hT=>fa T.f54_0 z z z) hT z (by kernel_rfl) (.ts 18 z (fun W hT=>ld T.t22 hT z z z z z) hT z (by kernel_rfl) (.tp 19 z z hT (by kernel_rfl) (.tp 20 z z hT (by kernel_rfl) (.tp 21 z z hT (by kernel_rfl) (.tp 22 z z hT (by kernel_rfl) (.tp 23 z z hT (by kernel_rfl) (.ts 24 z (fun W hT=>fa T.f54_0 z z z) hT z (by kernel_rfl) (.ts 25 z (fun W hT=>ld T.t22 hT z z z z z) hT z (by kernel_rfl) (.ts 26 z (fun W hT=>lenv (hS.keep q_0_b) T.u22 z z) hT z (by kernel_rfl) ?_)))))))))))))))
 have ⟨d3,hd3,h⟩:=bnd h
 refine .ts 27 z (fun W hT=>dr hd3 z z z) hT z (by kernel_rfl) ?_
 have ⟨x3,hx3,h⟩:=bnd h
 refine .ts 28 z (fun W hT=>ixv (hS.keep q_0_b) hx3 T.u22 T.t5 z z z) hT z (by kernel_rfl) (.ts 29 z (fun W hT=>lde (RV.flat (hT.keep q_0_b) hx3 z) T.t5 z z z z z) hT z (by kernel_rfl) (.ts 30 z (fun W hT=>cv T.u5 T.u3 z z) hT z (by kernel_rfl) (.tp 31 z z hT (by kernel_rfl) (.tp 32 z z hT (by kernel_rfl) (.tp 33 z z hT (by kernel_rfl) (.tp 34 z z hT (by kernel_rfl) (.tp 35 z z hT (by kernel_rfl) (.tp 36 z z hT (by kernel_rfl) (.tp 37 z z hT (by kernel_rfl) (.tp 38 z z hT (by kernel_rfl) (.ts 39 z (fun W hT=>fa T.f54_0 z z z) hT z (by kernel_rfl) (.ts 40 z (fun W hT=>ld T.t22 hT z z z z z) hT z (by kernel_rfl) (.ts 41 z (fun W hT=>lenv (hS.keep q_0_b) T.u22 z z) hT z (by kernel_rfl) ?_)))))))))))))
 have ⟨d4,hd4,h⟩:=bnd h
 refine .ts 42 z (fun W hT=>dq hd4 z z z) hT z (by kernel_rfl) (.tp 43 z z hT (by kernel_rfl) (.tp 44 z z hT (by kernel_rfl) (.tp 45 z z hT (by kernel_rfl) (.done (.g (.q z (.q z (.q z (.q z (.qn z (.g (.q z (.q z ?_))))))))) (by kernel_rfl)))))
 have ⟨d5,hd5,h⟩:=bnd h
 cases h
 exact .s (dr hd5 z z z) z (.qn z (.ret (fin_ret (vs:=[_]) () (rt z rn) z (hS.to [0] z))))
theorem f1k {a0 : L6Rd} {v_0_b : Hd} {g_0 : Nat} {S : Nat → Prop} {w : World} {r : Int × Int} (h : f19 a0 = some r) (q_0_b : RV w (Old S w) (sv v_0_b) 5 1 (D.int .u8) a0.b) (hO : Owns w [.box g_0 54 [(sv v_0_b),.int .i64 a0.p]] S) (hlt : ∀ b,S b → b < w.heap.size) : Calls Tryz.prog 96 #[.pointer (some ⟨g_0,0,none⟩)] w (Ret S w (fun s : Unit=>.int .i64 r.1) (fun s=>[.box g_0 54 [(sv v_0_b),.int .i64 r.2]])):=by
 unfold f19 at h
 refine enter Tryz.func96 z z ?_
 have hS:=Sep.startM hO hlt
 refine .g (.qn z (.g (.q z ?_)))
 have ⟨y1,hy1,h⟩:=bnd h
 refine .c (.callS2 (L0:=[.box g_0 54 [(sv v_0_b),.int .i64 a0.p]]) hS Tryz.func19 (fun S h1 h2 h3=>(f00 hy1 (hS.keepS q_0_b h1) h2 (zz h1))) z z ?_ z z z z)
 rintro ⟨⟩ W hS
 cases h
 exact .qn z (.ret (fin_ret (vs:=[_]) () (rt z rn) z (hS.to [0] z)))
theorem f10 {a0 : Int} {w : World} {r : Int} (h : f0n a0 = some r) : Calls Tryz.prog 69 #[.int .i64 a0] w (Ret No w (fun s : Unit=>.int .i64 r) (fun s=>[])):=by
 unfold f0n at h
 refine enter Tryz.func69 z z ?_
 have hS:=Sep.start w
 refine .g (.qn z (.g (.q z (.q z (.qn z (.seq (.g (.q z (.q z (.nil ?_))))))))))
 refine .cs z h ?_ ?_ <;> intro h
 ·cases h
  exact .g (.q z (.q z (.qn z (.ret (fin_ret (vs:=[_]) () (rt z rn) z (hS.to [] z))))))
 refine .skip (.seq (.g (.q z (.q z (.nil ?_)))))
 refine .cs z h ?_ ?_ <;> intro h
 ·cases h
  exact .g (.q z (.q z (.qn z (.ret (fin_ret (vs:=[_]) () (rt z rn) z (hS.to [] z))))))
 cases h
 exact .skip (.g (.q z (.qn z (.ret (fin_ret (vs:=[_]) () (rt z rn) z (hS.to [] z))))))
theorem feo {a0 : L6Rd} {v_0_b : Hd} {g_0 : Nat} {S : Nat → Prop} {w : World} {r : Int × Int} (h : f7u a0 = some r) (q_0_b : RV w (Old S w) (sv v_0_b) 5 1 (D.int .u8) a0.b) (hO : Owns w [.box g_0 54 [(sv v_0_b),.int .i64 a0.p]] S) (hlt : ∀ b,S b → b < w.heap.size) : Calls Tryz.prog 97 #[.pointer (some ⟨g_0,0,none⟩)] w (Ret S w (fun s : Unit=>.int .i64 r.1) (fun s=>[.box g_0 54 [(sv v_0_b),.int .i64 r.2]])):=by
 unfold f7u at h
 refine enter Tryz.func97 z z ?_
 have hS:=Sep.startM hO hlt
 refine .g (.qn z (.seq (.g (.q z ?_))))
 have ⟨y1,hy1,h⟩:=bnd h
 refine .c (.callS2 (L0:=[.box g_0 54 [(sv v_0_b),.int .i64 a0.p]]) hS Tryz.func19 (fun S h1 h2 h3=>(f00 hy1 (hS.keepS q_0_b h1) h2 (zz h1))) z z ?_ z z z z)
 rintro ⟨⟩ W hS
 refine .nil (.block (.g (.q z (.qn z (.cond z (fun hb=>?_) (fun hb=>?_))))))
 ·have h:=sel_t hb h
  refine .g (.c (.liv [(-2147483648),2147483647,(-1),0,1,(-2147483647),65536,(-65536)] (D.int .i64) T.u25 T.t3 hS z z z z ?_ z (fun _=>z) z z z z))
  intro v1 W hS
  refine .q z ?_
  have ⟨y2,hy2,h⟩:=bnd h
  have hS:=hS.p1
  refine .c (.callS2 (L0:=[.box g_0 54 [(sv v_0_b),.int .i64 y1.2]]) hS Tryz.func19 (fun S h1 h2 h3=>(f00 hy2 (hS.keepS q_0_b h1) h2 (zz h1))) z z ?_ z z z z)
  rintro ⟨⟩ W hS
  have ⟨x1,hx1,h⟩:=bnd h
  cases h
  exact .s (ixv hS.p1.lendv hx1 T.u25 T.t3 z z z) z (.s (lde (RV.flat hS.p1.lendv hx1 z) T.t3 z z z z z) z (.qn z (.ret (fin_ret (vs:=[_]) () (rt z rn) z (hS.to [0] z)))))
 have h:=sel_f hb h
 refine .g (.q z (.qn z (.cond z (fun hb=>?_) (fun hb=>?_))))
 ·have h:=sel_t hb h
  refine .g (.q z ?_)
  have ⟨y3,hy3,h⟩:=bnd h
  refine .c (.callS2 (L0:=[.box g_0 54 [(sv v_0_b),.int .i64 y1.2]]) hS Tryz.func19 (fun S h1 h2 h3=>(f00 hy3 (hS.keepS q_0_b h1) h2 (zz h1))) z z ?_ z z z z)
  rintro ⟨⟩ W hS
  refine .q z (.q z ?_)
  have ⟨y4,hy4,h⟩:=bnd h
  refine .c (.callS2 (L0:=[.box g_0 54 [(sv v_0_b),.int .i64 y3.2]]) hS Tryz.func19 (fun S h1 h2 h3=>(f00 hy4 (hS.keepS q_0_b h1) h2 (zz h1))) z z ?_ z z z z)
  rintro ⟨⟩ W hS
  refine .q z (.q z (.q z ?_))
  have ⟨y5,hy5,h⟩:=bnd h
  refine .c (.callS2 (L0:=[.box g_0 54 [(sv v_0_b),.int .i64 y4.2]]) hS Tryz.func19 (fun S h1 h2 h3=>(f00 hy5 (hS.keepS q_0_b h1) h2 (zz h1))) z z ?_ z z z z)
  rintro ⟨⟩ W hS
  refine .q z (.q z ?_)
  have ⟨y6,hy6,h⟩:=bnd h
  refine .c (.callS2 (L0:=[.box g_0 54 [(sv v_0_b),.int .i64 y5.2]]) hS Tryz.func19 (fun S h1 h2 h3=>(f00 hy6 (hS.keepS q_0_b h1) h2 (zz h1))) z z ?_ z z z z)
  rintro ⟨⟩ W hS
  refine .q z (.q z ?_)
  have ⟨y7,hy7,h⟩:=bnd h
  refine .c (.call0 hS Tryz.func69 (f10 hy7) z z ?_ z z z z)
  intro W hS
  cases h
  exact .qn z (.ret (fin_ret (vs:=[_]) () (rt z rn) z (hS.to [0] z)))
 have h:=sel_f hb h
 refine .g (.q z (.qn z (.cond z (fun hb=>?_) (fun hb=>?_))))
 ·have h:=sel_t hb h
  refine .g (.q z ?_)
  have ⟨y8,hy8,h⟩:=bnd h
  refine .c (.callS2 (L0:=[.box g_0 54 [(sv v_0_b),.int .i64 y1.2]]) hS Tryz.func19 (fun S h1 h2 h3=>(f00 hy8 (hS.keepS q_0_b h1) h2 (zz h1))) z z ?_ z z z z)
  rintro ⟨⟩ W hS
  cases h
  exact .q z (.qn z (.ret (fin_ret (vs:=[_]) () (rt z rn) z (hS.to [0] z))))
 have h:=sel_f hb h
 refine .skip (.g (.q z ?_))
 have ⟨y9,hy9,h⟩:=bnd h
 refine .c (.callS2 (L0:=[.box g_0 54 [(sv v_0_b),.int .i64 y1.2]]) hS Tryz.func19 (fun S h1 h2 h3=>(f00 hy9 (hS.keepS q_0_b h1) h2 (zz h1))) z z ?_ z z z z)
 rintro ⟨⟩ W hS
 cases h
 exact .qn z (.ret (fin_ret (vs:=[_]) () (rt z rn) z (hS.to [0] z)))
theorem fbz {a0 : L6Rd} {v_0_b : Hd} {g_0 : Nat} {S : Nat → Prop} {w : World} {r : Int × Int} (h : f8i a0 = some r) (q_0_b : RV w (Old S w) (sv v_0_b) 5 1 (D.int .u8) a0.b) (hO : Owns w [.box g_0 54 [(sv v_0_b),.int .i64 a0.p]] S) (hlt : ∀ b,S b → b < w.heap.size) : Calls Tryz.prog 98 #[.pointer (some ⟨g_0,0,none⟩)] w (Ret S w (fun s : Unit=>.int .i64 r.1) (fun s=>[.box g_0 54 [(sv v_0_b),.int .i64 r.2]])):=by
 unfold f8i at h
 refine enter Tryz.func98 z z ?_
 have hS:=Sep.startM hO hlt
 refine .g (.qn z (.g (.q z ?_)))
 have ⟨y1,hy1,h⟩:=bnd h
 refine .c (.callS2 (L0:=[.box g_0 54 [(sv v_0_b),.int .i64 a0.p]]) hS Tryz.func19 (fun S h1 h2 h3=>(f00 hy1 (hS.keepS q_0_b h1) h2 (zz h1))) z z ?_ z z z z)
 rintro ⟨⟩ W hS
 cases h
 exact .q z (.qn z (.ret (fin_ret (vs:=[_]) () (rt z rn) z (hS.to [0] z))))
theorem fe5 {a0 : L6Rd} {a1 : Int} {v_0_b : Hd} {g_0 : Nat} {S : Nat → Prop} {w : World} {r : Quad × Int} (h : f7w a0 a1 = some r) (q_0_b : RV w (Old S w) (sv v_0_b) 5 1 (D.int .u8) a0.b) (hO : Owns w [.box g_0 54 [(sv v_0_b),.int .i64 a0.p]] S) (hlt : ∀ b,S b → b < w.heap.size) : Calls Tryz.prog 75 #[.pointer (some ⟨g_0,0,none⟩),.int .i64 a1] w (Ret S w (fun s : Unit=>.agg #[.int .i64 r.1.Op,.int .i64 r.1.Dst,.int .i64 r.1.A,.int .i64 r.1.B,.int .i64 r.1.N]) (fun s=>[.box g_0 54 [(sv v_0_b),.int .i64 r.2]])):=by
 unfold f7w at h
 refine enter Tryz.func75 z z ?_
 have hS:=Sep.startM hO hlt
 refine .g (.c (.alloc T.t82 hS ?_ z z z))
 intro g1 W hS
 refine .nil (.seq (.g (.q z ?_)))
 have ⟨y1,hy1,h⟩:=bnd h
 have hS:=hS.p1
 refine .c (.callS2 (L0:=[.box g_0 54 [(sv v_0_b),.int .i64 a0.p]]) hS Tryz.func19 (fun S h1 h2 h3=>(f00 hy1 (hS.keepS q_0_b h1) h2 (zz h1))) z z ?_ z z z z)
 rintro ⟨⟩ W hS
 refine .nil (.block ?_)
 have ⟨y2,hy2,h⟩:=bnd h
 refine .seq (CW.via (R':=fun x E' W'=>x = .normal ∧ SubL E' [(0,.pointer (some ⟨g_0,0,none⟩)),(1,.int .i64 a1),(4,.pointer (some ⟨g1,0,none⟩)),(13,.int .i64 y1.1),(14,.bool y2)] ∧ Sep S w W' [.box g_0 54 [(sv v_0_b),.int .i64 y1.2],.box g1 82 [.int .i64 0,.int .i64 0,.int .i64 0,.int .i64 0,.int .i64 0]]) ?_ ?_)
 ·have h:=hy2
  refine .g (.q z (.q z (.nil ?_)))
  refine .cs z h ?_ ?_ <;> intro h
  ·refine .skip ?_
   cases h
   exact ⟨z,sb z,hS.to [0,0] z⟩
  refine .region (.q z (.q z (.nil ?_)))
  cases h
  exact ⟨z,sb z,hS.to [0,0] z⟩
 intro x E W hJ
 obtain ⟨rfl,hE,hS⟩:=hJ
 refine ⟨_,hE.sub,?_⟩
 refine .cond z (fun hb=>?_) (fun hb=>?_)
 ·have h:=sel_t hb h
  refine .g (.q z ?_)
  have ⟨y3,hy3,h⟩:=bnd h
  refine .c (.callS2 (L0:=[.box g_0 54 [(sv v_0_b),.int .i64 y1.2]]) hS Tryz.func96 (fun S h1 h2 h3=>(f1k hy3 (hS.keepS q_0_b h1) h2 (zz h1))) z z ?_ z z z z)
  rintro ⟨⟩ W hS
  refine .q z ?_
  have ⟨y4,hy4,h⟩:=bnd h
  refine .c (.callS2 (L0:=[.box g_0 54 [(sv v_0_b),.int .i64 y3.2]]) hS Tryz.func97 (fun S h1 h2 h3=>(feo hy4 (hS.keepS q_0_b h1) h2 (zz h1))) z z ?_ z z z z)
  rintro ⟨⟩ W hS
  refine .c (.liv [0,1,2,y4.1] (D.int .i64) T.u25 T.t3 hS z z z z ?_ z (fun _=>z) z z z z)
  intro v1 W hS
  refine .q z ?_
  have ⟨y5,hy5,h⟩:=bnd h
  have hS:=hS.p1
  refine .c (.callS2 (L0:=[.box g_0 54 [(sv v_0_b),.int .i64 y4.2]]) hS Tryz.func19 (fun S h1 h2 h3=>(f00 hy5 (hS.keepS q_0_b h1) h2 (zz h1))) z z ?_ z z z z)
  rintro ⟨⟩ W hS
  have ⟨x1,hx1,h⟩:=bnd h
  refine .s (ixv hS.p1.lendv hx1 T.u25 T.t3 z z z) z (.s (lde (RV.flat hS.p1.lendv hx1 z) T.t3 z z z z z) z (.s (bs T.s82 z z) z (.c (.st T.t82 hS.p2 z z z ?_ z z z z z))))
  intro W hS
  cases h
  exact .nil (.ret (fin_ret (vs:=[_]) () (rc hS T.t82 z rn z z) z (hS.to [1] z)))
 have h:=sel_f hb h
 have ⟨y6,hy6,h⟩:=bnd h
 refine .seq (CW.via (R':=fun x E' W'=>x = .normal ∧ SubL E' [(0,.pointer (some ⟨g_0,0,none⟩)),(1,.int .i64 a1),(4,.pointer (some ⟨g1,0,none⟩)),(13,.int .i64 y1.1),(27,.bool y6)] ∧ Sep S w W' [.box g_0 54 [(sv v_0_b),.int .i64 y1.2],.box g1 82 [.int .i64 0,.int .i64 0,.int .i64 0,.int .i64 0,.int .i64 0]]) ?_ ?_)
 ·have h:=hy6
  refine .g (.q z (.q z (.nil ?_)))
  refine .cs z h ?_ ?_ <;> intro h
  ·refine .skip ?_
   cases h
   exact ⟨z,sb z,hS.to [0,0] z⟩
  refine .region (.q z (.q z (.nil ?_)))
  cases h
  exact ⟨z,sb z,hS.to [0,0] z⟩
 intro x E W hJ
 obtain ⟨rfl,hE,hS⟩:=hJ
 refine ⟨_,hE.sub,?_⟩
 refine .cond z (fun hb=>?_) (fun hb=>?_)
 ·have h:=sel_t hb h
  refine .g (.q z ?_)
  have ⟨y7,hy7,h⟩:=bnd h
  refine .c (.callS2 (L0:=[.box g_0 54 [(sv v_0_b),.int .i64 y1.2]]) hS Tryz.func96 (fun S h1 h2 h3=>(f1k hy7 (hS.keepS q_0_b h1) h2 (zz h1))) z z ?_ z z z z)
  rintro ⟨⟩ W hS
  refine .qn z (.g (.q z (.q z ?_)))
  have ⟨y8,hy8,h⟩:=bnd h
  refine .c (.callS2 (L0:=[.box g_0 54 [(sv v_0_b),.int .i64 y7.2]]) hS Tryz.func96 (fun S h1 h2 h3=>(f1k hy8 (hS.keepS q_0_b h1) h2 (zz h1))) z z ?_ z z z z)
  rintro ⟨⟩ W hS
  refine .s (bs T.s82 z z) z (.c (.st T.t82 hS.p1 z z z ?_ z z z z z))
  intro W hS
  cases h
  exact .nil (.ret (fin_ret (vs:=[_]) () (rc hS T.t82 z rn z z) z (hS.to [1] z)))
 have h:=sel_f hb h
 have ⟨y9,hy9,h⟩:=bnd h
 refine .seq (CW.via (R':=fun x E' W'=>x = .normal ∧ SubL E' [(0,.pointer (some ⟨g_0,0,none⟩)),(1,.int .i64 a1),(4,.pointer (some ⟨g1,0,none⟩)),(13,.int .i64 y1.1),(36,.bool y9)] ∧ Sep S w W' [.box g_0 54 [(sv v_0_b),.int .i64 y1.2],.box g1 82 [.int .i64 0,.int .i64 0,.int .i64 0,.int .i64 0,.int .i64 0]]) ?_ ?_)
 ·have h:=hy9
  refine .g (.q z (.q z (.nil ?_)))
  refine .cs z h ?_ ?_ <;> intro h
  ·refine .skip ?_
   cases h
   exact ⟨z,sb z,hS.to [0,0] z⟩
  refine .g (.q z (.q z (.nil ?_)))
  refine .cs z h ?_ ?_ <;> intro h
  ·refine .skip ?_
   cases h
   exact ⟨z,sb z,hS.to [0,0] z⟩
  refine .region (.q z (.q z (.nil ?_)))
  cases h
  exact ⟨z,sb z,hS.to [0,0] z⟩
 intro x E W hJ
 obtain ⟨rfl,hE,hS⟩:=hJ
 refine ⟨_,hE.sub,?_⟩
 refine .cond z (fun hb=>?_) (fun hb=>?_)
 ·have h:=sel_t hb h
  refine .g (.q z ?_)
  have ⟨y10,hy10,h⟩:=bnd h
  refine .c (.callS2 (L0:=[.box g_0 54 [(sv v_0_b),.int .i64 y1.2]]) hS Tryz.func96 (fun S h1 h2 h3=>(f1k hy10 (hS.keepS q_0_b h1) h2 (zz h1))) z z ?_ z z z z)
  rintro ⟨⟩ W hS
  refine .qn z (.g (.q z ?_))
  have ⟨y11,hy11,h⟩:=bnd h
  refine .c (.callS2 (L0:=[.box g_0 54 [(sv v_0_b),.int .i64 y10.2]]) hS Tryz.func96 (fun S h1 h2 h3=>(f1k hy11 (hS.keepS q_0_b h1) h2 (zz h1))) z z ?_ z z z z)
  rintro ⟨⟩ W hS
  refine .qn z (.g (.q z ?_))
  have ⟨y12,hy12,h⟩:=bnd h
  refine .c (.callS2 (L0:=[.box g_0 54 [(sv v_0_b),.int .i64 y11.2]]) hS Tryz.func96 (fun S h1 h2 h3=>(f1k hy12 (hS.keepS q_0_b h1) h2 (zz h1))) z z ?_ z z z z)
  rintro ⟨⟩ W hS
  refine .qn z (.g (.q z (.q z (.q z (.q z ?_)))))
  have ⟨y13,hy13,h⟩:=bnd h
  refine .c (.callS2 (L0:=[.box g_0 54 [(sv v_0_b),.int .i64 y12.2]]) hS Tryz.func98 (fun S h1 h2 h3=>(fbz hy13 (hS.keepS q_0_b h1) h2 (zz h1))) z z ?_ z z z z)
  rintro ⟨⟩ W hS
  refine .s (bs T.s82 z z) z (.c (.st T.t82 hS.p1 z z z ?_ z z z z z))
  intro W hS
  cases h
  exact .nil (.ret (fin_ret (vs:=[_]) () (rc hS T.t82 z rn z z) z (hS.to [1] z)))
 have h:=sel_f hb h
 refine .g (.q z (.qn z (.cond z (fun hb=>?_) (fun hb=>?_))))
 ·have h:=sel_t hb h
  refine .g (.q z (.q z ?_))
  have ⟨y14,hy14,h⟩:=bnd h
  refine .c (.callS2 (L0:=[.box g_0 54 [(sv v_0_b),.int .i64 y1.2]]) hS Tryz.func19 (fun S h1 h2 h3=>(f00 hy14 (hS.keepS q_0_b h1) h2 (zz h1))) z z ?_ z z z z)
  rintro ⟨⟩ W hS
  refine .s (bs T.s82 z z) z (.c (.st T.t82 hS.p1 z z z ?_ z z z z z))
  intro W hS
  cases h
  exact .nil (.ret (fin_ret (vs:=[_]) () (rc hS T.t82 z rn z z) z (hS.to [1] z)))
 have h:=sel_f hb h
 refine .g (.q z (.qn z (.cond z (fun hb=>?_) (fun hb=>?_))))
 ·have h:=sel_t hb h
  refine .g (.q z ?_)
  have ⟨y15,hy15,h⟩:=bnd h
  refine .c (.callS2 (L0:=[.box g_0 54 [(sv v_0_b),.int .i64 y1.2]]) hS Tryz.func96 (fun S h1 h2 h3=>(f1k hy15 (hS.keepS q_0_b h1) h2 (zz h1))) z z ?_ z z z z)
  rintro ⟨⟩ W hS
  refine .qn z (.g (.q z (.q z (.q z ?_))))
  have ⟨y16,hy16,h⟩:=bnd h
  refine .c (.callS2 (L0:=[.box g_0 54 [(sv v_0_b),.int .i64 y15.2]]) hS Tryz.func19 (fun S h1 h2 h3=>(f00 hy16 (hS.keepS q_0_b h1) h2 (zz h1))) z z ?_ z z z z)
  rintro ⟨⟩ W hS
  refine .s (bs T.s82 z z) z (.c (.st T.t82 hS.p1 z z z ?_ z z z z z))
  intro W hS
  cases h
  exact .nil (.ret (fin_ret (vs:=[_]) () (rc hS T.t82 z rn z z) z (hS.to [1] z)))
 have h:=sel_f hb h
 refine .g (.q z (.qn z (.cond z (fun hb=>?_) (fun hb=>?_))))
 ·have h:=sel_t hb h
  refine .g (.q z ?_)
  have ⟨y17,hy17,h⟩:=bnd h
  refine .c (.callS2 (L0:=[.box g_0 54 [(sv v_0_b),.int .i64 y1.2]]) hS Tryz.func96 (fun S h1 h2 h3=>(f1k hy17 (hS.keepS q_0_b h1) h2 (zz h1))) z z ?_ z z z z)
  rintro ⟨⟩ W hS
  refine .qn z (.g (.q z (.q z ?_)))
  have ⟨y18,hy18,h⟩:=bnd h
  refine .c (.callS2 (L0:=[.box g_0 54 [(sv v_0_b),.int .i64 y17.2]]) hS Tryz.func19 (fun S h1 h2 h3=>(f00 hy18 (hS.keepS q_0_b h1) h2 (zz h1))) z z ?_ z z z z)
  rintro ⟨⟩ W hS
  refine .s (bs T.s82 z z) z (.c (.st T.t82 hS.p1 z z z ?_ z z z z z))
  intro W hS
  cases h
  exact .nil (.ret (fin_ret (vs:=[_]) () (rc hS T.t82 z rn z z) z (hS.to [1] z)))
 have h:=sel_f hb h
 refine .g (.q z (.qn z (.cond z (fun hb=>?_) (fun hb=>?_))))
 ·have h:=sel_t hb h
  refine .g (.q z ?_)
  have ⟨y19,hy19,h⟩:=bnd h
  refine .c (.callS2 (L0:=[.box g_0 54 [(sv v_0_b),.int .i64 y1.2]]) hS Tryz.func96 (fun S h1 h2 h3=>(f1k hy19 (hS.keepS q_0_b h1) h2 (zz h1))) z z ?_ z z z z)
  rintro ⟨⟩ W hS
  refine .qn z (.g (.q z (.q z ?_)))
  have ⟨y20,hy20,h⟩:=bnd h
  refine .c (.callS2 (L0:=[.box g_0 54 [(sv v_0_b),.int .i64 y19.2]]) hS Tryz.func19 (fun S h1 h2 h3=>(f00 hy20 (hS.keepS q_0_b h1) h2 (zz h1))) z z ?_ z z z z)
  rintro ⟨⟩ W hS
  refine .s (bs T.s82 z z) z (.c (.st T.t82 hS.p1 z z z ?_ z z z z z))
  intro W hS
  cases h
  exact .nil (.ret (fin_ret (vs:=[_]) () (rc hS T.t82 z rn z z) z (hS.to [1] z)))
 have h:=sel_f hb h
 refine .skip (.seq (.g (.q z ?_)))
 have ⟨y21,hy21,h⟩:=bnd h
 refine .c (.callS2 (L0:=[.box g_0 54 [(sv v_0_b),.int .i64 y1.2]]) hS Tryz.func19 (fun S h1 h2 h3=>(f00 hy21 (hS.keepS q_0_b h1) h2 (zz h1))) z z ?_ z z z z)
 rintro ⟨⟩ W hS
 refine .qn z (.cond z (fun hb=>?_) (fun hb=>?_))
 ·have h:=sel_t hb h
  refine .g (.s (bs T.s82 z z) z (.c (.st T.t82 hS.p1 z z z ?_ z z z z z)))
  intro W hS
  cases h
  exact .nil (.ret (fin_ret (vs:=[_]) () (rc hS T.t82 z rn z z) z (hS.to [1] z)))
 have h:=sel_f hb h
 refine .skip (.g (.q z ?_))
 have ⟨y22,hy22,h⟩:=bnd h
 refine .c (.callS2 (L0:=[.box g_0 54 [(sv v_0_b),.int .i64 y21.2]]) hS Tryz.func96 (fun S h1 h2 h3=>(f1k hy22 (hS.keepS q_0_b h1) h2 (zz h1))) z z ?_ z z z z)
 rintro ⟨⟩ W hS
 refine .s (bs T.s82 z z) z (.c (.st T.t82 hS.p1 z z z ?_ z z z z z))
 intro W hS
 cases h
 exact .nil (.ret (fin_ret (vs:=[_]) () (rc hS T.t82 z rn z z) z (hS.to [1] z)))
theorem fap {a0 : L6Rd} {v_0_b : Hd} {g_0 : Nat} {S : Nat → Prop} {w : World} {r : (List Quad) × Int} (h : f4a a0 = some r) (q_0_b : RV w (Old S w) (sv v_0_b) 5 1 (D.int .u8) a0.b) (hO : Owns w [.box g_0 54 [(sv v_0_b),.int .i64 a0.p]] S) (hlt : ∀ b,S b → b < w.heap.size) : Calls Tryz.prog 54 #[.pointer (some ⟨g_0,0,none⟩)] w (Ret S w (fun s : Hd=>(sv s)) (fun s=>[.box g_0 54 [(sv v_0_b),.int .i64 r.2],rowV (sv s) 82 5 dQuad r.1])):=by
 unfold f4a at h
 refine enter Tryz.func54 z z ?_
 have hS:=Sep.startM hO hlt
 refine .g (.qn z (.g (.q z ?_)))
 have ⟨y1,hy1,h⟩:=bnd h
 refine .c (.callS2 (L0:=[.box g_0 54 [(sv v_0_b),.int .i64 a0.p]]) hS Tryz.func19 (fun S h1 h2 h3=>(f00 hy1 (hS.keepS q_0_b h1) h2 (zz h1))) z z ?_ z z z z)
 rintro ⟨⟩ W hS
 refine .q z (.qn z (.g (.c (.liv [] dQuad T.u68 T.t82 hS z z z z ?_ z (fun _=>z) z z z z))))
 intro v1 W hS
 refine .qn z (.seq (.g (.qn z (.block ?_))))
 have ⟨y2,hy2,h⟩:=bnd h
 refine .via (.iter (fun s1 E' W'=>∃ (v4 : Hd),SubL E' [(0,.pointer (some ⟨g_0,0,none⟩)),(3,.int .i64 (w64 (1 + y1.1))),(4,(sv v4)),(5,.int .i64 s1.2.1)] ∧ Sep S w W' [.box g_0 54 [(sv v_0_b),.int .i64 s1.2.2],rowV (sv v4) 82 5 dQuad s1.1]) (fun y3 x E' W'=>x = .exit 0 ∧ ∃ (v5 : Hd),SubL E' [(0,.pointer (some ⟨g_0,0,none⟩)),(3,.int .i64 (w64 (1 + y1.1))),(4,(sv v5))] ∧ Sep S w W' [.box g_0 54 [(sv v_0_b),.int .i64 y3.2],rowV (sv v5) 82 5 dQuad y3.1]) hy2 ⟨v1,sb z,hS.to [1,0] z⟩ ?_) ?_
 ·intro s1 y4 E W h hI
  obtain ⟨v3,hE,hS⟩:=hI
  refine CW.sub hE ?_
  unfold f8u at h
  refine .seq (.g (.q z (.q z (.q z (.qn z (.cond z (fun hb=>?_) (fun hb=>?_)))))))
  ·have h:=sel_t hb h
   refine .skip (.seq (.block (.region (.q z (.q z (.q z ?_))))))
   have ⟨y5,hy5,h⟩:=bnd h
   refine .c (.callS2 (L0:=[.box g_0 54 [(sv v_0_b),.int .i64 s1.2.2]]) hS Tryz.func75 (fun S h1 h2 h3=>(fe5 hy5 (hS.keepS q_0_b h1) h2 (zz h1))) z z ?_ z z z z)
   rintro ⟨⟩ W hS
   refine .c (.liv [y5.1] dQuad T.u68 T.t82 hS z z z z ?_ z (fun _=>z) z z z z)
   intro v6 W hS
   have ⟨r1,hr1,h⟩:=bnd h
   have hT0:=hS.p2
   refine .c (.apprv hr1 hT0 hT0.p1.lendv (fun _=>z) T.u68 T.t82 z z z ?_ z z z z z)
   intro v7 W hS
   refine .qn z (.region (.q z (.q z (.q z (.nil ?_)))))
   cases h
   exact ⟨z,v7,sb z,hS.to [2,0] z⟩
  have h:=sel_f hb h
  refine .exit ?_
  cases h
  exact ⟨by simp,z,v3,sb z,hS.to [0,0] z⟩
 intro x E W hJ
 obtain ⟨rfl,v8,hE,hS⟩:=hJ
 refine ⟨_,hE.sub,?_⟩
 refine .seq (.g (.q z ?_))
 have ⟨y6,hy6,h⟩:=bnd h
 refine .c (.callS2 (L0:=[.box g_0 54 [(sv v_0_b),.int .i64 y2.2]]) hS Tryz.func19 (fun S h1 h2 h3=>(f00 hy6 (hS.keepS q_0_b h1) h2 (zz h1))) z z ?_ z z z z)
 rintro ⟨⟩ W hS
 refine .qn z (.cond z (fun hb=>?_) (fun hb=>?_))
 ·have h:=sel_t hb h
  refine .g (.q z (.q z (.q z ?_)))
  have ⟨y7,hy7,h⟩:=bnd h
  refine .c (.callS2 (L0:=[.box g_0 54 [(sv v_0_b),.int .i64 y6.2]]) hS Tryz.func19 (fun S h1 h2 h3=>(f00 hy7 (hS.keepS q_0_b h1) h2 (zz h1))) z z ?_ z z z z)
  rintro ⟨⟩ W hS
  refine .s (bs T.s82 z z) z (.c (.liv [(Quad.mk 4 0 0 0 y7.1)] dQuad T.u68 T.t82 hS z z z z ?_ z (fun _=>z) z z z z))
  intro v9 W hS
  have ⟨r2,hr2,h⟩:=bnd h
  have hT0:=hS.p2
  refine .c (.apprv hr2 hT0 hT0.p1.lendv (fun _=>z) T.u68 T.t82 z z z ?_ z z z z z)
  intro v10 W hS
  cases h
  exact .qn z (.ret (fin_ret (vs:=[_]) v10 (rt z rn) z (hS.to [2,0] z)))
 have h:=sel_f hb h
 refine .skip (.g (.q z (.s (bs T.s82 z z) z (.c (.liv [(Quad.mk 10 0 0 0 0)] dQuad T.u68 T.t82 hS z z z z ?_ z (fun _=>z) z z z z)))))
 intro v11 W hS
 have ⟨r3,hr3,h⟩:=bnd h
 have hT0:=hS.p2
 refine .c (.apprv hr3 hT0 hT0.p1.lendv (fun _=>z) T.u68 T.t82 z z z ?_ z z z z z)
 intro v12 W hS
 cases h
 exact .qn z (.ret (fin_ret (vs:=[_]) v12 (rt z rn) z (hS.to [2,0] z)))
def f7l (F : List Stmt → Option (Int)) : Prop:=∀ {a0 : List Stmt} {v_0 : Hd} {w : World} {r : Int} (h : F a0 = some r) (q_0 : RV w (Old No w) (sv v_0) 140 8 dStmt a0) , Calls Tryz.prog 79 #[(sv v_0)] w (Ret No w (fun s : Unit=>.int .i64 r) (fun s=>[]))
theorem feh {k : Nat} {f2p : List Stmt → Option (Int)} (fb0 : f7l f2p) : f7l (f2o k f2p):=by
 intro a0 v_0 w r h q_0
 unfold f2o at h
 refine enter Tryz.func79 z z ?_
 have hS:=Sep.start w
 refine .g (.qn z (.g (.qn z (.seq (.g (.qn z (.block ?_)))))))
 have ⟨y1,hy1,h⟩:=bnd h
 refine .via (.iter (fun s1 E' W'=>SubL E' [(0,(sv v_0)),(3,.int .i64 s1.1),(4,.int .i64 s1.2)] ∧ Sep No w W' []) (fun y2 x E' W'=>x = .exit 0 ∧ SubL E' [(3,.int .i64 y2)] ∧ Sep No w W' []) hy1 ⟨sb z,hS.to [] z⟩ ?_) ?_
 ·intro s1 y3 E W h hI
  obtain ⟨hE,hS⟩:=hI
  refine CW.sub hE ?_
  unfold f6c at h
  refine .seq (.g (.q z (.q z (.s (lenv (hS.keep q_0) T.u97 z z) z (.q z (.nil ?_))))))
  refine .cs z h ?_ ?_ <;> intro h
  ·refine .skip (.seq (.block (.rk 17 hS [] T.mix ?_)))
   intro W hS
   have hT:=hS.to [] z
   refine .tp 0 z z hT (by kernel_rfl) (.tp 1 z z hT (by kernel_rfl) (.tp 2 z z hT (by kernel_rfl) (.tp 3 z z hT (by kernel_rfl) ?_)))
   have ⟨x1,hx1,h⟩:=bnd h
   obtain ⟨k1,hd,hck1⟩:=RV.el2 q_0 hx1
   have hd1:=raggE (eStmt _) hd
   obtain ⟨k1,rfl,hd2⟩:=rflat q_0 z hd1
   obtain ⟨k1,rfl,hd3⟩:=rflat q_0 z hd2
   obtain ⟨k1,rfl,hd4⟩:=rflat q_0 z hd3
   have hd5:=raggE (eExpr _) hd4
   obtain ⟨k1,rfl,hd6⟩:=rflat q_0 z hd5
   obtain ⟨k1,rfl,hd7⟩:=rflat q_0 z hd6
   obtain ⟨v1,k1,rfl,q1,hd8⟩:=rrowv q_0 hd7
   obtain ⟨v2,k1,rfl,q2,hd9⟩:=rrowv q_0 hd8
   obtain ⟨v3,k1,rfl,q3,hd10⟩:=rrowv q_0 hd9
   obtain rfl:=rnil q_0 hd10
   refine .ts 4 z (fun W hT=>ixv (hS.keep q_0) hx1 T.u97 T.t140 z z z) hT z (by kernel_rfl) (.ts 5 z (fun W hT=>fe T.f140_4 z z z) hT z (by kernel_rfl) (.ts 6 z (fun W hT=>lde (hck1 _ hT.agree) T.t97 z z z z z) hT z (by kernel_rfl) (.tp 9 z z hT (by kernel_rfl) (.tp 10 z z hT (by kernel_rfl) ?_))))
   have ⟨x2,hx2,h⟩:=bnd h
   obtain ⟨k2,hd,hck2⟩:=RV.el2 q_0 hx2
   have hd1:=raggE (eStmt _) hd
   obtain ⟨k2,rfl,hd2⟩:=rflat q_0 z hd1
   obtain ⟨k2,rfl,hd3⟩:=rflat q_0 z hd2
   obtain ⟨k2,rfl,hd4⟩:=rflat q_0 z hd3
   have hd5:=raggE (eExpr _) hd4
   obtain ⟨k2,rfl,hd6⟩:=rflat q_0 z hd5
   obtain ⟨k2,rfl,hd7⟩:=rflat q_0 z hd6
   obtain ⟨v4,k2,rfl,q4,hd8⟩:=rrowv q_0 hd7
   obtain ⟨v5,k2,rfl,q5,hd9⟩:=rrowv q_0 hd8
   obtain ⟨v6,k2,rfl,q6,hd10⟩:=rrowv q_0 hd9
   obtain rfl:=rnil q_0 hd10
   refine .ts 11 z (fun W hT=>ixv (hS.keep q_0) hx2 T.u97 T.t140 z z z) hT z (by kernel_rfl) (.ts 12 z (fun W hT=>fe T.f140_5 z z z) hT z (by kernel_rfl) (.ts 13 z (fun W hT=>lde (hck2 _ hT.agree) T.t97 z z z z z) hT z (by kernel_rfl) ?_))
   have ⟨y4,hy4,h⟩:=bnd h
   refine .by1 7 z (.call0 hS Tryz.func79 (fb0 hy4 (hS.keep (q2 _ q_0))) z z ?_ z z z z) (by kernel_rfl)
   intro W hS
   have hT:=hS.to [] z
   refine ⟨fun _=>hT,.tp 8 z z hT (by kernel_rfl) ?_⟩
   have ⟨y5,hy5,h⟩:=bnd h
   refine .by1 14 z (.call0 hS Tryz.func79 (fb0 hy5 (hS.keep (q6 _ q_0))) z z ?_ z z z z) (by kernel_rfl)
   intro W hS
   have hT:=hS.to [] z
   refine ⟨fun _=>hT,.tp 15 z z hT (by kernel_rfl) (.tp 16 z z hT (by kernel_rfl) (.done (.region (.q z (.q z (.q z (.nil ?_))))) (by kernel_rfl)))⟩
   cases h
   exact ⟨z,sb z,hS.to [] z⟩
  refine .exit ?_
  cases h
  exact ⟨by simp,z,sb z,hS.to [] z⟩
 intro x E W hJ
 obtain ⟨rfl,hE,hS⟩:=hJ
 refine ⟨_,hE.sub,?_⟩
 obtain rfl:=Option.some.inj h
 exact .g (.q z (.qn z (.ret (fin_ret (vs:=[_]) () (rt z rn) z (hS.to [] z)))))
theorem fbm (k : Nat) : f7l (f2c k):=by
  induction k with
  | zero=>exact by intro a0 v_0 w r h q_0; exact no h
  | succ k ih=>exact feh (k:=k) ih
theorem fax {k : Nat} : f7l (f2c k):=(fbm k)
theorem f04 {a0 : Int} {a1 : Int} {a2 : Int} {w : World} {r : Bool} (h : f02 a0 a1 a2 = some r) : Calls Tryz.prog 27 #[.int .i64 a0,.int .i64 a1,.int .i64 a2] w (Ret No w (fun s : Unit=>.bool r) (fun s=>[])):=by
 unfold f02 at h
 refine enter Tryz.func27 z z ?_
 have hS:=Sep.start w
 refine .g (.qn z (.g (.q z (.q z (.q z (.q z (.chunk 4 14 ((decide (a0 ≥ a1)) && (decide (a0 ≤ a2))) hS ?_ ?_)))))))
 ·refine .both (decide (a0 ≥ a1)) (fun hb=>?_) (fun hb=>?_)
  ·have hg1:=hb
   exact .g hg1 (.q z (.g hg1 (.q z (.g hg1 (.q z (.s (pkt hg1 z z z) z (.nil (ck 4 hS z (and_t hg1) z z)))) z)) z)) z
  exact .xx hb z (.xx hb z (.xx hb z (.s (pkf hb z z z) z (.nil (ck 4 hS z (and_f hb) z z)))))
 intro W hS
 cases h
 exact .qn z (.ret (fin_ret (vs:=[_]) () (rt z rn) z (hS.to [] z)))
theorem f4d {a0 : Stmt} {a1 : Bool} {v_0_Expr_Args : Hd} {v_0_Body : Hd} {v_0_Else : Hd} {w : World} {r : Bool} (h : f36 a0 a1 = some r) (q_0_Expr_Args : RV w (Old No w) (sv v_0_Expr_Args) 138 3 dExpr a0.Expr.Args) (q_0_Body : RV w (Old No w) (sv v_0_Body) 140 8 dStmt a0.Body) (q_0_Else : RV w (Old No w) (sv v_0_Else) 140 8 dStmt a0.Else) : Calls Tryz.prog 146 #[.agg #[.int .i64 a0.Kind,.int .i64 a0.Var,.int .i64 a0.Box,.int .i64 a0.Expr.Op,.int .i64 a0.Expr.N,(sv v_0_Expr_Args),(sv v_0_Body),(sv v_0_Else)],.bool a1] w (Ret No w (fun s : Unit=>.bool r) (fun s=>[])):=by
 unfold f36 at h
 refine enter Tryz.func146 z z ?_
 have hS:=Sep.start w
 refine .g (.c (.box hS z z ?_ z z))
 intro g1 W hS
 refine .qn z (.seq (.g (.q z (.nil ?_))))
 refine .cs z h ?_ ?_ <;> intro h
 ·refine .g (.s (fa T.f140_1 z z z) z (.s (ld T.t3 hS z z z z z) z ?_))
  have ⟨y1,hy1,h⟩:=bnd h
  refine .c (.call0 hS Tryz.func27 (f04 hy1) z z ?_ z z z z)
  intro W hS
  obtain rfl:=Option.some.inj h
  exact .qn z (.ret (fin_ret (vs:=[_]) () (rt z rn) z (hS.to [] z)))
 cases h
 exact .skip (.g (.s (fa T.f140_1 z z z) z (.s (ld T.t3 hS z z z z z) z (.q z (.qn z (.ret (fin_ret (vs:=[_]) () (rt z rn) z (hS.to [] z))))))))
theorem f45 {a0 : Stmt} {a1 : Bool} {v_0_Expr_Args : Hd} {v_0_Body : Hd} {v_0_Else : Hd} {w : World} {r : Bool} (h : f34 a0 a1 = some r) (q_0_Expr_Args : RV w (Old No w) (sv v_0_Expr_Args) 138 3 dExpr a0.Expr.Args) (q_0_Body : RV w (Old No w) (sv v_0_Body) 140 8 dStmt a0.Body) (q_0_Else : RV w (Old No w) (sv v_0_Else) 140 8 dStmt a0.Else) : Calls Tryz.prog 147 #[.agg #[.int .i64 a0.Kind,.int .i64 a0.Var,.int .i64 a0.Box,.int .i64 a0.Expr.Op,.int .i64 a0.Expr.N,(sv v_0_Expr_Args),(sv v_0_Body),(sv v_0_Else)],.bool a1] w (Ret No w (fun s : Unit=>.bool r) (fun s=>[])):=by
 unfold f34 at h
 refine enter Tryz.func147 z z ?_
 have hS:=Sep.start w
 refine .g (.c (.box hS z z ?_ z z))
 intro g1 W hS
 refine .qn z (.seq (.g (.q z (.nil ?_))))
 refine .cs z h ?_ ?_ <;> intro h
 ·refine .g (.s (fa T.f140_2 z z z) z (.s (ld T.t3 hS z z z z z) z ?_))
  have ⟨y1,hy1,h⟩:=bnd h
  refine .c (.call0 hS Tryz.func27 (f04 hy1) z z ?_ z z z z)
  intro W hS
  obtain rfl:=Option.some.inj h
  exact .qn z (.ret (fin_ret (vs:=[_]) () (rt z rn) z (hS.to [] z)))
 cases h
 exact .skip (.g (.s (fa T.f140_2 z z z) z (.s (ld T.t3 hS z z z z z) z (.q z (.qn z (.ret (fin_ret (vs:=[_]) () (rt z rn) z (hS.to [] z))))))))
theorem fa2 {a0 : Int} {w : World} {r : Bool} (h : f3a a0 = some r) : Calls Tryz.prog 130 #[.int .i64 a0] w (Ret No w (fun s : Unit=>.bool r) (fun s=>[])):=by
 unfold f3a at h
 refine enter Tryz.func130 z z ?_
 have hS:=Sep.start w
 refine .g (.qn z (.g (.q z ?_)))
 have ⟨y1,hy1,h⟩:=bnd h
 refine .c (.call0 hS Tryz.func27 (f04 hy1) z z ?_ z z z z)
 intro W hS
 obtain rfl:=Option.some.inj h
 exact .qn z (.ret (fin_ret (vs:=[_]) () (rt z rn) z (hS.to [] z)))
def faj (F : Expr → Int → Option (Bool)) : Prop:=∀ {a0 : Expr} {a1 : Int} {v_0_Args : Hd} {w : World} {r : Bool} (h : F a0 a1 = some r) (q_0_Args : RV w (Old No w) (sv v_0_Args) 138 3 dExpr a0.Args) , Calls Tryz.prog 162 #[.agg #[.int .i64 a0.Op,.int .i64 a0.N,(sv v_0_Args)],.int .i64 a1] w (Ret No w (fun s : Unit=>.bool r) (fun s=>[]))
theorem ffk {k : Nat} {f91 : Expr → Int → Option (Bool)} (fcc : faj f91) : faj (f8y k f91):=by
 intro a0 a1 v_0_Args w r h q_0_Args
 unfold f8y at h
 refine enter Tryz.func162 z z ?_
 have hS:=Sep.start w
 refine .g (.c (.box hS z z ?_ z z))
 intro g1 W hS
 refine .qn z (.seq (.g (.q z (.q z (.nil ?_)))))
 refine .cs z h ?_ ?_ <;> intro h
 ·obtain rfl:=Option.some.inj h
  exact .g (.qn z (.ret (fin_ret (vs:=[_]) () (rt z rn) z (hS.to [] z))))
 refine .skip (.seq (.g (.s (fa T.f138_0 z z z) z (.s (ld T.t3 hS z z z z z) z (.q z (.nil ?_))))))
 refine .cs z h ?_ ?_ <;> intro h
 ·refine .g (.s (fa T.f138_1 z z z) z (.s (ld T.t3 hS z z z z z) z ?_))
  have ⟨y1,hy1,h⟩:=bnd h
  refine .c (.call0 hS Tryz.func27 (f04 hy1) z z ?_ z z z z)
  intro W hS
  refine .q z (.chunk 5 18 (y1 && ((a0.Args.length : Int) == 0)) hS ?_ ?_)
  ·refine .both (y1) (fun hb=>?_) (fun hb=>?_)
   ·have hg1:=hb
    exact .g hg1 (.s (fa T.f138_2 z z z) z (.g hg1 (.s (ld T.t136 hS z z z z z) z (.g hg1 (.s (lenv (hS.keep q_0_Args) T.u136 z z) z (.g hg1 (.q z (.s (pkt hg1 z z z) z (.nil (ck 5 hS z (and_t hg1) z z)))) z)) z)) z)) z
   exact .xx hb z (.xx hb z (.xx hb z (.xx hb z (.s (pkf hb z z z) z (.nil (ck 5 hS z (and_f hb) z z))))))
  intro W hS
  cases h
  exact .qn z (.ret (fin_ret (vs:=[_]) () (rt z rn) z (hS.to [] z)))
 refine .skip (.seq (.g (.s (fa T.f138_0 z z z) z (.s (ld T.t3 hS z z z z z) z (.q z (.nil ?_))))))
 refine .cs z h ?_ ?_ <;> intro h
 ·refine .g (.s (fa T.f138_1 z z z) z (.s (ld T.t3 hS z z z z z) z ?_))
  have ⟨y2,hy2,h⟩:=bnd h
  refine .c (.call0 hS Tryz.func27 (f04 hy2) z z ?_ z z z z)
  intro W hS
  refine .q z (.chunk 5 30 (y2 && ((a0.Args.length : Int) == 0)) hS ?_ ?_)
  ·refine .both (y2) (fun hb=>?_) (fun hb=>?_)
   ·have hg2:=hb
    exact .g hg2 (.s (fa T.f138_2 z z z) z (.g hg2 (.s (ld T.t136 hS z z z z z) z (.g hg2 (.s (lenv (hS.keep q_0_Args) T.u136 z z) z (.g hg2 (.q z (.s (pkt hg2 z z z) z (.nil (ck 5 hS z (and_t hg2) z z)))) z)) z)) z)) z
   exact .xx hb z (.xx hb z (.xx hb z (.xx hb z (.s (pkf hb z z z) z (.nil (ck 5 hS z (and_f hb) z z))))))
  intro W hS
  cases h
  exact .qn z (.ret (fin_ret (vs:=[_]) () (rt z rn) z (hS.to [] z)))
 refine .skip (.g (.s (fa T.f138_0 z z z) z (.s (ld T.t3 hS z z z z z) z ?_)))
 have ⟨y3,hy3,h⟩:=bnd h
 refine .c (.call0 hS Tryz.func130 (fa2 hy3) z z ?_ z z z z)
 intro W hS
 refine .q z (.chunk 4 38 (y3 && (a0.N == 0)) hS ?_ ?_)
 ·refine .both (y3) (fun hb=>?_) (fun hb=>?_)
  ·have hg3:=hb
   exact .g hg3 (.s (fa T.f138_1 z z z) z (.g hg3 (.s (ld T.t3 hS z z z z z) z (.g hg3 (.q z (.s (pkt hg3 z z z) z (.nil (ck 4 hS z (and_t hg3) z z)))) z)) z)) z
  exact .xx hb z (.xx hb z (.xx hb z (.s (pkf hb z z z) z (.nil (ck 4 hS z (and_f hb) z z)))))
 intro W hS
 refine .q z (.chunk 5 44 ((y3 && (a0.N == 0)) && ((a0.Args.length : Int) == 2)) hS ?_ ?_)
 ·refine .both (y3 && (a0.N == 0)) (fun hb=>?_) (fun hb=>?_)
  ·have hg4:=hb
   exact .g hg4 (.s (fa T.f138_2 z z z) z (.g hg4 (.s (ld T.t136 hS z z z z z) z (.g hg4 (.s (lenv (hS.keep q_0_Args) T.u136 z z) z (.g hg4 (.q z (.s (pkt hg4 z z z) z (.nil (ck 5 hS z (and_t hg4) z z)))) z)) z)) z)) z
  exact .xx hb z (.xx hb z (.xx hb z (.xx hb z (.s (pkf hb z z z) z (.nil (ck 5 hS z (and_f hb) z z))))))
 intro W hS
 refine .q z ?_
 have ⟨b1,hb1,h⟩:=bnd h
 refine .chunk 8 53 (b1) hS ?_ ?_
 ·refine .both ((y3 && (a0.N == 0)) && ((a0.Args.length : Int) == 2)) (fun hb=>?_) (fun hb=>?_)
  ·have hg5:=hb
   have h:=sel_t hb hb1
   refine .g hg5 (.s (fa T.f138_2 z z z) z (.g hg5 (.s (ld T.t136 hS z z z z z) z ?_) z)) z
   have ⟨x1,hx1,h⟩:=bnd h
   obtain ⟨k1,hd,hck1⟩:=RV.el2 q_0_Args hx1
   have hd1:=raggE (eExpr _) hd
   obtain ⟨k1,rfl,hd2⟩:=rflat q_0_Args z hd1
   obtain ⟨k1,rfl,hd3⟩:=rflat q_0_Args z hd2
   obtain ⟨v1,k1,rfl,q1,hd4⟩:=rrowv q_0_Args hd3
   obtain rfl:=rnil q_0_Args hd4
   refine .g hg5 (.s (ixv (hS.keep q_0_Args) hx1 T.u136 T.t138 z z z) z (.g hg5 (.s (lde (hck1 _ hS.agree) T.t138 z z z z z) z (.g hg5 (.q z (.g hg5 (.q z ?_) z)) z)) z)) z
   have ⟨y4,hy4,h⟩:=bnd h
   refine .g hg5 (.c (.call0 hS Tryz.func162 (fcc hy4 (hS.keep (q1 _ q_0_Args))) z z ?_ z z z z)) z
   intro W hS
   refine .s (pkt hg5 z z z) z ?_
   cases h
   exact .nil (ck 8 hS z z z z)
  refine .xx hb z (.xx hb z (.xx hb z (.xx hb z (.xx hb z (.xx hb z (.xx hb z ?_))))))
  cases sel_f hb hb1
  exact .s (pkf hb z z z) z (.nil (ck 8 hS z z z z))
 intro W hS
 refine .q z ?_
 have ⟨b2,hb2,h⟩:=bnd h
 refine .chunk 8 62 (b2) hS ?_ ?_
 ·refine .both (b1) (fun hb=>?_) (fun hb=>?_)
  ·have hg6:=hb
   have h:=sel_t hb hb2
   refine .g hg6 (.s (fa T.f138_2 z z z) z (.g hg6 (.s (ld T.t136 hS z z z z z) z ?_) z)) z
   have ⟨x2,hx2,h⟩:=bnd h
   obtain ⟨k2,hd,hck2⟩:=RV.el2 q_0_Args hx2
   have hd1:=raggE (eExpr _) hd
   obtain ⟨k2,rfl,hd2⟩:=rflat q_0_Args z hd1
   obtain ⟨k2,rfl,hd3⟩:=rflat q_0_Args z hd2
   obtain ⟨v2,k2,rfl,q2,hd4⟩:=rrowv q_0_Args hd3
   obtain rfl:=rnil q_0_Args hd4
   refine .g hg6 (.s (ixv (hS.keep q_0_Args) hx2 T.u136 T.t138 z z z) z (.g hg6 (.s (lde (hck2 _ hS.agree) T.t138 z z z z z) z (.g hg6 (.q z (.g hg6 (.q z ?_) z)) z)) z)) z
   have ⟨y5,hy5,h⟩:=bnd h
   refine .g hg6 (.c (.call0 hS Tryz.func162 (fcc hy5 (hS.keep (q2 _ q_0_Args))) z z ?_ z z z z)) z
   intro W hS
   refine .s (pkt hg6 z z z) z ?_
   cases h
   exact .nil (ck 8 hS z z z z)
  refine .xx hb z (.xx hb z (.xx hb z (.xx hb z (.xx hb z (.xx hb z (.xx hb z ?_))))))
  cases sel_f hb hb2
  exact .s (pkf hb z z z) z (.nil (ck 8 hS z z z z))
 intro W hS
 obtain rfl:=Option.some.inj h
 exact .qn z (.ret (fin_ret (vs:=[_]) () (rt z rn) z (hS.to [] z)))
theorem fd5 (k : Nat) : faj (fal k):=by
  induction k with
  | zero=>exact by intro a0 a1 v_0_Args w r h q_0_Args; exact no h
  | succ k ih=>exact ffk (k:=k) ih
theorem ffh {k : Nat} : faj (fal k):=(fd5 k)
theorem f5g {k : Nat} {a0 : Expr} {v_0_Args : Hd} {w : World} {r : Bool} (h : f1s k a0 = some r) (q_0_Args : RV w (Old No w) (sv v_0_Args) 138 3 dExpr a0.Args) : Calls Tryz.prog 148 #[.agg #[.int .i64 a0.Op,.int .i64 a0.N,(sv v_0_Args)]] w (Ret No w (fun s : Unit=>.bool r) (fun s=>[])):=by
 unfold f1s at h
 refine enter Tryz.func148 z z ?_
 have hS:=Sep.start w
 refine .g (.c (.box hS z z ?_ z z))
 intro g1 W hS
 refine .qn z (.g (.s (ld T.t138 hS z z z z z) z ?_))
 have ⟨y1,hy1,h⟩:=bnd h
 refine .c (.call0 hS Tryz.func162 (ffh hy1 (hS.keep q_0_Args)) z z ?_ z z z z)
 intro W hS
 obtain rfl:=Option.some.inj h
 exact .qn z (.ret (fin_ret (vs:=[_]) () (rt z rn) z (hS.to [] z)))
theorem fau {a0 : Expr} {v_0_Args : Hd} {w : World} {r : Bool} (h : f4v a0 = some r) (q_0_Args : RV w (Old No w) (sv v_0_Args) 138 3 dExpr a0.Args) : Calls Tryz.prog 161 #[.agg #[.int .i64 a0.Op,.int .i64 a0.N,(sv v_0_Args)]] w (Ret No w (fun s : Unit=>.bool r) (fun s=>[])):=by
 unfold f4v at h
 refine enter Tryz.func161 z z ?_
 have hS:=Sep.start w
 refine .g (.c (.box hS z z ?_ z z))
 intro g1 W hS
 refine .qn z (.g (.s (fa T.f138_0 z z z) z (.s (ld T.t3 hS z z z z z) z (.q z (.q z (.chunk 4 10 ((a0.Op == 0) && (a0.N == 0)) hS ?_ ?_))))))
 ·refine .both (a0.Op == 0) (fun hb=>?_) (fun hb=>?_)
  ·have hg1:=hb
   exact .g hg1 (.s (fa T.f138_1 z z z) z (.g hg1 (.s (ld T.t3 hS z z z z z) z (.g hg1 (.q z (.s (pkt hg1 z z z) z (.nil (ck 4 hS z (and_t hg1) z z)))) z)) z)) z
  exact .xx hb z (.xx hb z (.xx hb z (.s (pkf hb z z z) z (.nil (ck 4 hS z (and_f hb) z z)))))
 intro W hS
 refine .q z (.chunk 5 16 (((a0.Op == 0) && (a0.N == 0)) && ((a0.Args.length : Int) == 0)) hS ?_ ?_)
 ·refine .both ((a0.Op == 0) && (a0.N == 0)) (fun hb=>?_) (fun hb=>?_)
  ·have hg2:=hb
   exact .g hg2 (.s (fa T.f138_2 z z z) z (.g hg2 (.s (ld T.t136 hS z z z z z) z (.g hg2 (.s (lenv (hS.keep q_0_Args) T.u136 z z) z (.g hg2 (.q z (.s (pkt hg2 z z z) z (.nil (ck 5 hS z (and_t hg2) z z)))) z)) z)) z)) z
  exact .xx hb z (.xx hb z (.xx hb z (.xx hb z (.s (pkf hb z z z) z (.nil (ck 5 hS z (and_f hb) z z))))))
 intro W hS
 cases h
 exact .qn z (.ret (fin_ret (vs:=[_]) () (rt z rn) z (hS.to [] z)))
theorem fci {k : Nat} {a0 : Stmt} {v_0_Expr_Args : Hd} {v_0_Body : Hd} {v_0_Else : Hd} {w : World} {r : Bool} (h : f4b k a0 = some r) (q_0_Expr_Args : RV w (Old No w) (sv v_0_Expr_Args) 138 3 dExpr a0.Expr.Args) (q_0_Body : RV w (Old No w) (sv v_0_Body) 140 8 dStmt a0.Body) (q_0_Else : RV w (Old No w) (sv v_0_Else) 140 8 dStmt a0.Else) : Calls Tryz.prog 145 #[.agg #[.int .i64 a0.Kind,.int .i64 a0.Var,.int .i64 a0.Box,.int .i64 a0.Expr.Op,.int .i64 a0.Expr.N,(sv v_0_Expr_Args),(sv v_0_Body),(sv v_0_Else)]] w (Ret No w (fun s : Unit=>.bool r) (fun s=>[])):=by
 unfold f4b at h
 refine enter Tryz.func145 z z ?_
 have hS:=Sep.start w
 refine .g (.c (.box hS z z ?_ z z))
 intro g1 W hS
 refine .qn z (.seq (.g (.s (fa T.f140_4 z z z) z (.s (ld T.t97 hS z z z z z) z (.s (lenv (hS.keep q_0_Body) T.u97 z z) z (.q z (.q z (.chunk 5 12 ((decide ((a0.Body.length : Int) > 0)) || (decide ((a0.Else.length : Int) > 0))) hS ?_ ?_))))))))
 ·refine .both (decide ((a0.Body.length : Int) > 0)) (fun hb=>?_) (fun hb=>?_)
  ·exact .xx hb z (.xx hb z (.xx hb z (.xx hb z (.s (pkt hb z z z) z (.nil (ck 5 hS z (or_t hb) z z))))))
  have hg1:=hb
  exact .g hg1 (.s (fa T.f140_5 z z z) z (.g hg1 (.s (ld T.t97 hS z z z z z) z (.g hg1 (.s (lenv (hS.keep q_0_Else) T.u97 z z) z (.g hg1 (.q z (.s (pkf hg1 z z z) z (.nil (ck 5 hS z (or_f hg1) z z)))) z)) z)) z)) z
 intro W hS
 refine .nil ?_
 refine .cs z h ?_ ?_ <;> intro h
 ·obtain rfl:=Option.some.inj h
  exact .g (.qn z (.ret (fin_ret (vs:=[_]) () (rt z rn) z (hS.to [] z))))
 refine .skip (.seq (.g (.s (fa T.f140_0 z z z) z (.s (ld T.t3 hS z z z z z) z (.nil (.block (.g (.q z (.q z (.nil ?_))))))))))
 refine .cs z h ?_ ?_ <;> intro h
 ·refine .g (.s (ld T.t140 hS z z z z z) z ?_)
  have ⟨y1,hy1,h⟩:=bnd h
  refine .c (.call0 hS Tryz.func146 (f4d hy1 (hS.keep q_0_Expr_Args) (hS.keep q_0_Body) (hS.keep q_0_Else)) z z ?_ z z z z)
  intro W hS
  refine .q z ?_
  have ⟨b1,hb1,h⟩:=bnd h
  refine .chunk 3 22 (b1) hS ?_ ?_
  ·refine .both (y1) (fun hb=>?_) (fun hb=>?_)
   ·have hg2:=hb
    have h:=sel_t hb hb1
    refine .g hg2 (.s (ld T.t140 hS z z z z z) z ?_) z
    have ⟨y2,hy2,h⟩:=bnd h
    refine .g hg2 (.c (.call0 hS Tryz.func147 (f45 hy2 (hS.keep q_0_Expr_Args) (hS.keep q_0_Body) (hS.keep q_0_Else)) z z ?_ z z z z)) z
    intro W hS
    refine .s (pkt hg2 z z z) z ?_
    cases h
    exact .nil (ck 3 hS z z z z)
   refine .xx hb z (.xx hb z ?_)
   cases sel_f hb hb1
   exact .s (pkf hb z z z) z (.nil (ck 3 hS z z z z))
  intro W hS
  refine .q z ?_
  have ⟨b2,hb2,h⟩:=bnd h
  refine .chunk 4 27 (b2) hS ?_ ?_
  ·refine .both (b1) (fun hb=>?_) (fun hb=>?_)
   ·have hg3:=hb
    have h:=sel_t hb hb2
    refine .g hg3 (.s (fa T.f140_3 z z z) z (.g hg3 (.s (ld T.t138 hS z z z z z) z ?_) z)) z
    have ⟨y3,hy3,h⟩:=bnd h
    refine .g hg3 (.c (.call0 hS Tryz.func148 (f5g hy3 (hS.keep q_0_Expr_Args)) z z ?_ z z z z)) z
    intro W hS
    refine .s (pkt hg3 z z z) z ?_
    cases h
    exact .nil (ck 4 hS z z z z)
   refine .xx hb z (.xx hb z (.xx hb z ?_))
   cases sel_f hb hb2
   exact .s (pkf hb z z z) z (.nil (ck 4 hS z z z z))
  intro W hS
  obtain rfl:=Option.some.inj h
  exact .qn z (.ret (fin_ret (vs:=[_]) () (rt z rn) z (hS.to [] z)))
 refine .g (.q z (.q z (.nil ?_)))
 refine .cs z h ?_ ?_ <;> intro h
 ·refine .g (.s (ld T.t140 hS z z z z z) z ?_)
  have ⟨y4,hy4,h⟩:=bnd h
  refine .c (.call0 hS Tryz.func146 (f4d hy4 (hS.keep q_0_Expr_Args) (hS.keep q_0_Body) (hS.keep q_0_Else)) z z ?_ z z z z)
  intro W hS
  refine .q z ?_
  have ⟨b3,hb3,h⟩:=bnd h
  refine .chunk 3 35 (b3) hS ?_ ?_
  ·refine .both (y4) (fun hb=>?_) (fun hb=>?_)
   ·have hg4:=hb
    have h:=sel_t hb hb3
    refine .g hg4 (.s (ld T.t140 hS z z z z z) z ?_) z
    have ⟨y5,hy5,h⟩:=bnd h
    refine .g hg4 (.c (.call0 hS Tryz.func147 (f45 hy5 (hS.keep q_0_Expr_Args) (hS.keep q_0_Body) (hS.keep q_0_Else)) z z ?_ z z z z)) z
    intro W hS
    refine .s (pkt hg4 z z z) z ?_
    cases h
    exact .nil (ck 3 hS z z z z)
   refine .xx hb z (.xx hb z ?_)
   cases sel_f hb hb3
   exact .s (pkf hb z z z) z (.nil (ck 3 hS z z z z))
  intro W hS
  refine .q z ?_
  have ⟨b4,hb4,h⟩:=bnd h
  refine .chunk 4 40 (b4) hS ?_ ?_
  ·refine .both (b3) (fun hb=>?_) (fun hb=>?_)
   ·have hg5:=hb
    have h:=sel_t hb hb4
    refine .g hg5 (.s (fa T.f140_3 z z z) z (.g hg5 (.s (ld T.t138 hS z z z z z) z ?_) z)) z
    have ⟨y6,hy6,h⟩:=bnd h
    refine .g hg5 (.c (.call0 hS Tryz.func148 (f5g hy6 (hS.keep q_0_Expr_Args)) z z ?_ z z z z)) z
    intro W hS
    refine .s (pkt hg5 z z z) z ?_
    cases h
    exact .nil (ck 4 hS z z z z)
   refine .xx hb z (.xx hb z (.xx hb z ?_))
   cases sel_f hb hb4
   exact .s (pkf hb z z z) z (.nil (ck 4 hS z z z z))
  intro W hS
  obtain rfl:=Option.some.inj h
  exact .qn z (.ret (fin_ret (vs:=[_]) () (rt z rn) z (hS.to [] z)))
 refine .g (.q z (.q z (.nil ?_)))
 refine .cs z h ?_ ?_ <;> intro h
 ·refine .g (.s (ld T.t140 hS z z z z z) z ?_)
  have ⟨y7,hy7,h⟩:=bnd h
  refine .c (.call0 hS Tryz.func146 (f4d hy7 (hS.keep q_0_Expr_Args) (hS.keep q_0_Body) (hS.keep q_0_Else)) z z ?_ z z z z)
  intro W hS
  refine .q z ?_
  have ⟨b5,hb5,h⟩:=bnd h
  refine .chunk 3 48 (b5) hS ?_ ?_
  ·refine .both (y7) (fun hb=>?_) (fun hb=>?_)
   ·have hg6:=hb
    have h:=sel_t hb hb5
    refine .g hg6 (.s (ld T.t140 hS z z z z z) z ?_) z
    have ⟨y8,hy8,h⟩:=bnd h
    refine .g hg6 (.c (.call0 hS Tryz.func147 (f45 hy8 (hS.keep q_0_Expr_Args) (hS.keep q_0_Body) (hS.keep q_0_Else)) z z ?_ z z z z)) z
    intro W hS
    refine .s (pkt hg6 z z z) z ?_
    cases h
    exact .nil (ck 3 hS z z z z)
   refine .xx hb z (.xx hb z ?_)
   cases sel_f hb hb5
   exact .s (pkf hb z z z) z (.nil (ck 3 hS z z z z))
  intro W hS
  refine .q z ?_
  have ⟨b6,hb6,h⟩:=bnd h
  refine .chunk 4 53 (b6) hS ?_ ?_
  ·refine .both (b5) (fun hb=>?_) (fun hb=>?_)
   ·have hg7:=hb
    have h:=sel_t hb hb6
    refine .g hg7 (.s (fa T.f140_3 z z z) z (.g hg7 (.s (ld T.t138 hS z z z z z) z ?_) z)) z
    have ⟨y9,hy9,h⟩:=bnd h
    refine .g hg7 (.c (.call0 hS Tryz.func161 (fau hy9 (hS.keep q_0_Expr_Args)) z z ?_ z z z z)) z
    intro W hS
    refine .s (pkt hg7 z z z) z ?_
    cases h
    exact .nil (ck 4 hS z z z z)
   refine .xx hb z (.xx hb z (.xx hb z ?_))
   cases sel_f hb hb6
   exact .s (pkf hb z z z) z (.nil (ck 4 hS z z z z))
  intro W hS
  obtain rfl:=Option.some.inj h
  exact .qn z (.ret (fin_ret (vs:=[_]) () (rt z rn) z (hS.to [] z)))
 refine .g (.q z (.q z (.nil ?_)))
 refine .cs z h ?_ ?_ <;> intro h
 ·refine .g (.s (ld T.t140 hS z z z z z) z ?_)
  have ⟨y10,hy10,h⟩:=bnd h
  refine .c (.call0 hS Tryz.func146 (f4d hy10 (hS.keep q_0_Expr_Args) (hS.keep q_0_Body) (hS.keep q_0_Else)) z z ?_ z z z z)
  intro W hS
  refine .q z ?_
  have ⟨b7,hb7,h⟩:=bnd h
  refine .chunk 3 61 (b7) hS ?_ ?_
  ·refine .both (y10) (fun hb=>?_) (fun hb=>?_)
   ·have hg8:=hb
    have h:=sel_t hb hb7
    refine .g hg8 (.s (ld T.t140 hS z z z z z) z ?_) z
    have ⟨y11,hy11,h⟩:=bnd h
    refine .g hg8 (.c (.call0 hS Tryz.func147 (f45 hy11 (hS.keep q_0_Expr_Args) (hS.keep q_0_Body) (hS.keep q_0_Else)) z z ?_ z z z z)) z
    intro W hS
    refine .s (pkt hg8 z z z) z ?_
    cases h
    exact .nil (ck 3 hS z z z z)
   refine .xx hb z (.xx hb z ?_)
   cases sel_f hb hb7
   exact .s (pkf hb z z z) z (.nil (ck 3 hS z z z z))
  intro W hS
  refine .q z ?_
  have ⟨b8,hb8,h⟩:=bnd h
  refine .chunk 4 66 (b8) hS ?_ ?_
  ·refine .both (b7) (fun hb=>?_) (fun hb=>?_)
   ·have hg9:=hb
    have h:=sel_t hb hb8
    refine .g hg9 (.s (fa T.f140_3 z z z) z (.g hg9 (.s (ld T.t138 hS z z z z z) z ?_) z)) z
    have ⟨y12,hy12,h⟩:=bnd h
    refine .g hg9 (.c (.call0 hS Tryz.func161 (fau hy12 (hS.keep q_0_Expr_Args)) z z ?_ z z z z)) z
    intro W hS
    refine .s (pkt hg9 z z z) z ?_
    cases h
    exact .nil (ck 4 hS z z z z)
   refine .xx hb z (.xx hb z (.xx hb z ?_))
   cases sel_f hb hb8
   exact .s (pkf hb z z z) z (.nil (ck 4 hS z z z z))
  intro W hS
  obtain rfl:=Option.some.inj h
  exact .qn z (.ret (fin_ret (vs:=[_]) () (rt z rn) z (hS.to [] z)))
 refine .g (.q z (.q z (.nil ?_)))
 refine .cs z h ?_ ?_ <;> intro h
 ·refine .g (.s (ld T.t140 hS z z z z z) z ?_)
  have ⟨y13,hy13,h⟩:=bnd h
  refine .c (.call0 hS Tryz.func146 (f4d hy13 (hS.keep q_0_Expr_Args) (hS.keep q_0_Body) (hS.keep q_0_Else)) z z ?_ z z z z)
  intro W hS
  refine .q z ?_
  have ⟨b9,hb9,h⟩:=bnd h
  refine .chunk 3 74 (b9) hS ?_ ?_
  ·refine .both (y13) (fun hb=>?_) (fun hb=>?_)
   ·have hg10:=hb
    have h:=sel_t hb hb9
    refine .g hg10 (.s (ld T.t140 hS z z z z z) z ?_) z
    have ⟨y14,hy14,h⟩:=bnd h
    refine .g hg10 (.c (.call0 hS Tryz.func147 (f45 hy14 (hS.keep q_0_Expr_Args) (hS.keep q_0_Body) (hS.keep q_0_Else)) z z ?_ z z z z)) z
    intro W hS
    refine .s (pkt hg10 z z z) z ?_
    cases h
    exact .nil (ck 3 hS z z z z)
   refine .xx hb z (.xx hb z ?_)
   cases sel_f hb hb9
   exact .s (pkf hb z z z) z (.nil (ck 3 hS z z z z))
  intro W hS
  refine .q z ?_
  have ⟨b10,hb10,h⟩:=bnd h
  refine .chunk 4 79 (b10) hS ?_ ?_
  ·refine .both (b9) (fun hb=>?_) (fun hb=>?_)
   ·have hg11:=hb
    have h:=sel_t hb hb10
    refine .g hg11 (.s (fa T.f140_3 z z z) z (.g hg11 (.s (ld T.t138 hS z z z z z) z ?_) z)) z
    have ⟨y15,hy15,h⟩:=bnd h
    refine .g hg11 (.c (.call0 hS Tryz.func148 (f5g hy15 (hS.keep q_0_Expr_Args)) z z ?_ z z z z)) z
    intro W hS
    refine .s (pkt hg11 z z z) z ?_
    cases h
    exact .nil (ck 4 hS z z z z)
   refine .xx hb z (.xx hb z (.xx hb z ?_))
   cases sel_f hb hb10
   exact .s (pkf hb z z z) z (.nil (ck 4 hS z z z z))
  intro W hS
  obtain rfl:=Option.some.inj h
  exact .qn z (.ret (fin_ret (vs:=[_]) () (rt z rn) z (hS.to [] z)))
 obtain rfl:=Option.some.inj h
 exact .skip (.g (.qn z (.ret (fin_ret (vs:=[_]) () (rt z rn) z (hS.to [] z)))))
def f4i (F : List Stmt → Int → Option (Bool)) : Prop:=∀ {a0 : List Stmt} {a1 : Int} {v_0 : Hd} {w : World} {r : Bool} (h : F a0 a1 = some r) (q_0 : RV w (Old No w) (sv v_0) 140 8 dStmt a0) , Calls Tryz.prog 99 #[(sv v_0),.int .i64 a1] w (Ret No w (fun s : Unit=>.bool r) (fun s=>[]))
def f9y (F : Stmt → Int → Option (Bool)) : Prop:=∀ {a0 : Stmt} {a1 : Int} {v_0_Expr_Args : Hd} {v_0_Body : Hd} {v_0_Else : Hd} {w : World} {r : Bool} (h : F a0 a1 = some r) (q_0_Expr_Args : RV w (Old No w) (sv v_0_Expr_Args) 138 3 dExpr a0.Expr.Args) (q_0_Body : RV w (Old No w) (sv v_0_Body) 140 8 dStmt a0.Body) (q_0_Else : RV w (Old No w) (sv v_0_Else) 140 8 dStmt a0.Else) , Calls Tryz.prog 120 #[.agg #[.int .i64 a0.Kind,.int .i64 a0.Var,.int .i64 a0.Box,.int .i64 a0.Expr.Op,.int .i64 a0.Expr.N,(sv v_0_Expr_Args),(sv v_0_Body),(sv v_0_Else)],.int .i64 a1] w (Ret No w (fun s : Unit=>.bool r) (fun s=>[]))
def fdr (w : World) (r : Bool) : Env → World → Prop:=Fin Tryz.prog Tryz.f99 No w (fun s : Unit=>.bool r) (fun s=>[]) .ret
theorem fcx {k : Nat} {f1f : List Stmt → Int → Option (Bool)} {f23 : Stmt → Int → Option (Bool)} (f8w : f4i f1f) (fbu : f9y f23) : f4i (f4g k f1f f23):=by
 intro a0 a1 v_0 w r h q_0
 unfold f4g at h
 refine enter Tryz.func99 z z ?_
 have hS:=Sep.start w
 refine .g (.qn z (.seq (.g (.qn z (.block ?_)))))
 have ⟨y1,hy1,h⟩:=bnd h
 refine .via (.iter (fun s1 E' W'=>SubL E' [(0,(sv v_0)),(1,.int .i64 a1),(5,.int .i64 s1)] ∧ Sep No w W' []) (fun y2 x E' W'=>(match y2 with | .inl o1=>x = .ret ∧ fdr w o1 E' W' | .inr o2=>x = .exit 0 ∧ SubL E' [] ∧ Sep No w W' [])) hy1 ⟨sb rfl,hS.to [] rfl⟩ ?_) ?_
 ·intro s1 y3 E W h hI
  obtain ⟨hE,hS⟩:=hI
  refine CW.sub hE ?_
  unfold f8m at h
  refine .seq (.g (.q z (.q z (.s (lenv (hS.keep q_0) T.u97 z z) z (.q z (.nil ?_))))))
  refine .cs z h ?_ ?_ <;> intro h
  ·refine .skip (.seq (.block (.g (.q z (.q z ?_)))))
   have ⟨x1,hx1,h⟩:=bnd h
   obtain ⟨k1,hd,hck1⟩:=RV.el2 q_0 hx1
   have hd1:=raggE (eStmt _) hd
   obtain ⟨k1,rfl,hd2⟩:=rflat q_0 z hd1
   obtain ⟨k1,rfl,hd3⟩:=rflat q_0 z hd2
   obtain ⟨k1,rfl,hd4⟩:=rflat q_0 z hd3
   have hd5:=raggE (eExpr _) hd4
   obtain ⟨k1,rfl,hd6⟩:=rflat q_0 z hd5
   obtain ⟨k1,rfl,hd7⟩:=rflat q_0 z hd6
   obtain ⟨v1,k1,rfl,q1,hd8⟩:=rrowv q_0 hd7
   obtain ⟨v2,k1,rfl,q2,hd9⟩:=rrowv q_0 hd8
   obtain ⟨v3,k1,rfl,q3,hd10⟩:=rrowv q_0 hd9
   obtain rfl:=rnil q_0 hd10
   refine .s (ixv (hS.keep q_0) hx1 T.u97 T.t140 z z z) z (.s (lde (hck1 _ hS.agree) T.t140 z z z z z) z (.q z ?_))
   have ⟨y4,hy4,h⟩:=bnd h
   refine .c (.call0 hS Tryz.func120 (fbu hy4 (hS.keep (q1 _ q_0)) (hS.keep (q2 _ q_0)) (hS.keep (q3 _ q_0))) z z ?_ z z z z)
   intro W hS
   refine .q z (.nil ?_)
   refine .cs z h ?_ ?_ <;> intro h
   ·refine .g (.qn z (.ret ?_))
    cases h
    exact ⟨by simp,z,fin_ret (vs:=[_]) () (rt z rn) z (hS.to [] z)⟩
   refine .skip (.region (.q z (.q z (.q z (.nil ?_)))))
   cases h
   exact ⟨z,sb z,hS.to [] z⟩
  refine .exit ?_
  cases h
  exact ⟨by simp,z,sb z,hS.to [] z⟩
 intro x E W hJ
 rcases y1 with o3 | o4
 ·obtain ⟨rfl,hF⟩:=hJ
  refine ⟨_,fun _ _ h=>h,?_⟩
  cases h
  exact hF
 obtain ⟨rfl,hE,hS⟩:=hJ
 refine ⟨_,hE.sub,?_⟩
 obtain rfl:=Option.some.inj h
 exact .g (.qn z (.ret (fin_ret (vs:=[_]) () (rt z rn) z (hS.to [] z))))
theorem ffg {k : Nat} {f1f : List Stmt → Int → Option (Bool)} {f23 : Stmt → Int → Option (Bool)} (f8w : f4i f1f) (fbu : f9y f23) : f9y (f7x k f1f f23):=by
 intro a0 a1 v_0_Expr_Args v_0_Body v_0_Else w r h q_0_Expr_Args q_0_Body q_0_Else
 unfold f7x at h
 refine enter Tryz.func120 z z ?_
 have hS:=Sep.start w
 refine .g (.c (.box hS z z ?_ z z))
 intro g1 W hS
 refine .qn z (.seq (.g (.s (fa T.f140_0 z z z) z (.s (ld T.t3 hS z z z z z) z (.q z (.q z (.chunk 4 12 ((a0.Kind != 2) && (a0.Kind != 3)) hS ?_ ?_)))))))
 ·refine .both (a0.Kind != 2) (fun hb=>?_) (fun hb=>?_)
  ·have hg1:=hb
   exact .g hg1 (.s (fa T.f140_0 z z z) z (.g hg1 (.s (ld T.t3 hS z z z z z) z (.g hg1 (.q z (.s (pkt hg1 z z z) z (.nil (ck 4 hS z (and_t hg1) z z)))) z)) z)) z
  exact .xx hb z (.xx hb z (.xx hb z (.s (pkf hb z z z) z (.nil (ck 4 hS z (and_f hb) z z)))))
 intro W hS
 refine .nil ?_
 refine .cs z h ?_ ?_ <;> intro h
 ·refine .g (.s (ld T.t140 hS z z z z z) z ?_)
  have ⟨y1,hy1,h⟩:=bnd h
  refine .c (.call0 hS Tryz.func145 (fci hy1 (hS.keep q_0_Expr_Args) (hS.keep q_0_Body) (hS.keep q_0_Else)) z z ?_ z z z z)
  intro W hS
  obtain rfl:=Option.some.inj h
  exact .qn z (.ret (fin_ret (vs:=[_]) () (rt z rn) z (hS.to [] z)))
 refine .skip (.seq (.g (.q z (.q z (.q z (.chunk 10 27 ((decide (a1 < 1)) || ((a0.Kind == 3) && (decide ((a0.Else.length : Int) > 0)))) hS ?_ ?_))))))
 ·refine .both (decide (a1 < 1)) (fun hb=>?_) (fun hb=>?_)
  ·exact .xx hb z (.xx hb z (.xx hb z (.xx hb z (.xu (.xu (.xu (.xu (.xx hb z (.s (pkt hb z z z) z (.nil (ck 10 hS z (or_t hb) z z)))) z z) z z) z z) z z))))
  have hg2:=hb
  refine .g hg2 (.s (fa T.f140_0 z z z) z (.g hg2 (.s (ld T.t3 hS z z z z z) z (.g hg2 (.q z (.g hg2 (.q z (.chunk 5 26 ((a0.Kind == 3) && (decide ((a0.Else.length : Int) > 0))) hS ?_ ?_)) z)) z)) z)) z
  ·refine .both (a0.Kind == 3) (fun hb=>?_) (fun hb=>?_)
   ·have hg3:=hb
    exact .g hg3 (.s (fa T.f140_5 z z z) z (.g hg3 (.s (ld T.t97 hS z z z z z) z (.g hg3 (.s (lenv (hS.keep q_0_Else) T.u97 z z) z (.g hg3 (.q z (.g hg2 (.s (pkt hg3 z z z) z (.nil (ck 5 hS z (and_t hg3) z z))) z)) z)) z)) z)) z
   exact .xx hb z (.xx hb z (.xx hb z (.xx hb z (.g hg2 (.s (pkf hb z z z) z (.nil (ck 5 hS z (and_f hb) z z))) z))))
  intro W hS
  exact .s (pkf hg2 z z z) z (.nil (ck 6 hS z (or_f hg2) z z))
 intro W hS
 refine .nil ?_
 refine .cs z h ?_ ?_ <;> intro h
 ·obtain rfl:=Option.some.inj h
  exact .g (.qn z (.ret (fin_ret (vs:=[_]) () (rt z rn) z (hS.to [] z))))
 refine .skip (.g (.s (ld T.t140 hS z z z z z) z ?_))
 have ⟨y2,hy2,h⟩:=bnd h
 refine .c (.call0 hS Tryz.func146 (f4d hy2 (hS.keep q_0_Expr_Args) (hS.keep q_0_Body) (hS.keep q_0_Else)) z z ?_ z z z z)
 intro W hS
 refine .q z ?_
 have ⟨b1,hb1,h⟩:=bnd h
 refine .chunk 3 33 (b1) hS ?_ ?_
 ·refine .both (y2) (fun hb=>?_) (fun hb=>?_)
  ·have hg4:=hb
   have h:=sel_t hb hb1
   refine .g hg4 (.s (ld T.t140 hS z z z z z) z ?_) z
   have ⟨y3,hy3,h⟩:=bnd h
   refine .g hg4 (.c (.call0 hS Tryz.func147 (f45 hy3 (hS.keep q_0_Expr_Args) (hS.keep q_0_Body) (hS.keep q_0_Else)) z z ?_ z z z z)) z
   intro W hS
   refine .s (pkt hg4 z z z) z ?_
   cases h
   exact .nil (ck 3 hS z z z z)
  refine .xx hb z (.xx hb z ?_)
  cases sel_f hb hb1
  exact .s (pkf hb z z z) z (.nil (ck 3 hS z z z z))
 intro W hS
 refine .q z ?_
 have ⟨b2,hb2,h⟩:=bnd h
 refine .chunk 4 38 (b2) hS ?_ ?_
 ·refine .both (b1) (fun hb=>?_) (fun hb=>?_)
  ·have hg5:=hb
   have h:=sel_t hb hb2
   refine .g hg5 (.s (fa T.f140_3 z z z) z (.g hg5 (.s (ld T.t138 hS z z z z z) z ?_) z)) z
   have ⟨y4,hy4,h⟩:=bnd h
   refine .g hg5 (.c (.call0 hS Tryz.func148 (f5g hy4 (hS.keep q_0_Expr_Args)) z z ?_ z z z z)) z
   intro W hS
   refine .s (pkt hg5 z z z) z ?_
   cases h
   exact .nil (ck 4 hS z z z z)
  refine .xx hb z (.xx hb z (.xx hb z ?_))
  cases sel_f hb hb2
  exact .s (pkf hb z z z) z (.nil (ck 4 hS z z z z))
 intro W hS
 refine .q z ?_
 have ⟨b3,hb3,h⟩:=bnd h
 refine .chunk 6 45 (b3) hS ?_ ?_
 ·refine .both (b2) (fun hb=>?_) (fun hb=>?_)
  ·have hg6:=hb
   have h:=sel_t hb hb3
   refine .g hg6 (.s (fa T.f140_4 z z z) z (.g hg6 (.s (ld T.t97 hS z z z z z) z (.g hg6 (.q z (.g hg6 (.q z ?_) z)) z)) z)) z
   have ⟨y5,hy5,h⟩:=bnd h
   refine .g hg6 (.c (.call0 hS Tryz.func99 (f8w hy5 (hS.keep q_0_Body)) z z ?_ z z z z)) z
   intro W hS
   refine .s (pkt hg6 z z z) z ?_
   cases h
   exact .nil (ck 6 hS z z z z)
  refine .xx hb z (.xx hb z (.xx hb z (.xx hb z (.xx hb z ?_))))
  cases sel_f hb hb3
  exact .s (pkf hb z z z) z (.nil (ck 6 hS z z z z))
 intro W hS
 refine .q z ?_
 have ⟨b4,hb4,h⟩:=bnd h
 refine .chunk 6 52 (b4) hS ?_ ?_
 ·refine .both (b3) (fun hb=>?_) (fun hb=>?_)
  ·have hg7:=hb
   have h:=sel_t hb hb4
   refine .g hg7 (.s (fa T.f140_5 z z z) z (.g hg7 (.s (ld T.t97 hS z z z z z) z (.g hg7 (.q z (.g hg7 (.q z ?_) z)) z)) z)) z
   have ⟨y6,hy6,h⟩:=bnd h
   refine .g hg7 (.c (.call0 hS Tryz.func99 (f8w hy6 (hS.keep q_0_Else)) z z ?_ z z z z)) z
   intro W hS
   refine .s (pkt hg7 z z z) z ?_
   cases h
   exact .nil (ck 6 hS z z z z)
  refine .xx hb z (.xx hb z (.xx hb z (.xx hb z (.xx hb z ?_))))
  cases sel_f hb hb4
  exact .s (pkf hb z z z) z (.nil (ck 6 hS z z z z))
 intro W hS
 obtain rfl:=Option.some.inj h
 exact .qn z (.ret (fin_ret (vs:=[_]) () (rt z rn) z (hS.to [] z)))
theorem fbi (k : Nat) : f4i (f1l k) ∧ f9y (fbp k):=by
  induction k with
  | zero=>exact ⟨by intro a0 a1 v_0 w r h q_0; exact no h,by intro a0 a1 v_0_Expr_Args v_0_Body v_0_Else w r h q_0_Expr_Args q_0_Body q_0_Else; exact no h⟩
  | succ k ih=>exact ⟨fcx (k:=k) ih.1 ih.2,ffg (k:=k) ih.1 ih.2⟩
theorem fct {k : Nat} : f4i (f1l k):=(fbi k).1
theorem fca {k : Nat} {a0 : List Stmt} {v_0 : Hd} {w : World} {r : Bool} (h : f58 k a0 = some r) (q_0 : RV w (Old No w) (sv v_0) 140 8 dStmt a0) : Calls Tryz.prog 76 #[(sv v_0)] w (Ret No w (fun s : Unit=>.bool r) (fun s=>[])):=by
 unfold f58 at h
 refine enter Tryz.func76 z z ?_
 have hS:=Sep.start w
 refine .g (.qn z (.g (.q z ?_)))
 have ⟨y1,hy1,h⟩:=bnd h
 refine .c (.call0 hS Tryz.func99 (fct hy1 (hS.keep q_0)) z z ?_ z z z z)
 intro W hS
 refine .q z ?_
 have ⟨b1,hb1,h⟩:=bnd h
 refine .chunk 4 9 (b1) hS ?_ ?_
 ·refine .both (y1) (fun hb=>?_) (fun hb=>?_)
  ·have hg1:=hb
   have h:=sel_t hb hb1
   refine .g hg1 (.q z ?_) z
   have ⟨y2,hy2,h⟩:=bnd h
   refine .g hg1 (.c (.call0 hS Tryz.func79 (fax hy2 (hS.keep q_0)) z z ?_ z z z z)) z
   intro W hS
   refine .g hg1 (.q z (.s (pkt hg1 z z z) z ?_)) z
   cases h
   exact .nil (ck 4 hS z z z z)
  refine .xx hb z (.xx hb z (.xx hb z ?_))
  cases sel_f hb hb1
  exact .s (pkf hb z z z) z (.nil (ck 4 hS z z z z))
 intro W hS
 obtain rfl:=Option.some.inj h
 exact .qn z (.ret (fin_ret (vs:=[_]) () (rt z rn) z (hS.to [] z)))
def f8h (F : Expr → Int → Option ((List Quad))) : Prop:=∀ {a0 : Expr} {a1 : Int} {v_0_Args : Hd} {w : World} {r : (List Quad)} (h : F a0 a1 = some r) (q_0_Args : RV w (Old No w) (sv v_0_Args) 138 3 dExpr a0.Args) , Calls Tryz.prog 121 #[.agg #[.int .i64 a0.Op,.int .i64 a0.N,(sv v_0_Args)],.int .i64 a1] w (Ret No w (fun s : Hd=>(sv s)) (fun s=>[rowV (sv s) 82 5 dQuad r]))
theorem ff7 {k : Nat} {f67 : Expr → Int → Option ((List Quad))} (fbc : f8h f67) : f8h (f63 k f67):=by
 intro a0 a1 v_0_Args w r h q_0_Args
 unfold f63 at h
 refine enter Tryz.func121 z z ?_
 have hS:=Sep.start w
 refine .g (.c (.box hS z z ?_ z z))
 intro g1 W hS
 refine .qn z (.seq (.g (.s (fa T.f138_0 z z z) z (.s (ld T.t3 hS z z z z z) z (.q z (.nil ?_))))))
 refine .cs z h ?_ ?_ <;> intro h
 ·refine .g (.q z (.s (fa T.f138_1 z z z) z (.s (ld T.t3 hS z z z z z) z (.s (bs T.s82 z z) z (.c (.liv [(Quad.mk 1 a1 0 0 a0.N)] dQuad T.u68 T.t82 hS z z z z ?_ z (fun _=>z) z z z z))))))
  intro v1 W hS
  cases h
  exact .qn z (.ret (fin_ret (vs:=[_]) v1 (rt z rn) z (hS.to [0] z)))
 refine .skip (.seq (.g (.s (fa T.f138_0 z z z) z (.s (ld T.t3 hS z z z z z) z (.q z (.nil ?_))))))
 refine .cs z h ?_ ?_ <;> intro h
 ·refine .g (.q z (.s (fa T.f138_1 z z z) z (.s (ld T.t3 hS z z z z z) z (.s (bs T.s82 z z) z (.c (.liv [(Quad.mk 2 a1 a0.N 0 0)] dQuad T.u68 T.t82 hS z z z z ?_ z (fun _=>z) z z z z))))))
  intro v2 W hS
  cases h
  exact .qn z (.ret (fin_ret (vs:=[_]) v2 (rt z rn) z (hS.to [0] z)))
 refine .skip (.seq (.rk 15 hS [0] T.mix ?_))
 intro W hS
 have hT:=hS.to [0] z
 refine .ts 0 z (fun W hT=>fa T.f138_2 z z z) hT z (by kernel_rfl) (.ts 1 z (fun W hT=>ld T.t136 hT z z z z z) hT z (by kernel_rfl) ?_)
 have ⟨x1,hx1,h⟩:=bnd h
 obtain ⟨k1,hd,hck1⟩:=RV.el2 q_0_Args hx1
 have hd1:=raggE (eExpr _) hd
 obtain ⟨k1,rfl,hd2⟩:=rflat q_0_Args z hd1
 obtain ⟨k1,rfl,hd3⟩:=rflat q_0_Args z hd2
 obtain ⟨v3,k1,rfl,q1,hd4⟩:=rrowv q_0_Args hd3
 obtain rfl:=rnil q_0_Args hd4
 refine .ts 2 z (fun W hT=>ixv (hS.keep q_0_Args) hx1 T.u136 T.t138 z z z) hT z (by kernel_rfl) (.ts 3 z (fun W hT=>lde (hck1 _ hT.agree) T.t138 z z z z z) hT z (by kernel_rfl) (.tp 4 z z hT (by kernel_rfl) (.ts 6 z (fun W hT=>fa T.f138_2 z z z) hT z (by kernel_rfl) (.ts 7 z (fun W hT=>ld T.t136 hT z z z z z) hT z (by kernel_rfl) ?_))))
 have ⟨x2,hx2,h⟩:=bnd h
 obtain ⟨k2,hd,hck2⟩:=RV.el2 q_0_Args hx2
 have hd1:=raggE (eExpr _) hd
 obtain ⟨k2,rfl,hd2⟩:=rflat q_0_Args z hd1
 obtain ⟨k2,rfl,hd3⟩:=rflat q_0_Args z hd2
 obtain ⟨v4,k2,rfl,q2,hd4⟩:=rrowv q_0_Args hd3
 obtain rfl:=rnil q_0_Args hd4
 refine .ts 8 z (fun W hT=>ixv (hS.keep q_0_Args) hx2 T.u136 T.t138 z z z) hT z (by kernel_rfl) (.ts 9 z (fun W hT=>lde (hck2 _ hT.agree) T.t138 z z z z z) hT z (by kernel_rfl) (.tp 10 z z hT (by kernel_rfl) (.tp 11 z z hT (by kernel_rfl) ?_)))
 have ⟨y1,hy1,h⟩:=bnd h
 refine .by1 5 z (.call1v hS Tryz.func121 (fbc hy1 (hS.keep (q1 _ q_0_Args))) z z ?_ z z z z) (by kernel_rfl)
 intro v5 W hS
 have hT:=hS.to [1] z
 refine ⟨fun _=>hT,?_⟩
 have ⟨y2,hy2,h⟩:=bnd h
 refine .by1 12 z (.call1v hS Tryz.func121 (fbc hy2 (hS.keep (q2 _ q_0_Args))) z z ?_ z z z z) (by kernel_rfl)
 intro v6 W hS
 have hT:=hS.to [2] z
 refine ⟨fun _=>hT,?_⟩
 have ⟨r1,hr1,h⟩:=bnd h
 have hT0:=hS.p1
 refine .by1 13 z (.apprv hr1 hT0 hT0.p1.lendv (fun _=>z) T.u68 T.t82 z z z ?_ z z z z z) (by kernel_rfl)
 intro v7 W hS
 have hT:=hS.to [2] z
 refine ⟨fun _=>hT,.tp 14 z z hT (by kernel_rfl) (.done (.g (.q z (.q z (.q z (.q z (.q z (.s (fa T.f138_0 z z z) z (.s (ld T.t3 hS.p2 z z z z z) z (.s (bs T.s82 z z) z (.c (.liv [(Quad.mk 3 a1 a1 (w64 (a1 + 1)) a0.Op)] dQuad T.u68 T.t82 hS z z z z ?_ z (fun _=>z) z z z z))))))))))) (by kernel_rfl))⟩
 intro v8 W hS
 have ⟨r2,hr2,h⟩:=bnd h
 have hT0:=hS.p1
 refine .c (.apprv hr2 hT0 hT0.p1.lendv (fun _=>z) T.u68 T.t82 z z z ?_ z z z z z)
 intro v9 W hS
 obtain rfl:=Option.some.inj h
 exact .qn z (.ret (fin_ret (vs:=[_]) v9 (rt z rn) z (hS.to [0] z)))
theorem fc1 (k : Nat) : f8h (f21 k):=by
  induction k with
  | zero=>exact by intro a0 a1 v_0_Args w r h q_0_Args; exact no h
  | succ k ih=>exact ff7 (k:=k) ih
theorem fa9 {k : Nat} : f8h (f21 k):=(fc1 k)
def f32 (F : List Stmt → Int → Option ((List Quad))) : Prop:=∀ {a0 : List Stmt} {a1 : Int} {v_0 : Hd} {w : World} {r : (List Quad)} (h : F a0 a1 = some r) (q_0 : RV w (Old No w) (sv v_0) 140 8 dStmt a0) , Calls Tryz.prog 77 #[(sv v_0),.int .i64 a1] w (Ret No w (fun s : Hd=>(sv s)) (fun s=>[rowV (sv s) 82 5 dQuad r]))
def f46 (F : Stmt → Int → Option ((List Quad))) : Prop:=∀ {a0 : Stmt} {a1 : Int} {v_0_Expr_Args : Hd} {v_0_Body : Hd} {v_0_Else : Hd} {w : World} {r : (List Quad)} (h : F a0 a1 = some r) (q_0_Expr_Args : RV w (Old No w) (sv v_0_Expr_Args) 138 3 dExpr a0.Expr.Args) (q_0_Body : RV w (Old No w) (sv v_0_Body) 140 8 dStmt a0.Body) (q_0_Else : RV w (Old No w) (sv v_0_Else) 140 8 dStmt a0.Else) , Calls Tryz.prog 100 #[.agg #[.int .i64 a0.Kind,.int .i64 a0.Var,.int .i64 a0.Box,.int .i64 a0.Expr.Op,.int .i64 a0.Expr.N,(sv v_0_Expr_Args),(sv v_0_Body),(sv v_0_Else)],.int .i64 a1] w (Ret No w (fun s : Hd=>(sv s)) (fun s=>[rowV (sv s) 82 5 dQuad r]))
def f66 (F : Stmt → Int → Option ((List Quad))) : Prop:=∀ {a0 : Stmt} {a1 : Int} {v_0_Expr_Args : Hd} {v_0_Body : Hd} {v_0_Else : Hd} {w : World} {r : (List Quad)} (h : F a0 a1 = some r) (q_0_Expr_Args : RV w (Old No w) (sv v_0_Expr_Args) 138 3 dExpr a0.Expr.Args) (q_0_Body : RV w (Old No w) (sv v_0_Body) 140 8 dStmt a0.Body) (q_0_Else : RV w (Old No w) (sv v_0_Else) 140 8 dStmt a0.Else) , Calls Tryz.prog 122 #[.agg #[.int .i64 a0.Kind,.int .i64 a0.Var,.int .i64 a0.Box,.int .i64 a0.Expr.Op,.int .i64 a0.Expr.N,(sv v_0_Expr_Args),(sv v_0_Body),(sv v_0_Else)],.int .i64 a1] w (Ret No w (fun s : Hd=>(sv s)) (fun s=>[rowV (sv s) 82 5 dQuad r]))
def f3j (F : Stmt → Int → Option ((List Quad))) : Prop:=∀ {a0 : Stmt} {a1 : Int} {v_0_Expr_Args : Hd} {v_0_Body : Hd} {v_0_Else : Hd} {w : World} {r : (List Quad)} (h : F a0 a1 = some r) (q_0_Expr_Args : RV w (Old No w) (sv v_0_Expr_Args) 138 3 dExpr a0.Expr.Args) (q_0_Body : RV w (Old No w) (sv v_0_Body) 140 8 dStmt a0.Body) (q_0_Else : RV w (Old No w) (sv v_0_Else) 140 8 dStmt a0.Else) , Calls Tryz.prog 123 #[.agg #[.int .i64 a0.Kind,.int .i64 a0.Var,.int .i64 a0.Box,.int .i64 a0.Expr.Op,.int .i64 a0.Expr.N,(sv v_0_Expr_Args),(sv v_0_Body),(sv v_0_Else)],.int .i64 a1] w (Ret No w (fun s : Hd=>(sv s)) (fun s=>[rowV (sv s) 82 5 dQuad r]))
theorem ff0 {k : Nat} {f0j : List Stmt → Int → Option ((List Quad))} {f0l : Stmt → Int → Option ((List Quad))} {f0w : Stmt → Int → Option ((List Quad))} {f0m : Stmt → Int → Option ((List Quad))} (f3k : f32 f0j) (f7p : f46 f0l) (f94 : f66 f0w) (f6h : f3j f0m) : f32 (f5i k f0j f0l f0w f0m):=by
 intro a0 a1 v_0 w r h q_0
 unfold f5i at h
 refine enter Tryz.func77 z z ?_
 have hS:=Sep.start w
 refine .g (.qn z (.g (.c (.liv [] dQuad T.u68 T.t82 hS z z z z ?_ z (fun _=>z) z z z z))))
 intro v1 W hS
 refine .qn z (.seq (.g (.qn z (.block ?_))))
 have ⟨y1,hy1,h⟩:=bnd h
 refine .via (.iter (fun s1 E' W'=>∃ (v4 : Hd),SubL E' [(0,(sv v_0)),(1,.int .i64 a1),(5,(sv v4)),(6,.int .i64 s1.2)] ∧ Sep No w W' [rowV (sv v4) 82 5 dQuad s1.1]) (fun y2 x E' W'=>x = .exit 0 ∧ ∃ (v5 : Hd),SubL E' [(5,(sv v5))] ∧ Sep No w W' [rowV (sv v5) 82 5 dQuad y2]) hy1 ⟨v1,sb z,hS.to [0] z⟩ ?_) ?_
 ·intro s1 y3 E W h hI
  obtain ⟨v3,hE,hS⟩:=hI
  refine CW.sub hE ?_
  unfold f9z at h
  refine .seq (.g (.q z (.q z (.s (lenv (hS.keep q_0) T.u97 z z) z (.q z (.nil ?_))))))
  refine .cs z h ?_ ?_ <;> intro h
  ·refine .skip (.seq (.block (.region (.q z (.q z (.q z ?_))))))
   have ⟨x1,hx1,h⟩:=bnd h
   obtain ⟨k1,hd,hck1⟩:=RV.el2 q_0 hx1
   have hd1:=raggE (eStmt _) hd
   obtain ⟨k1,rfl,hd2⟩:=rflat q_0 z hd1
   obtain ⟨k1,rfl,hd3⟩:=rflat q_0 z hd2
   obtain ⟨k1,rfl,hd4⟩:=rflat q_0 z hd3
   have hd5:=raggE (eExpr _) hd4
   obtain ⟨k1,rfl,hd6⟩:=rflat q_0 z hd5
   obtain ⟨k1,rfl,hd7⟩:=rflat q_0 z hd6
   obtain ⟨v6,k1,rfl,q5,hd8⟩:=rrowv q_0 hd7
   obtain ⟨v7,k1,rfl,q6,hd9⟩:=rrowv q_0 hd8
   obtain ⟨v8,k1,rfl,q7,hd10⟩:=rrowv q_0 hd9
   obtain rfl:=rnil q_0 hd10
   refine .s (ixv (hS.keep q_0) hx1 T.u97 T.t140 z z z) z (.s (lde (hck1 _ hS.agree) T.t140 z z z z z) z (.q z (.q z (.s (lenv hS.lendv T.u68 z z) z (.q z ?_)))))
   have ⟨y4,hy4,h⟩:=bnd h
   refine .c (.call1v hS Tryz.func100 (f7p hy4 (hS.keep (q5 _ q_0)) (hS.keep (q6 _ q_0)) (hS.keep (q7 _ q_0))) z z ?_ z z z z)
   intro v9 W hS
   have ⟨r1,hr1,h⟩:=bnd h
   have hT0:=hS.p1
   refine .c (.apprv hr1 hT0 hT0.p1.lendv (fun _=>z) T.u68 T.t82 z z z ?_ z z z z z)
   intro v10 W hS
   refine .qn z (.region (.q z (.q z (.q z (.nil ?_)))))
   cases h
   exact ⟨z,v10,sb z,hS.to [0] z⟩
  refine .exit ?_
  cases h
  exact ⟨by simp,z,v3,sb z,hS.to [0] z⟩
 intro x E W hJ
 obtain ⟨rfl,v11,hE,hS⟩:=hJ
 refine ⟨_,hE.sub,?_⟩
 obtain rfl:=Option.some.inj h
 exact .g (.q z (.qn z (.ret (fin_ret (vs:=[_]) v11 (rt z rn) z (hS.to [0] z)))))
theorem ff9 {k : Nat} {f0j : List Stmt → Int → Option ((List Quad))} {f0l : Stmt → Int → Option ((List Quad))} {f0w : Stmt → Int → Option ((List Quad))} {f0m : Stmt → Int → Option ((List Quad))} (f3k : f32 f0j) (f7p : f46 f0l) (f94 : f66 f0w) (f6h : f3j f0m) : f46 (f5j k f0j f0l f0w f0m):=by
 intro a0 a1 v_0_Expr_Args v_0_Body v_0_Else w r h q_0_Expr_Args q_0_Body q_0_Else
 unfold f5j at h
 refine enter Tryz.func100 z z ?_
 have hS:=Sep.start w
 refine .g (.c (.box hS z z ?_ z z))
 intro g1 W hS
 refine .qn z (.g (.s (fa T.f140_3 z z z) z (.s (ld T.t138 hS z z z z z) z ?_)))
 have ⟨y1,hy1,h⟩:=bnd h
 refine .c (.call1v hS Tryz.func121 (fa9 hy1 (hS.keep q_0_Expr_Args)) z z ?_ z z z z)
 intro v1 W hS
 refine .qn z (.seq (.g (.s (fa T.f140_0 z z z) z (.s (ld T.t3 hS.p1 z z z z z) z (.nil (.block (.g (.q z (.q z (.nil ?_))))))))))
 refine .cs z h ?_ ?_ <;> intro h
 ·refine .g (.s (ld T.t140 hS.p1 z z z z z) z (.q z ?_))
  have ⟨y2,hy2,h⟩:=bnd h
  refine .c (.call1v hS Tryz.func122 (f94 hy2 (hS.keep q_0_Expr_Args) (hS.keep q_0_Body) (hS.keep q_0_Else)) z z ?_ z z z z)
  intro v2 W hS
  obtain rfl:=Option.some.inj h
  exact .qn z (.ret (fin_ret (vs:=[_]) v2 (rt z rn) z (hS.to [0] z)))
 refine .g (.q z (.q z (.nil ?_)))
 refine .cs z h ?_ ?_ <;> intro h
 ·refine .g (.s (ld T.t140 hS.p1 z z z z z) z (.q z ?_))
  have ⟨y3,hy3,h⟩:=bnd h
  refine .c (.call1v hS Tryz.func123 (f6h hy3 (hS.keep q_0_Expr_Args) (hS.keep q_0_Body) (hS.keep q_0_Else)) z z ?_ z z z z)
  intro v3 W hS
  obtain rfl:=Option.some.inj h
  exact .qn z (.ret (fin_ret (vs:=[_]) v3 (rt z rn) z (hS.to [0] z)))
 refine .g (.q z (.q z (.nil ?_)))
 refine .cs z h ?_ ?_ <;> intro h
 ·refine .g (.q z (.s (fa T.f140_1 z z z) z (.s (ld T.t3 hS.p1 z z z z z) z (.s (bs T.s82 z z) z (.c (.liv [(Quad.mk 2 a0.Var 4 0 0)] dQuad T.u68 T.t82 hS z z z z ?_ z (fun _=>z) z z z z))))))
  intro v4 W hS
  have ⟨r1,hr1,h⟩:=bnd h
  have hT0:=hS.p1
  refine .c (.apprv hr1 hT0 hT0.p1.lendv (fun _=>z) T.u68 T.t82 z z z ?_ z z z z z)
  intro v5 W hS
  obtain rfl:=Option.some.inj h
  exact .qn z (.ret (fin_ret (vs:=[_]) v5 (rt z rn) z (hS.to [0] z)))
 refine .g (.q z (.q z (.nil ?_)))
 refine .cs z h ?_ ?_ <;> intro h
 ·refine .g (.q z (.s (fa T.f140_2 z z z) z (.s (ld T.t3 hS.p1 z z z z z) z (.s (bs T.s82 z z) z (.c (.liv [(Quad.mk 6 0 4 0 a0.Box)] dQuad T.u68 T.t82 hS z z z z ?_ z (fun _=>z) z z z z))))))
  intro v6 W hS
  have ⟨r2,hr2,h⟩:=bnd h
  have hT0:=hS.p1
  refine .c (.apprv hr2 hT0 hT0.p1.lendv (fun _=>z) T.u68 T.t82 z z z ?_ z z z z z)
  intro v7 W hS
  obtain rfl:=Option.some.inj h
  exact .qn z (.ret (fin_ret (vs:=[_]) v7 (rt z rn) z (hS.to [0] z)))
 refine .g (.q z (.q z (.nil ?_)))
 refine .cs z h ?_ ?_ <;> intro h
 ·refine .g (.q z (.s (bs T.s82 z z) z (.c (.liv [(Quad.mk 9 0 4 0 0)] dQuad T.u68 T.t82 hS z z z z ?_ z (fun _=>z) z z z z))))
  intro v8 W hS
  have ⟨r3,hr3,h⟩:=bnd h
  have hT0:=hS.p1
  refine .c (.apprv hr3 hT0 hT0.p1.lendv (fun _=>z) T.u68 T.t82 z z z ?_ z z z z z)
  intro v9 W hS
  obtain rfl:=Option.some.inj h
  exact .qn z (.ret (fin_ret (vs:=[_]) v9 (rt z rn) z (hS.to [0] z)))
 refine .g (.q z (.q z (.nil ?_)))
 refine .cs z h ?_ ?_ <;> intro h
 ·refine .g (.s (fa T.f140_1 z z z) z (.s (ld T.t3 hS.p1 z z z z z) z (.s (fa T.f140_2 z z z) z (.s (ld T.t3 hS.p1 z z z z z) z (.s (bs T.s82 z z) z (.c (.liv [(Quad.mk 7 a0.Var 0 0 a0.Box)] dQuad T.u68 T.t82 hS z z z z ?_ z (fun _=>z) z z z z)))))))
  intro v10 W hS
  cases h
  exact .qn z (.ret (fin_ret (vs:=[_]) v10 (rt z rn) z (hS.to [0] z)))
 refine .skip (.g (.s (bs T.s82 z z) z (.c (.liv [(Quad.mk 8 0 0 0 0)] dQuad T.u68 T.t82 hS z z z z ?_ z (fun _=>z) z z z z))))
 intro v11 W hS
 cases h
 exact .qn z (.ret (fin_ret (vs:=[_]) v11 (rt z rn) z (hS.to [0] z)))
theorem fff {k : Nat} {f0j : List Stmt → Int → Option ((List Quad))} {f0l : Stmt → Int → Option ((List Quad))} {f0w : Stmt → Int → Option ((List Quad))} {f0m : Stmt → Int → Option ((List Quad))} (f3k : f32 f0j) (f7p : f46 f0l) (f94 : f66 f0w) (f6h : f3j f0m) : f66 (f81 k f0j f0l f0w f0m):=by
 intro a0 a1 v_0_Expr_Args v_0_Body v_0_Else w r h q_0_Expr_Args q_0_Body q_0_Else
 unfold f81 at h
 refine enter Tryz.func122 z z ?_
 have hS:=Sep.start w
 refine .g (.c (.box hS z z ?_ z z))
 intro g1 W hS
 refine .qn z (.g (.s (fa T.f140_3 z z z) z (.s (ld T.t138 hS z z z z z) z ?_)))
 have ⟨y1,hy1,h⟩:=bnd h
 refine .c (.call1v hS Tryz.func121 (fa9 hy1 (hS.keep q_0_Expr_Args)) z z ?_ z z z z)
 intro v1 W hS
 refine .qn z (.g (.s (fa T.f140_4 z z z) z (.s (ld T.t97 hS.p1 z z z z z) z (.q z (.q z (.s (lenv hS.lendv T.u68 z z) z (.q z (.q z ?_))))))))
 have ⟨y2,hy2,h⟩:=bnd h
 refine .c (.call1v hS Tryz.func77 (f3k hy2 (hS.keep q_0_Body)) z z ?_ z z z z)
 intro v2 W hS
 refine .qn z (.g (.q z (.q z (.s (lenv hS.p1.lendv T.u68 z z) z (.q z (.q z (.q z (.s (lenv hS.lendv T.u68 z z) z (.q z (.qn z (.seq (.g (.s (fa T.f140_5 z z z) z (.s (ld T.t97 hS.p2 z z z z z) z (.s (lenv (hS.keep q_0_Else) T.u97 z z) z (.q z (.nil ?_)))))))))))))))))
 refine .cs z h ?_ ?_ <;> intro h
 ·refine .g (.q z (.q z (.s (bs T.s82 z z) z (.c (.liv [(Quad.mk 5 0 4 0 (w64 ((w64 ((w64 (a1 + (y1.length : Int))) + 1)) + (y2.length : Int))))] dQuad T.u68 T.t82 hS z z z z ?_ z (fun _=>z) z z z z)))))
  intro v3 W hS
  have ⟨r1,hr1,h⟩:=bnd h
  have hT0:=hS.p2
  refine .c (.apprv hr1 hT0 hT0.p1.lendv (fun _=>z) T.u68 T.t82 z z z ?_ z z z z z)
  intro v4 W hS
  refine .qn z (.g (.q z (.q z ?_)))
  have ⟨r2,hr2,h⟩:=bnd h
  have hT0:=hS
  refine .c (.apprv hr2 hT0 hT0.p2.lendv (fun _=>z) T.u68 T.t82 z z z ?_ z z z z z)
  intro v5 W hS
  obtain rfl:=Option.some.inj h
  exact .qn z (.ret (fin_ret (vs:=[_]) v5 (rt z rn) z (hS.to [0] z)))
 refine .skip (.g (.s (fa T.f140_5 z z z) z (.s (ld T.t97 hS.p2 z z z z z) z (.q z (.q z ?_)))))
 have ⟨y3,hy3,h⟩:=bnd h
 refine .c (.call1v hS Tryz.func77 (f3k hy3 (hS.keep q_0_Else)) z z ?_ z z z z)
 intro v6 W hS
 refine .qn z (.g (.q z (.q z (.q z (.s (bs T.s82 z z) z (.c (.liv [(Quad.mk 5 0 4 0 (w64 ((w64 ((w64 ((w64 (a1 + (y1.length : Int))) + 1)) + (y2.length : Int))) + 1)))] dQuad T.u68 T.t82 hS z z z z ?_ z (fun _=>z) z z z z)))))))
 intro v7 W hS
 have ⟨r3,hr3,h⟩:=bnd h
 have hT0:=hS.p3
 refine .c (.apprv hr3 hT0 hT0.p1.lendv (fun _=>z) T.u68 T.t82 z z z ?_ z z z z z)
 intro v8 W hS
 refine .qn z (.g (.q z (.q z ?_)))
 have ⟨r4,hr4,h⟩:=bnd h
 have hT0:=hS
 refine .c (.apprv hr4 hT0 hT0.p3.lendv (fun _=>z) T.u68 T.t82 z z z ?_ z z z z z)
 intro v9 W hS
 refine .qn z (.g (.q z (.q z (.q z (.q z (.s (lenv hS.p2.lendv T.u68 z z) z (.q z (.s (bs T.s82 z z) z (.c (.liv [(Quad.mk 4 0 0 0 (w64 ((w64 ((w64 ((w64 ((w64 (a1 + (y1.length : Int))) + 1)) + (y2.length : Int))) + 1)) + (y3.length : Int))))] dQuad T.u68 T.t82 hS z z z z ?_ z (fun _=>z) z z z z))))))))))
 intro v10 W hS
 have ⟨r5,hr5,h⟩:=bnd h
 have hT0:=hS.p1
 refine .c (.apprv hr5 hT0 hT0.p1.lendv (fun _=>z) T.u68 T.t82 z z z ?_ z z z z z)
 intro v11 W hS
 refine .qn z (.g (.q z (.q z ?_)))
 have ⟨r6,hr6,h⟩:=bnd h
 have hT0:=hS
 refine .c (.apprv hr6 hT0 hT0.p3.lendv (fun _=>z) T.u68 T.t82 z z z ?_ z z z z z)
 intro v12 W hS
 obtain rfl:=Option.some.inj h
 exact .qn z (.ret (fin_ret (vs:=[_]) v12 (rt z rn) z (hS.to [0] z)))
theorem fep {k : Nat} {f0j : List Stmt → Int → Option ((List Quad))} {f0l : Stmt → Int → Option ((List Quad))} {f0w : Stmt → Int → Option ((List Quad))} {f0m : Stmt → Int → Option ((List Quad))} (f3k : f32 f0j) (f7p : f46 f0l) (f94 : f66 f0w) (f6h : f3j f0m) : f3j (f52 k f0j f0l f0w f0m):=by
 intro a0 a1 v_0_Expr_Args v_0_Body v_0_Else w r h q_0_Expr_Args q_0_Body q_0_Else
 unfold f52 at h
 refine enter Tryz.func123 z z ?_
 have hS:=Sep.start w
 refine .g (.c (.box hS z z ?_ z z))
 intro g1 W hS
 refine .qn z (.g (.s (fa T.f140_3 z z z) z (.s (ld T.t138 hS z z z z z) z ?_)))
 have ⟨y1,hy1,h⟩:=bnd h
 refine .c (.call1v hS Tryz.func121 (fa9 hy1 (hS.keep q_0_Expr_Args)) z z ?_ z z z z)
 intro v1 W hS
 refine .qn z (.g (.s (fa T.f140_4 z z z) z (.s (ld T.t97 hS.p1 z z z z z) z (.q z (.q z (.s (lenv hS.lendv T.u68 z z) z (.q z (.q z ?_))))))))
 have ⟨y2,hy2,h⟩:=bnd h
 refine .c (.call1v hS Tryz.func77 (f3k hy2 (hS.keep q_0_Body)) z z ?_ z z z z)
 intro v2 W hS
 refine .qn z (.g (.q z (.q z (.q z (.s (lenv hS.p1.lendv T.u68 z z) z (.q z (.q z (.q z (.s (lenv hS.lendv T.u68 z z) z (.q z (.q z (.s (bs T.s82 z z) z (.c (.liv [(Quad.mk 5 0 4 0 (w64 ((w64 ((w64 ((w64 (a1 + (y1.length : Int))) + 1)) + (y2.length : Int))) + 1)))] dQuad T.u68 T.t82 hS z z z z ?_ z (fun _=>z) z z z z))))))))))))))
 intro v3 W hS
 have ⟨r1,hr1,h⟩:=bnd h
 have hT0:=hS.p2
 refine .c (.apprv hr1 hT0 hT0.p1.lendv (fun _=>z) T.u68 T.t82 z z z ?_ z z z z z)
 intro v4 W hS
 refine .qn z (.g (.q z (.q z ?_)))
 have ⟨r2,hr2,h⟩:=bnd h
 have hT0:=hS
 refine .c (.apprv hr2 hT0 hT0.p2.lendv (fun _=>z) T.u68 T.t82 z z z ?_ z z z z z)
 intro v5 W hS
 refine .qn z (.g (.q z (.q z (.s (bs T.s82 z z) z (.c (.liv [(Quad.mk 4 0 0 0 a1)] dQuad T.u68 T.t82 hS z z z z ?_ z (fun _=>z) z z z z))))))
 intro v6 W hS
 have ⟨r3,hr3,h⟩:=bnd h
 have hT0:=hS.p1
 refine .c (.apprv hr3 hT0 hT0.p1.lendv (fun _=>z) T.u68 T.t82 z z z ?_ z z z z z)
 intro v7 W hS
 obtain rfl:=Option.some.inj h
 exact .qn z (.ret (fin_ret (vs:=[_]) v7 (rt z rn) z (hS.to [0] z)))
theorem fc4 (k : Nat) : f32 (f3b k) ∧ f46 (f5u k) ∧ f66 (f9w k) ∧ f3j (f7b k):=by
  induction k with
  | zero=>exact ⟨by intro a0 a1 v_0 w r h q_0; exact no h,by intro a0 a1 v_0_Expr_Args v_0_Body v_0_Else w r h q_0_Expr_Args q_0_Body q_0_Else; exact no h,by intro a0 a1 v_0_Expr_Args v_0_Body v_0_Else w r h q_0_Expr_Args q_0_Body q_0_Else; exact no h,by intro a0 a1 v_0_Expr_Args v_0_Body v_0_Else w r h q_0_Expr_Args q_0_Body q_0_Else; exact no h⟩
  | succ k ih=>exact ⟨ff0 (k:=k) ih.1 ih.2.1 ih.2.2.1 ih.2.2.2,ff9 (k:=k) ih.1 ih.2.1 ih.2.2.1 ih.2.2.2,fff (k:=k) ih.1 ih.2.1 ih.2.2.1 ih.2.2.2,fep (k:=k) ih.1 ih.2.1 ih.2.2.1 ih.2.2.2⟩
theorem fe3 {k : Nat} : f32 (f3b k):=(fc4 k).1
theorem fc3 {k : Nat} {a0 : List Stmt} {v_0 : Hd} {w : World} {r : (List Quad) × Bool} (h : f4h k a0 = some r) (q_0 : RV w (Old No w) (sv v_0) 140 8 dStmt a0) : Calls Tryz.prog 55 #[(sv v_0)] w (Ret No w (fun s : Hd=>.tuple #[(sv s),.bool r.2]) (fun s=>[rowV (sv s) 82 5 dQuad r.1])):=by
 unfold f4h at h
 refine enter Tryz.func55 z z ?_
 have hS:=Sep.start w
 refine .g (.q z (.qn z (.seq (.g (.q z ?_)))))
 have ⟨y1,hy1,h⟩:=bnd h
 refine .c (.call0 hS Tryz.func76 (fca hy1 (hS.keep q_0)) z z ?_ z z z z)
 intro W hS
 refine .q z (.nil ?_)
 refine .cs z h ?_ ?_ <;> intro h
 ·refine .g (.c (.liv [] dQuad T.u68 T.t82 hS z z z z ?_ z (fun _=>z) z z z z))
  intro v1 W hS
  cases h
  exact .q z (.qn z (.ret (fin_ret (vs:=[_,_]) v1 (rt z (rt z rn)) z (hS.to [0] z))))
 refine .skip (.g (.q z ?_))
 have ⟨y2,hy2,h⟩:=bnd h
 refine .c (.call1v hS Tryz.func77 (fe3 hy2 (hS.keep q_0)) z z ?_ z z z z)
 intro v2 W hS
 refine .s (bs T.s82 z z) z (.c (.liv [(Quad.mk 10 0 0 0 0)] dQuad T.u68 T.t82 hS z z z z ?_ z (fun _=>z) z z z z))
 intro v3 W hS
 have ⟨r1,hr1,h⟩:=bnd h
 have hT0:=hS.p1
 refine .c (.apprv hr1 hT0 hT0.p1.lendv (fun _=>z) T.u68 T.t82 z z z ?_ z z z z z)
 intro v4 W hS
 cases h
 exact .q z (.qn z (.ret (fin_ret (vs:=[_,_]) v4 (rt z (rt z rn)) z (hS.to [0] z))))
theorem f05 {a0 : Int} {a1 : Expr} {a2 : Expr} {v_1_Args : Hd} {v_2_Args : Hd} {S : Nat → Prop} {w : World} {r : Expr} (h : f7e a0 a1 a2 = some r) (hO : Owns w [rowV (sv v_1_Args) 138 3 dExpr a1.Args,rowV (sv v_2_Args) 138 3 dExpr a2.Args] S) (hlt : ∀ b,S b → b < w.heap.size) : Calls Tryz.prog 149 #[.int .i64 a0,.agg #[.int .i64 a1.Op,.int .i64 a1.N,(sv v_1_Args)],.agg #[.int .i64 a2.Op,.int .i64 a2.N,(sv v_2_Args)]] w (Ret S w (fun s : Hd=>.agg #[.int .i64 r.Op,.int .i64 r.N,(sv s)]) (fun s=>[rowV (sv s) 138 3 dExpr r.Args])):=by
 unfold f7e at h
 refine enter Tryz.func149 z z ?_
 have hS:=Sep.startM hO hlt
 refine .g (.c (.box hS z z ?_ z z))
 intro g1 W hS
 refine .c (.box hS z z ?_ z z)
 intro g2 W hS
 refine .c (.alloc T.t138 hS ?_ z z z)
 intro g3 W hS
 refine .nil (.g (.q z (.s (ld T.t138 hS.p2 z z z z z) z (.s (ld T.t138 hS.p1 z z z z z) z (.c (.ligv (L1:=[rowV (sv v_1_Args) 138 3 dExpr a1.Args,rowV (sv v_2_Args) 138 3 dExpr a2.Args]) [(Expr.mk a1.Op a1.N a1.Args),(Expr.mk a2.Op a2.N a2.Args)] dExpr T.u136 T.t138 (hS.to [3,3,0,0,0] z) z z z (.aggE (eExpr _) (.flat (c1:=[.int .i64 a1.Op]) z (.flat (c1:=[.int .i64 a1.N]) z (.row (.aggE (eExpr _) (.flat (c1:=[.int .i64 a2.Op]) z (.flat (c1:=[.int .i64 a2.N]) z (.row .nil)))))))) ?_ z zExpr z z z z z))))))
 intro v1 W hS
 refine .s (bs T.s138 z z) z (.c (.st T.t138 hS.p1 z z z ?_ z z z z z))
 intro W hS
 cases h
 exact .nil (.ret (fin_ret (vs:=[_]) v1 (rc hS T.t138 z rn z z) z (hS.to [1] z)))
theorem f06 {a0 : Int} {a1 : Int} {w : World} {r : Expr} (h : f24 a0 a1 = some r) : Calls Tryz.prog 150 #[.int .i64 a0,.int .i64 a1] w (Ret No w (fun s : Hd=>.agg #[.int .i64 r.Op,.int .i64 r.N,(sv s)]) (fun s=>[rowV (sv s) 138 3 dExpr r.Args])):=by
 unfold f24 at h
 refine enter Tryz.func150 z z ?_
 have hS:=Sep.start w
 refine .g (.c (.alloc T.t138 hS ?_ z z z))
 intro g1 W hS
 refine .nil (.g (.q z (.q z (.c (.ligv (L1:=[]) [] dExpr T.u136 T.t138 (hS.to [0] z) z z z (.nil) ?_ z zExpr z z z z z)))))
 intro v1 W hS
 refine .s (bs T.s138 z z) z (.c (.st T.t138 hS.p1 z z z ?_ z z z z z))
 intro W hS
 cases h
 exact .nil (.ret (fin_ret (vs:=[_]) v1 (rc hS T.t138 z rn z z) z (hS.to [1] z)))
theorem fes {a0 : L6Rd} {v_0_b : Hd} {g_0 : Nat} {S : Nat → Prop} {w : World} {r : Expr × Int} (h : f5k a0 = some r) (q_0_b : RV w (Old S w) (sv v_0_b) 5 1 (D.int .u8) a0.b) (hO : Owns w [.box g_0 54 [(sv v_0_b),.int .i64 a0.p]] S) (hlt : ∀ b,S b → b < w.heap.size) : Calls Tryz.prog 151 #[.pointer (some ⟨g_0,0,none⟩)] w (Ret S w (fun s : Hd=>.agg #[.int .i64 r.1.Op,.int .i64 r.1.N,(sv s)]) (fun s=>[.box g_0 54 [(sv v_0_b),.int .i64 r.2],rowV (sv s) 138 3 dExpr r.1.Args])):=by
 unfold f5k at h
 refine enter Tryz.func151 z z ?_
 have hS:=Sep.startM hO hlt
 refine .g (.c (.alloc T.t138 hS ?_ z z z))
 intro g1 W hS
 refine .nil (.seq (.g (.q z ?_)))
 have ⟨y1,hy1,h⟩:=bnd h
 have hS:=hS.p1
 refine .c (.callS2 (L0:=[.box g_0 54 [(sv v_0_b),.int .i64 a0.p]]) hS Tryz.func19 (fun S h1 h2 h3=>(f00 hy1 (hS.keepS q_0_b h1) h2 (zz h1))) z z ?_ z z z z)
 rintro ⟨⟩ W hS
 refine .nil (.block (.g (.q z (.qn z (.cond z (fun hb=>?_) (fun hb=>?_))))))
 ·have h:=sel_t hb h
  refine .g (.q z ?_)
  have ⟨y2,hy2,h⟩:=bnd h
  refine .c (.callS2 (L0:=[.box g_0 54 [(sv v_0_b),.int .i64 y1.2]]) hS Tryz.func19 (fun S h1 h2 h3=>(f00 hy2 (hS.keepS q_0_b h1) h2 (zz h1))) z z ?_ z z z z)
  rintro ⟨⟩ W hS
  have ⟨y3,hy3,h⟩:=bnd h
  refine .c (.call1v hS Tryz.func150 (f06 hy3) z z ?_ z z z z)
  intro v1 W hS
  refine .c (.st T.t138 hS.p2 z z z ?_ z z z z z)
  intro W hS
  cases h
  exact .nil (.ret (fin_ret (vs:=[_]) v1 (rc hS T.t138 z rn z z) z (hS.to [2,1] z)))
 have h:=sel_f hb h
 refine .g (.q z (.qn z (.cond z (fun hb=>?_) (fun hb=>?_))))
 ·have h:=sel_t hb h
  refine .g (.c (.liv [5,31,32,100,2047,2048,65536,99999] (D.int .i64) T.u25 T.t3 hS z z z z ?_ z (fun _=>z) z z z z))
  intro v2 W hS
  refine .q z ?_
  have ⟨y4,hy4,h⟩:=bnd h
  have hS:=hS.p1
  refine .c (.callS2 (L0:=[.box g_0 54 [(sv v_0_b),.int .i64 y1.2]]) hS Tryz.func19 (fun S h1 h2 h3=>(f00 hy4 (hS.keepS q_0_b h1) h2 (zz h1))) z z ?_ z z z z)
  rintro ⟨⟩ W hS
  have ⟨x1,hx1,h⟩:=bnd h
  refine .s (ixv hS.p1.lendv hx1 T.u25 T.t3 z z z) z (.s (lde (RV.flat hS.p1.lendv hx1 z) T.t3 z z z z z) z ?_)
  have ⟨y5,hy5,h⟩:=bnd h
  refine .c (.call1v hS Tryz.func150 (f06 hy5) z z ?_ z z z z)
  intro v3 W hS
  refine .c (.st T.t138 hS.p3 z z z ?_ z z z z z)
  intro W hS
  cases h
  exact .nil (.ret (fin_ret (vs:=[_]) v3 (rc hS T.t138 z rn z z) z (hS.to [2,1] z)))
 have h:=sel_f hb h
 refine .skip (.g (.q z ?_))
 have ⟨y6,hy6,h⟩:=bnd h
 refine .c (.callS2 (L0:=[.box g_0 54 [(sv v_0_b),.int .i64 y1.2]]) hS Tryz.func19 (fun S h1 h2 h3=>(f00 hy6 (hS.keepS q_0_b h1) h2 (zz h1))) z z ?_ z z z z)
 rintro ⟨⟩ W hS
 have ⟨y7,hy7,h⟩:=bnd h
 refine .c (.call1v hS Tryz.func150 (f06 hy7) z z ?_ z z z z)
 intro v4 W hS
 refine .c (.st T.t138 hS.p2 z z z ?_ z z z z z)
 intro W hS
 cases h
 exact .nil (.ret (fin_ret (vs:=[_]) v4 (rc hS T.t138 z rn z z) z (hS.to [2,1] z)))
def f8g (F : L6Rd → Int → Option (Expr × Int)) : Prop:=∀ {a0 : L6Rd} {a1 : Int} {v_0_b : Hd} {g_0 : Nat} {S : Nat → Prop} {w : World} {r : Expr × Int} (h : F a0 a1 = some r) (q_0_b : RV w (Old S w) (sv v_0_b) 5 1 (D.int .u8) a0.b) (hO : Owns w [.box g_0 54 [(sv v_0_b),.int .i64 a0.p]] S) (hlt : ∀ b,S b → b < w.heap.size) , Calls Tryz.prog 128 #[.pointer (some ⟨g_0,0,none⟩),.int .i64 a1] w (Ret S w (fun s : Hd=>.agg #[.int .i64 r.1.Op,.int .i64 r.1.N,(sv s)]) (fun s=>[.box g_0 54 [(sv v_0_b),.int .i64 r.2],rowV (sv s) 138 3 dExpr r.1.Args]))
end Go.Proofs.YtcljimkjmklkmaaGreat.N
