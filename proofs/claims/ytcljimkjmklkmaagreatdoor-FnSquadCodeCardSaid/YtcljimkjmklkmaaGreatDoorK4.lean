/- Plain laws: expressions and statements are drawn, they are valid, they compile to valid codes. Plain laws: valid statements compile to valid codes; codes are dr -/
import Derived.Test.YtcljimkjmklkmaaGreatDoorK3
set_option linter.unusedVariables false
set_option linter.unusedSimpArgs false
set_option maxRecDepth 100000
set_option maxHeartbeats 40000000
namespace Go.Proofs.YtcljimkjmklkmaaGreatDoor.N
open Go.Proofs.YtcljimkjmklkmaaGreatDoor.X
noncomputable section
theorem Expr.eta' (x : Expr) : Expr.mk x.Op x.N x.Args = x:=by cases x; rfl
theorem aw.eta' (x : aw) : aw.mk x.Kind x.Var x.Box (Expr.mk x.Expr.Op x.Expr.N x.Expr.Args) x.Body x.Else = x:=by rw [Expr.eta']; cases x; rfl
def EOk : Nat → Expr → Prop
 | 0,_=>False
 | d + 1,e=>(e.Op = 0 ∧ 0 ≤ e.N ∧ e.N ≤ 99999 ∧ e.Args = []) ∨ (e.Op = 13 ∧ 0 ≤ e.N ∧ e.N ≤ 3 ∧ e.Args = []) ∨ ((1 ≤ e.Op ∧ e.Op ≤ 12) ∧ e.N = 0 ∧ ∃ a b,e.Args = [a,b] ∧ EOk d a ∧ EOk d b)
theorem EOk.mono : ∀ {d d' : Nat} {e : Expr},EOk d e → d ≤ d' → EOk d' e
 | 0,_,_,h,_=>h.elim
 | d + 1,0,_,_,h=>by omega
 | d + 1,d' + 1,e,h,hd=>by
  rcases h with h | h | ⟨h1,h2,a,b,h3,h4,h5⟩
  ·exact .inl h
  ·exact .inr (.inl h)
  ·exact .inr (.inr ⟨h1,h2,a,b,h3,h4.mono (by omega),h5.mono (by omega)⟩)
theorem uK : ∀ {d k : Nat} {e : Expr} {dd : Int},EOk d e → (d : Int) ≤ dd → dd ≤ 1000 → d ≤ k → mI k e dd = some true
 | 0,_,_,_,h,_,_,_=>h.elim
 | d + 1,0,_,_,_,_,_,h=>by omega
 | d + 1,k + 1,e,dd,h,hd,hd',hk=>by
  show k8 k (mI k) e dd = _
  unfold k8
  rw [al (by simp; omega)]
  rcases h with ⟨h1,h2,h3,h4⟩ | ⟨h1,h2,h3,h4⟩ | ⟨h1,h2,a,b,h3,h4,h5⟩
  ·rw [bq (by simpa using h1),mN,h4]; simp; omega
  ·rw [al (by simp [h1]),bq (by simpa using h1),mN,h4]; simp; omega
  ·rw [al (by simp; omega),al (by simp; omega),o0,ob9,h3,bf (by omega) (by omega)]
   have e1 : nth [a,b] 0 = some a:=rfl
   have e2 : nth [a,b] 1 = some b:=rfl
   rw [bq (by simp [h1,h2]),e1]
   simp only [ob9,Expr.eta',uK (k:=k) h4 (show (d : Int) ≤ dd - 1 by omega) (by omega) (by omega)]
   rw [bq rfl,e2]
   simp only [ob9,Expr.eta',uK (k:=k) h5 (show (d : Int) ≤ dd - 1 by omega) (by omega) (by omega)]
theorem lD {k : Nat} {e : Expr} (h : EOk 5 e) (hk : 5 ≤ k) : da k e = some true:=by
 unfold da
 rw [Expr.eta',uK h (by omega) (by omega) hk]; rfl
theorem oo : ∀ {d k : Nat} {e : Expr} {at_ : Int},EOk d e → 0 ≤ at_ → at_ + d ≤ 12 → d ≤ k → Tot (dv k e at_) fun out=>out.length + 1 ≤ 2 ^ d ∧ 1 ≤ out.length ∧ ∀ q ∈ out,∀ m,QOk m q
 | 0,_,_,_,h,_,_,_=>h.elim
 | d + 1,0,_,_,_,_,_,h=>by omega
 | d + 1,k + 1,e,at_,h,h0,h12,hk=>by
  show Tot (gq k (dv k) e at_) _
  unfold gq
  have hp : 2 ≤ 2 ^ (d + 1):=by rw [Nat.pow_succ]; have:=Nat.two_pow_pos d; omega
  have hr : Rg at_:=by unfold Rg; omega
  rcases h with ⟨h1,h2,h3,h4⟩ | ⟨h1,h2,h3,h4⟩ | ⟨h1,h2,a,b,h3,h4,h5⟩
  ·refine .st (by simpa using h1) (.pure ⟨by simpa using hp,by simp,fun q hq m=>?_⟩)
   rw [List.mem_singleton.1 hq]
   exact .inl ⟨rfl,hr,rfl,rfl,by unfold Wd; simp only; omega⟩
  ·refine .sf (by simp [h1]) (.st (by simpa using h1) (.pure ⟨by simpa using hp,by simp,fun q hq m=>?_⟩))
   rw [List.mem_singleton.1 hq]
   exact .inr (.inl ⟨rfl,hr,by unfold Rg; simp only; omega,rfl,rfl⟩)
  ·refine .sf (by simp; omega) (.sf (by simp; omega) ?_)
   have e1 : nth e.Args 0 = some a:=by rw [h3]; rfl
   have e2 : nth e.Args 1 = some b:=by rw [h3]; rfl
   have hd : 1 ≤ d:=by cases d with
    | zero=>exact h4.elim
    | succ d=>omega
   rw [e1,e2]
   simp only [ob9,Expr.eta']
   rw [bf (by omega) (by omega)]
   have h256 : 2 ^ d ≤ 4096:=Nat.le_trans (Nat.pow_le_pow_right (by omega) (show d ≤ 12 by omega)) (by decide)
   refine .bind (oo (k:=k) h4 h0 (by omega) (by omega)) fun x hx=>.bind (oo (k:=k) h5 (show 0 ≤ at_ + 1 by omega) (by omega) (by omega)) fun y hy=>.bind (.app (by omega)) fun r hr'=>.bind (.app (by subst hr'; simp; omega)) fun r2 hr2=>.pure ?_
   subst hr' hr2
   refine ⟨by simp only [List.length_append,List.length_cons,List.length_nil,Nat.pow_succ]; omega,by simp only [List.length_append,List.length_cons]; omega,fun q hq m=>?_⟩
   simp only [List.mem_append,List.mem_singleton] at hq
   rcases hq with (hq | hq) | rfl
   ·exact hx.2.2 q hq m
   ·exact hy.2.2 q hq m
   ·exact .inr (.inr (.inl ⟨rfl,hr,hr,by unfold Rg; simp only; omega,by simp only; omega,by simp only; omega⟩))
def pc : Nat → Int
 | 0=>2
 | d + 1=>3 + 2 * pc d
theorem wE : ∀ d,2 ≤ pc d
 | 0=>by simp [pc]
 | d + 1=>by have:=wE d; simp only [pc]; omega
variable {b : List Int} {p m : Int}
theorem AX (hb : By b) (h0 : 0 ≤ p) (hm : p ≤ m) (hp : m ≤ 100000000) : Dr (kl ⟨b,p⟩) (m + 1) fun x=>1 ≤ x ∧ x ≤ 12:=by
 unfold kl
 refine .bind (bg hb h0 hm (by omega) (by omega) (by omega)) fun x p' hx h1 h2=>.pure ?_ h1 h2
 rw [bf (by omega) (by omega)]; omega
theorem Am (hb : By b) (h0 : 0 ≤ p) (hm : p ≤ m) (hp : m ≤ 100000000) : Dr (gV ⟨b,p⟩) (m + 2) (EOk 1):=by
 unfold gV
 refine .bind (bg hb h0 hm (by omega) (by omega) (by omega)) fun x p' hx h1 h2=>.sel (fun _=>?_) fun _=>.sel (fun _=>?_) fun _=>?_
 ·refine .bind (bg hb h1 h2 (by omega) (by omega) (by omega)) fun y p2 hy h3 h4=>.pure ?_ h3 (by omega)
  exact .inl ⟨rfl,by simp only; omega,by simp only; omega,rfl⟩
 ·refine .bind (bg hb h1 h2 (by omega) (by omega) (by omega)) fun y p2 hy h3 h4=>.tot (.nth hy.1 (by simpa using hy.2)) fun z ⟨_,hz⟩=>.pure ?_ h3 (by omega)
  refine .inl ⟨rfl,?_,?_,rfl⟩ <;> (simp at hz; simp only; omega)
 ·refine .bind (bg hb h1 h2 (by omega) (by omega) (by omega)) fun y p2 hy h3 h4=>.pure ?_ h3 (by omega)
  exact .inr (.inl ⟨rfl,by simp only; omega,by simp only; omega,rfl⟩)
theorem uL (hb : By b) : ∀ {d k : Nat} {p m depth : Int},1 ≤ depth → depth ≤ (d : Int) + 1 → (d + 1 ≤ k ∧ d ≤ 100) → 0 ≤ p → p ≤ m → m + pc d ≤ 100000000 → Dr (dT k ⟨b,p⟩ depth) (m + pc d) (EOk (d + 1))
 | d,0,_,_,_,_,_,h,_,_,_=>by omega
 | d,k + 1,p,m,depth,h1,h2,hk,h0,hm,hp=>by
  show Dr (gw k (dT k) ⟨b,p⟩ depth) _ _
  unfold gw
  have hpc:=wE d
  have leaf : ∀ {p' : Int},0 ≤ p' → p' ≤ m + pc d - 2 → Dr ((gV ⟨b,p'⟩).bind fun y2=>some (Expr.mk y2.1.Op y2.1.N y2.1.Args,y2.2)) (m + pc d) (EOk (d + 1)):=fun h0 hm=>by
   refine .bind (Am hb h0 hm (by omega)) fun x p2 hx h3 h4=>.pure ?_ h3 (by omega)
   rw [Expr.eta']
   exact hx.mono (by omega)
  by_cases hd : depth < 2
  ·refine .bind (x:=sel _ _ _) (m:=m) (P:=fun c=>c = true) (.sel (fun _=>.pure rfl h0 hm) fun h=>?_) fun c p' hc h3 h4=>.sel (fun _=>leaf h3 (by omega)) fun h=>by rw [hc] at h; cases h
   simp at h; omega
  ·obtain ⟨d,rfl⟩ : ∃ e,d = e + 1:=⟨d - 1,by omega⟩
   have hpd:=wE d
   simp only [pc] at *
   refine .bind (x:=sel _ _ _) (m:=m + 1) (P:=fun _=>True) (.sel (fun h=>?_) fun h=>.bind (bg hb h0 hm (by omega) (by omega) (by omega)) fun x p' _ h3 h4=>.pure trivial h3 h4) fun c p' _ h3 h4=>.sel (fun _=>leaf h3 (by omega)) fun _=>?_
   ·simp at h; omega
   ·rw [bf (by omega) (by omega)]
    refine .bind (AX hb h3 h4 (by omega)) fun op p2 hop h5 h6=>.bind (uL hb (k:=k) (d:=d) (by omega) (by omega) ⟨by omega,by omega⟩ h5 h6 (by omega)) fun x p3 hx h7 h8=>.bind (uL hb (k:=k) (d:=d) (by omega) (by omega) ⟨by omega,by omega⟩ h7 h8 (by omega)) fun y p4 hy h9 h10=>?_
    refine .pure ?_ h9 (by omega)
    simp only [Expr.eta']
    exact .inr (.inr ⟨hop,rfl,x,y,rfl,hx,hy⟩)
def oy (s : aw) : Prop:=s.Body = [] ∧ s.Else = [] ∧ ((s.Kind = 1 ∧ (0 ≤ s.Var ∧ s.Var ≤ 3) ∧ s.Box = 0 ∧ EOk 5 s.Expr) ∨ (s.Kind = 4 ∧ s.Var = 0 ∧ (0 ≤ s.Box ∧ s.Box ≤ 1) ∧ EOk 5 s.Expr) ∨
 (s.Kind = 5 ∧ (0 ≤ s.Var ∧ s.Var ≤ 3) ∧ (0 ≤ s.Box ∧ s.Box ≤ 1) ∧ s.Expr = ⟨0,0,[]⟩) ∨ (s.Kind = 6 ∧ s.Var = 0 ∧ s.Box = 0 ∧ s.Expr = ⟨0,0,[]⟩) ∨ (s.Kind = 7 ∧ s.Var = 0 ∧ s.Box = 0 ∧ EOk 5 s.Expr))
def SOk : Nat → aw → Prop
 | 0,s=>oy s
 | n + 1,s=>oy s ∨ ((s.Kind = 2 ∨ (s.Kind = 3 ∧ s.Else = [])) ∧ s.Var = 0 ∧ s.Box = 0 ∧ EOk 5 s.Expr ∧ (∀ x ∈ s.Body,SOk n x) ∧ ∀ x ∈ s.Else,SOk n x)
theorem SOk.of_simp {s : aw} (h : oy s) : ∀ n,SOk n s
 | 0=>h
 | _ + 1=>.inl h
mutual
def ct : aw → Nat
 | ⟨_,_,_,_,b,e⟩=>1 + cts b + cts e
def cts : List aw → Nat
 | []=>0
 | x :: r=>ct x + cts r
end
theorem ud (s : aw) : ct s = 1 + cts s.Body + cts s.Else:=by cases s; rfl
theorem uM : ∀ l m : List aw,cts (l ++ m) = cts l + cts m
 | [],m=>by simp [cts]
 | x :: l,m=>by simp only [List.cons_append,cts,uM l m]; omega
theorem ta : ∀ (l : List aw) (i : Nat) (s : aw),l[i]? = some s → cts (l.take (i + 1)) = cts (l.take i) + ct s
 | [],_,_,h=>by simp at h
 | x :: l,0,s,h=>by
  have : x = s:=by simpa using h
  subst this; simp [cts]
 | x :: l,i + 1,s,h=>by
  have:=ta l i s (by simpa using h)
  simp only [List.take_succ_cons,cts,this]; omega
theorem lh : ∀ (l : List aw) (i : Nat),cts (l.take i) ≤ cts l
 | [],_=>by simp [cts]
 | x :: l,0=>by simp [cts]
 | x :: l,i + 1=>by have:=lh l i; simp only [List.take_succ_cons,cts]; omega
theorem yX (s : aw) : 1 ≤ ct s:=by rw [ud]; omega
theorem ni : ∀ l : List aw,l.length ≤ cts l
 | []=>Nat.le_refl _
 | x :: l=>by have:=ni l; have:=yX x; simp only [List.length_cons,cts]; omega
theorem SOk.body {n : Nat} {s : aw} (h : SOk n s) : (∀ x ∈ s.Body,SOk (n - 1) x) ∧ (∀ x ∈ s.Else,SOk (n - 1) x) ∧ (n = 0 → s.Body = [] ∧ s.Else = []):=by
 cases n with
 | zero=>exact ⟨by rw [h.1]; simp,by rw [h.2.1]; simp,fun _=>⟨h.1,h.2.1⟩⟩
 | succ n =>
  rcases h with h | h
  ·exact ⟨by rw [h.1]; simp,by rw [h.2.1]; simp,fun h=>by omega⟩
  ·exact ⟨h.2.2.2.2.1,h.2.2.2.2.2,fun h=>by omega⟩
theorem xP {k : Nat} (hk : 1 ≤ k) : dt k [] = some 0:=by
 obtain ⟨k,rfl⟩ : ∃ j,k = j + 1:=⟨k - 1,by omega⟩
 show dJ k (dt k) [] = _
 unfold dJ
 rw [cw]
 unfold gS
 rfl
theorem qm : ∀ {n k : Nat} {l : List aw},n + 2 ≤ k → (∀ x ∈ l,SOk n x) → cts l ≤ 1000000 → Tot (dt k l) fun r=>r = (cts l : Int)
 | n,0,_,h,_,_=>by omega
 | n,k + 1,l,hk,hl,hc=>by
  show Tot (dJ k (dt k) l) _
  unfold dJ
  have hlen:=ni l
  refine .bind (P:=fun r=>r = (cts l : Int)) (.iter (fun s=>0 ≤ s.2 ∧ s.2 ≤ (l.length : Int) ∧ s.1 = (cts (l.take s.2.toNat) : Int)) (fun s=>((l.length : Int) - s.2).toNat) ⟨by simp,by simp,by simp [cts]⟩ fun s hs=>?_) fun r hr=>.pure hr
  obtain ⟨c,i⟩:=s
  obtain ⟨g0,g1,g2⟩:=hs
  simp only at g0 g1 g2
  unfold gS
  refine .sel (fun hlt=>?_) fun hge=>.inr (show c = _ from ?_)
  ·simp only [decide_eq_true_eq] at hlt
   refine .bind (.nth g0 hlt) fun x ⟨hx,hxm⟩=>.bind (.nth g0 hlt) fun x' ⟨hx',_⟩=>?_
   obtain rfl : x = x':=o9 (hx.symm.trans hx')
   have h1:=ta l i.toNat x hx
   have h2:=lh l (i.toNat + 1)
   have h3:=ud x
   have hb:=(hl x hxm).body
   have sub : ∀ bl,(∀ y ∈ bl,SOk (n - 1) y) → (n = 0 → bl = []) → cts bl ≤ 1000000 → Tot (dt k bl) fun r=>r = (cts bl : Int):=fun bl hbl hn hcb=>by
    cases n with
    | zero=>rw [hn rfl,xP (by omega)]; exact .pure rfl
    | succ n=>exact qm (by omega) hbl hcb
   refine .bind (sub x.Body hb.1 (fun h=>(hb.2.2 h).1) (by omega)) fun y hy=>.bind (sub x.Else hb.2.1 (fun h=>(hb.2.2 h).2) (by omega)) fun z hz=>.inl ?_
   subst hy hz
   rw [bf (i:=c + 1) (by omega) (by omega),bf (i:=c + 1 + _) (by omega) (by omega),bf (by omega) (by omega),bI g0 (by omega)]
   refine ⟨⟨by simp only; omega,by simp only; omega,?_⟩,by simp only; omega⟩
   simp only
   rw [show (i + 1).toNat = i.toNat + 1 by omega,h1,h3,g2]; omega
  ·simp only [decide_eq_false_iff_not] at hge
   rw [g2,List.take_of_length_le (by omega)]
def tc : Nat → Int
 | 0=>60
 | n + 1=>60 + 4 * tc n
def sc : Nat → Nat
 | 0=>2
 | n + 1=>3 + 4 * sc n
theorem qo : ∀ n,60 ≤ tc n
 | 0=>by simp [tc]
 | n + 1=>by have:=qo n; simp only [tc]; omega
theorem yY : ∀ n,2 ≤ sc n
 | 0=>by simp [sc]
 | n + 1=>by have:=yY n; simp only [sc]; omega
theorem pH (hb : By b) {k : Nat} {depth : Int} (h1 : 1 ≤ depth) (h2 : depth ≤ 3) (hk : 3 ≤ k) (h0 : 0 ≤ p) (hm : p ≤ m) (hp : m ≤ 90000000) : Dr (dT k ⟨b,p⟩ depth) (m + 17) (EOk 5):=
 (uL hb (d:=2) h1 (by omega) ⟨hk,by omega⟩ h0 hm (by simp only [pc]; omega)).mono (by simp only [pc]; omega) fun e h=>h.mono (by omega)
theorem yZ (hb : By b) {k : Nat} (hk : 3 ≤ k) (h0 : 0 ≤ p) (hm : p ≤ m) (hp : m ≤ 80000000) : Dr (js k ⟨b,p⟩) (m + 19) oy:=by
 unfold js
 refine .bind (bg hb h0 hm (by omega) (by omega) (by omega)) fun v p1 hv h1 h2=>.bind (bg hb h1 h2 (by omega) (by omega) (by omega)) fun x p2 hx h3 h4=>?_
 rw [bf (by omega) (by omega)]
 refine .bind (pH hb (by omega) (by omega) hk h3 h4 (by omega)) fun e p3 he h5 h6=>.pure ?_ h5 (by omega)
 rw [Expr.eta']
 exact ⟨rfl,rfl,.inl ⟨rfl,⟨hv.1,by simp only; omega⟩,rfl,he⟩⟩
theorem An (hb : By b) {k : Nat} {nb : Int} (hn : nb ≤ 2) (hk : 3 ≤ k) (h0 : 0 ≤ p) (hm : p ≤ m) (hp : m ≤ 80000000) : Dr (jC k ⟨b,p⟩ nb) (m + 20) oy:=by
 unfold jC
 refine .sel (fun _=>.bind (yZ hb hk h0 hm hp) fun s p' hs h1 h2=>.pure (by rw [aw.eta']; exact hs) h1 (by omega)) fun h=>?_
 simp only [decide_eq_false_iff_not] at h
 refine .bind (bg hb h0 hm (by omega) (by omega) (by omega)) fun v p1 hv h1 h2=>.bind (bg hb h1 h2 (by omega) (by omega) (by omega)) fun x p2 hx h3 h4=>.sel (fun _=>?_) fun _=>?_
 ·refine .bind (bg hb h3 h4 (by omega) (by omega) (by omega)) fun y p3 hy h5 h6=>?_
  rw [bf (by omega) (by omega)]
  refine .bind (pH hb (by omega) (by omega) hk h5 h6 (by omega)) fun e p4 he h7 h8=>.pure ?_ h7 (by omega)
  rw [Expr.eta']
  exact ⟨rfl,rfl,.inr (.inl ⟨rfl,rfl,⟨hv.1,by simp only; omega⟩,he⟩)⟩
 ·refine .bind (bg hb h3 h4 (by omega) (by omega) (by omega)) fun y p3 hy h5 h6=>.pure ?_ h5 (by omega)
  exact ⟨rfl,rfl,.inr (.inr (.inl ⟨rfl,⟨hy.1,by simp only; omega⟩,⟨hv.1,by simp only; omega⟩,rfl⟩))⟩
def eY (n : Nat) (c : Nat) (l : List aw) : Prop:=(∀ x ∈ l,SOk n x) ∧ cts l ≤ c
def xQ (b : List Int) (nb : Int) (n : Nat) : Prop:=∀ (k : Nat) {p m w : Int} {loops : Bool},3 * n + 8 ≤ k → 0 ≤ p → p ≤ m → 0 ≤ w → w ≤ 10 → m + w * tc n ≤ 50000000 → Dr (dw k ⟨b,p⟩ nb n w loops) (m + w * tc n) (eY n (w.toNat * sc n))
theorem xQ.two {nb : Int} {n : Nat} (h : xQ b nb n) (k : Nat) {w : Int} {loops : Bool} (hk : 3 * n + 8 ≤ k) (h0 : 0 ≤ p) (hm : p ≤ m) (w0 : 0 ≤ w) (w2 : w ≤ 2) (hb : m + 2 * tc n ≤ 50000000) : Dr (dw k ⟨b,p⟩ nb n w loops) (m + 2 * tc n) (eY n (2 * sc n)):=by
 have h1 : w * tc n ≤ 2 * tc n:=Int.mul_le_mul_of_nonneg_right w2 (by have:=qo n; omega)
 have h2 : w.toNat * sc n ≤ 2 * sc n:=Nat.mul_le_mul_right _ (by omega)
 exact (h k hk h0 hm w0 (by omega) (by omega)).mono (by omega) fun l hl=>⟨hl.1,Nat.le_trans hl.2 h2⟩
theorem nj {n : Nat} {s : aw} (h : oy s) : eY n (sc n) [s] ∧ [s].length ≤ 2:=by
 have h1 : ct s = 1:=by rw [ud,h.1,h.2.1]; rfl
 have h2:=yY n
 refine ⟨⟨fun x hx=>?_,by simp only [cts,h1]; omega⟩,by simp⟩
 rw [List.mem_singleton.1 hx]
 exact .of_simp h n
theorem Ao (hb : By b) {nb : Int} (hnb : nb ≤ 2) {n k : Nat} (hk : 3 * n + 7 ≤ k) (ih : ∀ e,n = e + 1 → xQ b nb e) {loops : Bool} (h0 : 0 ≤ p) (hm : p ≤ m) (hn : n ≤ 3) (hp : m + tc n ≤ 50000000) : Dr (gW k ⟨b,p⟩ nb n loops) (m + tc n) (fun l=>eY n (sc n) l ∧ l.length ≤ 2):=by
 obtain ⟨k,rfl⟩ : ∃ j,k = j + 1:=⟨k - 1,by omega⟩
 show Dr (gy k (dw k) (gW k) (lR k) (jE k) ⟨b,p⟩ nb n loops) _ _
 have htc:=qo n
 unfold gy
 refine .tot (P:=fun z=>match z with | .inl q=>0 ≤ q ∧ q ≤ m + 1 | .inr r=>0 ≤ r.2 ∧ r.2 ≤ m + tc n ∧ eY n (sc n) r.1 ∧ r.1.length ≤ 2) ?_ fun z hz=>?_
 ·refine .bind (bg hb h0 hm (by omega) (by omega) (by omega)) fun y hy=>.bind (P:=fun _=>True) (.sel (fun _=>.pure trivial) fun _=>.pure trivial) fun _ _=>.sel (fun _=>.bind (yZ hb (by omega) hy.1 hy.2.1 (by omega)) fun r hr=>.inr ⟨hr.1,by have:=hr.2.1; simp only; omega,?_⟩) fun _=>.sel (fun _=>.sel (fun hpos=>?_) fun _=>.inl ⟨hy.1,hy.2.1⟩) fun _=>.sel (fun _=>.sel (fun hpos=>?_) fun _=>.inl ⟨hy.1,hy.2.1⟩) fun _ =>
   .bind (P:=fun _=>True) (.sel (fun _=>.pure trivial) fun _=>.sel (fun _=>.pure trivial) fun _=>.pure trivial) fun _ _=>.sel (fun _=>.bind (An hb hnb (by omega) hy.1 hy.2.1 (by omega)) fun r hr=>.inr ⟨hr.1,by have:=hr.2.1; simp only; omega,?_⟩) fun _=>.sel (fun _=>.inr ⟨hy.1,by have:=hy.2.1; simp only; omega,?_⟩) fun _=>.inl ⟨hy.1,hy.2.1⟩
  ·rw [aw.eta']; exact nj hr.2.2
  ·-- an if
   simp only [decide_eq_true_eq] at hpos
   obtain ⟨n,rfl⟩ : ∃ e,n = e + 1:=⟨n - 1,by omega⟩
   have hB:=ih n rfl
   have ht:=qo n
   obtain ⟨k,rfl⟩ : ∃ j,k = j + 1:=⟨k - 1,by omega⟩
   simp only [tc] at htc hp ⊢
   refine .bind (P:=fun r=>0 ≤ r.2 ∧ r.2 ≤ m + (60 + 4 * tc n) ∧ SOk (n + 1) r.1 ∧ ct r.1 ≤ 1 + 4 * sc n) ?_ fun r hr=>.inr ⟨hr.1,hr.2.1,⟨fun x hx=>?_,?_⟩,by simp⟩
   ·show Tot (jD k (dw k) (gW k) (lR k) (jE k) ⟨b,y.2⟩ nb ((n + 1 : Nat) : Int) loops) _
    unfold jD
    rw [bf (i:=((n + 1 : Nat) : Int) - 1) (by omega) (by omega),show ((n + 1 : Nat) : Int) - 1 = n by omega]
    refine .bind (bg hb hy.1 hy.2.1 (by omega) (by omega) (by omega)) fun y1 h1=>?_
    rw [bf (i:=1 + y1.1) (by have:=h1.2.2; omega) (by have:=h1.2.2; omega)]
    refine .bind (pH hb (by have:=h1.2.2; omega) (by have:=h1.2.2; omega) (by omega) h1.1 h1.2.1 (by omega)) fun y2 h2=>.bind (bg hb h2.1 h2.2.1 (by omega) (by omega) (by omega)) fun y3 h3=>.bind (hB.two k (by omega) h3.1 h3.2.1 h3.2.2.1 (by have:=h3.2.2.2; omega) (by omega)) fun y4 h4=>.bind (bg hb h4.1 h4.2.1 (by omega) (by omega) (by omega)) fun y5 h5=>.bind (hB.two k (by omega) h5.1 h5.2.1 h5.2.2.1 (by have:=h5.2.2.2; omega) (by omega)) fun y6 h6=>.pure ⟨h6.1,by have:=h6.2.1; simp only; omega,?_,?_⟩
    ·rw [Expr.eta']
     exact .inr ⟨.inl rfl,rfl,rfl,h2.2.2,h4.2.2.1,h6.2.2.1⟩
    ·rw [ud]; have:=h4.2.2.2; have:=h6.2.2.2; simp only; omega
   ·rw [List.mem_singleton.1 hx,aw.eta']; exact hr.2.2.1
   ·simp only [cts,aw.eta',sc]; have:=hr.2.2.2; omega
  ·-- a loop
   simp only [Bool.and_eq_true,decide_eq_true_eq] at hpos
   obtain ⟨n,rfl⟩ : ∃ e,n = e + 1:=⟨n - 1,by omega⟩
   have hB:=ih n rfl
   have ht:=qo n
   obtain ⟨k,rfl⟩ : ∃ j,k = j + 1:=⟨k - 1,by omega⟩
   simp only [tc] at htc hp ⊢
   refine .bind (P:=fun r=>0 ≤ r.2 ∧ r.2 ≤ m + (60 + 4 * tc n) ∧ eY (n + 1) (sc (n + 1)) r.1 ∧ r.1.length ≤ 2) ?_ fun r hr=>.inr hr
   show Tot (gz k (dw k) (gW k) (lR k) (jE k) ⟨b,y.2⟩ nb ((n + 1 : Nat) : Int)) _
   unfold gz
   rw [bf (i:=((n + 1 : Nat) : Int) - 1) (by omega) (by omega),show ((n + 1 : Nat) : Int) - 1 = n by omega]
   refine .bind (bg hb hy.1 hy.2.1 (by omega) (by omega) (by omega)) fun y1 h1=>.bind (hB.two k (by omega) h1.1 h1.2.1 h1.2.2.1 (by have:=h1.2.2.2; omega) (by omega)) fun y2 h2=>?_
   simp only [dC,jr,ob9]
   refine .bind (bg hb h2.1 h2.2.1 (by omega) (by omega) (by omega)) fun y7 h7=>?_
   rw [bf (i:=1 + y7.1) (by have:=h7.2.2; omega) (by have:=h7.2.2; omega)]
   have hlen:=ni y2.1
   have hct:=h2.2.2.2
   have hsc : sc n ≤ 10000:=by
    rcases (show n = 0 ∨ n = 1 ∨ n = 2 by omega) with rfl | rfl | rfl <;> decide
   refine .bind (.app (by simp only [List.length_cons,List.length_nil]; omega)) fun r hr=>.pure ⟨h7.1,by have:=h7.2.1; simp only; omega,?_⟩
   subst hr
   have e13 : EOk 4 ⟨13,3,[]⟩:=.inr (.inl ⟨rfl,by simp,by simp,rfl⟩)
   have e0 : ∀ v,0 ≤ v → v ≤ 99999 → EOk 4 ⟨0,v,[]⟩:=fun v h1 h2=>.inl ⟨rfl,h1,h2,rfl⟩
   have s1 : oy (aw.mk 1 3 0 (Expr.mk 8 0 [⟨13,3,[]⟩,⟨0,1,[]⟩]) [] []):=⟨rfl,rfl,.inl ⟨rfl,⟨by simp,by simp⟩,rfl,.inr (.inr ⟨⟨by simp,by simp⟩,rfl,_,_,rfl,e13,e0 1 (by omega) (by omega)⟩)⟩⟩
   have s2 : oy (aw.mk 1 3 0 (Expr.mk 0 0 []) [] []):=⟨rfl,rfl,.inl ⟨rfl,⟨by simp,by simp⟩,rfl,(e0 0 (by omega) (by omega)).mono (by omega)⟩⟩
   have h77 : 0 ≤ y7.1 ∧ y7.1 < 3:=h7.2.2
   refine ⟨⟨fun x hx=>?_,?_⟩,by simp⟩
   ·simp only [List.mem_cons,List.not_mem_nil,or_false] at hx
    rcases hx with rfl | rfl
    ·exact .of_simp s2 _
    ·refine .inr ⟨.inr ⟨rfl,rfl⟩,rfl,rfl,.inr (.inr ⟨⟨by simp,by simp⟩,rfl,_,_,rfl,e13,e0 (1 + y7.1) (by omega) (by omega)⟩),fun x hx=>?_,by simp⟩
     simp only [List.mem_append,List.mem_singleton] at hx
     rcases hx with hx | rfl
     ·exact h2.2.2.1 x hx
     ·exact .of_simp s1 _
   ·simp only [cts,ct,uM,sc]; omega
  ·rw [aw.eta']; exact nj hr.2.2
  ·exact nj ⟨rfl,rfl,.inr (.inr (.inr (.inl ⟨rfl,rfl,rfl,rfl⟩)))⟩
 ·refine .both (fun q e=>?_) fun r e=>?_
  ·subst e
   obtain ⟨g0,g1⟩ : 0 ≤ q ∧ q ≤ m + 1:=hz
   refine .bind (bg hb g0 g1 (by omega) (by omega) (by omega)) fun x p2 hx h3 h4=>?_
   dsimp only
   rw [bf (i:=1 + x) (by omega) (by omega)]
   refine .bind (pH hb (depth:=1 + x) (by omega) (by omega) (by omega) h3 h4 (by omega)) fun e p3 he h5 h6=>.pure ?_ h5 (by omega)
   rw [Expr.eta']
   exact nj ⟨rfl,rfl,.inr (.inr (.inr (.inr ⟨rfl,rfl,rfl,he⟩)))⟩
  ·subst e; obtain ⟨r1,r2⟩:=r; exact .pure hz.2.2 hz.1 hz.2.1
theorem y0 (hb : By b) {nb : Int} (hnb : nb ≤ 2) : ∀ n,n ≤ 3 → xQ b nb n:=by
 intro n
 induction n with
 | zero=>intro _; exact blk 0 (by omega) fun e h=>by omega
 | succ n ih=>intro hn; exact blk (n + 1) hn fun e h=>(by omega : e = n) ▸ ih (by omega)
where
 blk (n : Nat) (hn : n ≤ 3) (ih : ∀ e,n = e + 1 → xQ b nb e) : xQ b nb n:=by
  intro k p m w loops hk h0 hm w0 w10 hp
  obtain ⟨k,rfl⟩ : ∃ j,k = j + 1:=⟨k - 1,by omega⟩
  show Dr (fQ k (dw k) (gW k) (lR k) (jE k) ⟨b,p⟩ nb n w loops) _ _
  unfold fQ
  have htc:=qo n
  have hsc : sc n ≤ 10000:=by
   rcases (show n = 0 ∨ n = 1 ∨ n = 2 ∨ n = 3 by omega) with rfl | rfl | rfl | rfl <;> decide
  refine .tot (P:=fun r=>0 ≤ r.2 ∧ r.2 ≤ m + w * tc n ∧ eY n (w.toNat * sc n) r.1) (.iter (fun s=>0 ≤ s.2.1 ∧ s.2.1 ≤ w ∧ 0 ≤ s.2.2 ∧ s.2.2 ≤ m + s.2.1 * tc n ∧ eY n (s.2.1.toNat * sc n) s.1) (fun s=>(w - s.2.1).toNat) ⟨by simp,by simpa using w0,h0,by simp only; omega,by simp [eY,cts]⟩ fun s hs=>?_) fun r hr=>.pure hr.2.2 hr.1 hr.2.1
  obtain ⟨l,i,q⟩:=s
  obtain ⟨g0,g1,g2,g3,g4⟩:=hs
  simp only at g0 g1 g2 g3 g4
  unfold km
  refine .sel (fun hlt=>?_) fun hge=>.inr (show 0 ≤ q ∧ q ≤ m + w * tc n ∧ eY n (w.toNat * sc n) l from ?_)
  ·simp only [decide_eq_true_eq] at hlt
   have e1 : (i + 1) * tc n = i * tc n + tc n:=by rw [Int.add_mul,Int.one_mul]
   have e2 : (i + 1) * tc n ≤ w * tc n:=Int.mul_le_mul_of_nonneg_right (by omega) (by omega)
   refine .bind (Ao hb hnb (by omega) ih g2 g3 hn (by omega)) fun y hy=>?_
   have hll:=ni l
   have hil : i.toNat * sc n ≤ 10 * sc n:=Nat.mul_le_mul_right _ (by omega)
   have hb4:=g4.2
   have hy22 : eY n (sc n) y.1 ∧ y.1.length ≤ 2:=hy.2.2
   refine .bind (.app (l:=l) (by have:=hy22.2; omega)) fun r hr=>.inl ?_
   subst hr
   rw [bI g0 (by omega)]
   refine ⟨⟨by simp only; omega,by simp only; omega,hy.1,by have:=hy.2.1; simp only; omega,fun x hx=>?_,?_⟩,by simp only; omega⟩
   ·simp only [List.mem_append] at hx
    exact hx.elim (g4.1 x) (hy.2.2.1.1 x)
   ·simp only
    rw [uM,show (i + 1).toNat = i.toNat + 1 by omega,Nat.add_mul,Nat.one_mul]
    have:=hy.2.2.1.2
    omega
  ·simp only [decide_eq_false_iff_not] at hge
   obtain rfl : i = w:=by omega
   exact ⟨g2,g3,g4⟩
theorem za (hb : By b) {nb : Int} (hnb : nb ≤ 2) {k : Nat} (hk : 20 ≤ k) (h0 : 0 ≤ p) (hm : p ≤ m) (hp : m ≤ 1000000) : Dr (iE k ⟨b,p⟩ nb) (m + 40000) (eY 3 16):=by
 unfold iE
 refine .bind (bg hb h0 hm (by omega) (by omega) (by omega)) fun v p1 hv h1 h2=>?_
 dsimp only
 rw [bf (by omega) (by omega)]
 have e1 : (1 + v) * tc 3 ≤ 6 * tc 3:=Int.mul_le_mul_of_nonneg_right (by omega) (by decide)
 have e2 : (6 : Int) * tc 3 = 30600:=by decide
 have e5 : m + 1 + (1 + v) * tc 3 ≤ 50000000:=by omega
 refine .bind (y0 hb hnb 3 (by omega) k (by omega) h1 h2 (by omega) (by omega) e5) fun l p2 hl h3 h4=>?_
 have e3 : (1 + v).toNat * sc 3 ≤ 6 * sc 3:=Nat.mul_le_mul_right _ (by omega)
 have e4 : 6 * sc 3 = 1146:=by decide
 dsimp only
 have hl2:=hl.2
 refine .tot (P:=eY 3 16) (.iter (fun s=>eY 3 1146 s) List.length ⟨hl.1,by omega⟩ fun s hs=>?_) fun r hr=>.pure hr h3 (by omega)
 unfold ko
 refine .bind (qm (n:=3) (by omega) hs.1 (by have:=hs.2; omega)) fun c hc=>.sel (fun h=>?_) fun h=>.inr ?_
 ·simp only [decide_eq_true_eq] at h
  have hne : 1 ≤ s.length:=by
   rcases Nat.eq_zero_or_pos s.length with h0 | h0
   ·have : s = []:=List.eq_nil_of_length_eq_zero h0
    subst this; simp [cts] at hc; omega
   ·exact h0
  have hlen:=ni s
  have h1146:=hs.2
  rw [bf (by omega) (by omega)]
  refine .bind (.cut (by omega)) fun r hr=>.inl ?_
  subst hr
  simp only [Int.toNat_zero,List.drop_zero]
  exact ⟨⟨fun x hx=>hs.1 x (List.mem_of_mem_take hx),Nat.le_trans (lh _ _) hs.2⟩,by rw [List.length_take]; omega⟩
 ·simp only [decide_eq_false_iff_not] at h
  exact ⟨hs.1,by omega⟩
end
noncomputable section
variable {b : List Int} {p m : Int}
theorem wF : ∀ {l : List aw} {x : aw},x ∈ l → ct x ≤ cts l
 | [],_,h=>by simp at h
 | y :: l,x,h=>by
  simp only [cts]
  rcases List.mem_cons.1 h with rfl | h
  ·omega
  ·have:=wF h; omega
theorem zd (s : aw) (u : Bool) : eD s u = some (if u then decide (0 ≤ s.Var) && decide (s.Var ≤ 3) else s.Var == 0):=by cases u <;> rfl
theorem ze (s : aw) (u : Bool) : eE s u = some (if u then decide (0 ≤ s.Box) && decide (s.Box ≤ 2) else s.Box == 0):=by cases u <;> rfl
theorem xR {k : Nat} (hk : 5 ≤ k) {s : aw} (h : oy s) : fg k s = some true:=by
 obtain ⟨h1,h2,h3⟩:=h
 unfold fg
 simp only [aw.eta',Expr.eta',zd,ze,h1,h2]
 rw [al (by simp)]
 rcases h3 with ⟨a1,a2,a3,a4⟩ | ⟨a1,a2,a3,a4⟩ | ⟨a1,a2,a3,a4⟩ | ⟨a1,a2,a3,a4⟩ | ⟨a1,a2,a3,a4⟩
 ·rw [bq (by simp [a1])]; simp [a2.1,a2.2,a3,lD a4 hk,sel]
 ·rw [al (by simp [a1]),bq (by simp [a1])]; simp [a2,a3.1,show s.Box ≤ 2 by omega,lD a4 hk,sel]
 ·rw [al (by simp [a1]),al (by simp [a1]),bq (by simp [a1])]; simp [a2.1,a2.2,a3.1,show s.Box ≤ 2 by omega,a4,fW,sel]
 ·rw [al (by simp [a1]),al (by simp [a1]),al (by simp [a1]),bq (by simp [a1])]; simp [a2,a3,a4,fW,sel]
 ·rw [al (by simp [a1]),al (by simp [a1]),al (by simp [a1]),al (by simp [a1]),bq (by simp [a1])]; simp [a2,a3,lD a4 hk,sel]
theorem oy.kind {s : aw} (h : oy s) : s.Kind ≠ 2 ∧ s.Kind ≠ 3:=by
 obtain ⟨_,_,h⟩:=h
 rcases h with h | h | h | h | h <;> (have:=h.1; omega)
theorem xS : ∀ (n : Nat) {k : Nat} {l : List aw},2 * n + 8 ≤ k → n ≤ 3 → (∀ x ∈ l,SOk n x) → cts l ≤ 1000000 → cP k l n = some true:=by
 intro n
 induction n with
 | zero=>exact fun hk hn hl hc=>key 0 (fun h=>by omega) hk hn hl hc
 | succ n ih=>exact fun hk hn hl hc=>key (n + 1) (fun _ {k l} h1 h2 h3=>by have:=ih (k:=k) (l:=l) h1 (by omega) h2 h3; simpa using this) hk hn hl hc
where
 key (n : Nat) (ih : 1 ≤ n → ∀ {k : Nat} {l : List aw},2 * (n - 1) + 8 ≤ k → (∀ x ∈ l,SOk (n - 1) x) → cts l ≤ 1000000 → cP k l ((n - 1 : Nat) : Int) = some true) {k : Nat} {l : List aw} (hk : 2 * n + 8 ≤ k) (hn : n ≤ 3) (hl : ∀ x ∈ l,SOk n x) (hc : cts l ≤ 1000000) : cP k l n = some true:=by
  obtain ⟨k,rfl⟩ : ∃ j,k = j + 2:=⟨k - 2,by omega⟩
  refine Tot.eq ?_
  show Tot (fh (k + 1) (cP (k + 1)) (oY (k + 1)) l n) _
  unfold fh
  have hlen:=ni l
  refine .bind (P:=fun z=>z = .inr ()) (.iter (fun i : Int=>0 ≤ i ∧ i ≤ l.length) (fun i=>(l.length - i).toNat) ⟨by omega,by omega⟩ fun i ⟨g0,g1⟩=>?_) fun z hz=>by subst hz; exact .pure rfl
  unfold jz
  refine .sel (fun h=>?_) fun _=>.inr rfl
  simp only [decide_eq_true_eq] at h
  refine .bind (.nth g0 h) fun x ⟨_,hm⟩=>?_
  rw [aw.eta']
  refine .bind (P:=fun y=>y = true) ?_ fun y hy=>.sf (by rw [hy]; rfl) (.inl ?_)
  ·have hx:=hl x hm
   have hcx:=wF hm
   have hce:=ud x
   show Tot (jA k (cP k) (oY k) x n) _
   unfold jA
   simp only [aw.eta',Expr.eta',zd,ze]
   have simp_case : oy x → Tot (sel (x.Kind != 2 && x.Kind != 3) ((fg k x).bind fun y1=>some y1) (sel (decide ((n : Int) < 1) || (x.Kind == 3 && decide ((x.Else.length : Int) > 0))) (some false) ((some (if false = true then decide (0 ≤ x.Var) && decide (x.Var ≤ 3) else x.Var == 0)).bind fun y2=>(sel y2 ((some (if false = true then decide (0 ≤ x.Box) && decide (x.Box ≤ 2) else x.Box == 0)).bind fun y3=>some y3) (some false)).bind fun b1=>(sel b1 ((da k x.Expr).bind fun y4=>some y4) (some false)).bind fun b2=>(sel b2 ((cP k x.Body (w64 ((n : Int) - 1))).bind fun y5=>some y5) (some false)).bind fun b3=>(sel b3 ((cP k x.Else (w64 ((n : Int) - 1))).bind fun y6=>some y6) (some false)).bind fun b4=>some b4))) (fun y=>y = true):=fun hs=>by
    refine .st (by have:=hs.kind; simp [this.1,this.2]) ?_
    rw [xR (by omega) hs]; exact .pure rfl
   cases n with
   | zero=>exact simp_case hx
   | succ n =>
    rcases hx with hx | ⟨hkd,hv,hb,he,hbd,hel⟩
    ·exact simp_case hx
    ·refine .sf (by rcases hkd with h | h <;> simp [h]) (.sf (by rcases hkd with h | h <;> simp [h] <;> omega) ?_)
     rw [bf (by omega) (by omega),show ((n + 1 : Nat) : Int) - 1 = ((n + 1 - 1 : Nat) : Int) by omega]
     have i1:=ih (by omega) (k:=k) (l:=x.Body) (by omega) hbd (by omega)
     have i2:=ih (by omega) (k:=k) (l:=x.Else) (by omega) hel (by omega)
     simp only [i1,i2,lD he (show 5 ≤ k by omega),hv,hb]
     exact .pure rfl
  ·rw [bI g0 (by omega)]
   exact ⟨⟨by omega,by omega⟩,by omega⟩
theorem tP {k : Nat} (hk : 20 ≤ k) {l : List aw} (h : eY 3 16 l) : fO k l = some true:=by
 unfold fO
 have h2:=h.2
 have h1:=xS 3 (k:=k) (by omega) (by omega) h.1 (by omega)
 rw [show ((3 : Nat) : Int) = 3 from rfl] at h1
 rw [h1,ob9,bq rfl,(qm (n:=3) (k:=k) (by omega) h.1 (by omega)).eq]
 simp; omega
def Cq (hi : Int) (out : List aj) : Prop:=∀ q ∈ out,QOk (hi + 1) q
theorem Cq.mono {hi hi' : Int} {out : List aj} (h : Cq hi out) (hh : hi ≤ hi') : Cq hi' out:=fun q hq=>(h q hq).mono (by omega)
theorem Cq.app {hi : Int} {out out' : List aj} (h : Cq hi out) (h' : Cq hi out') : Cq hi (out ++ out'):=fun q hq=>(List.mem_append.1 hq).elim (h q) (h' q)
theorem Cq.one {hi : Int} {q : aj} (h : QOk (hi + 1) q) : Cq hi [q]:=fun q' hq=>by rw [List.mem_singleton.1 hq]; exact h
theorem wG {k : Nat} {e : Expr} (h : EOk 5 e) (hk : 5 ≤ k) : Tot (dv k e 4) fun out=>out.length ≤ 31 ∧ 1 ≤ out.length ∧ ∀ hi,Cq hi out:=
 (oo h (by omega) (by omega) hk).mono fun out ho=>⟨by have:=ho.1; omega,ho.2.1,fun hi q hq=>ho.2.2 q hq _⟩
theorem Bw {k : Nat} (hk : 1 ≤ k) : Tot (dv k ⟨0,0,[]⟩ 4) fun out=>out.length ≤ 31 ∧ 1 ≤ out.length ∧ ∀ hi,Cq hi out:=
 (oo (d:=1) (.inl ⟨rfl,by simp,by simp,rfl⟩) (by omega) (by omega) hk).mono fun out ho=>⟨by have:=ho.1; omega,ho.2.1,fun hi q hq=>ho.2.2 q hq _⟩
def uN (base : Int) (c : Nat) (out : List aj) : Prop:=out.length ≤ 33 * c ∧ Cq (base + out.length) out
def xh (n : Nat) : Prop:=∀ {k : Nat} {l : List aw} {base : Int},3 * n + 8 ≤ k → (∀ x ∈ l,SOk n x) → 0 ≤ base → base + 33 * cts l ≤ 100000 → Tot (eG k l base) (uN base (cts l))
theorem xT {n k : Nat} (ih : ∀ e, n = e + 1 → xh e) {x : aw} (hx : SOk n x) {base : Int} (hk : 3 * n + 7 ≤ k) (h0 : 0 ≤ base) (h1 : base + 33 * ct x ≤ 100000) : Tot (gU k x base) (uN base (ct x)) := by
  obtain ⟨k, rfl⟩ : ∃ j, k = j + 1 := ⟨k - 1, by omega⟩
  show Tot (gv k (eG k) (gU k) (lQ k) (iC k) x base) _
  have hce := ud x
  have r4 : Rg 4 := by unfold Rg; omega
  have hexp : EOk 5 x.Expr ∨ x.Expr = ⟨0, 0, []⟩ := by
    have hs : oy x → EOk 5 x.Expr ∨ x.Expr = ⟨0, 0, []⟩ := fun h => by
      rcases h.2.2 with h | h | h | h | h
      · exact .inl h.2.2.2
      · exact .inl h.2.2.2
      · exact .inr h.2.2.2
      · exact .inr h.2.2.2
      · exact .inl h.2.2.2
    cases n with
    | zero => exact hs hx
    | succ n => rcases hx with h | h
                · exact hs h
                · exact .inl h.2.2.2.1
  have he : ∀ {k}, 5 ≤ k → Tot (dv k x.Expr 4) fun out => out.length ≤ 31 ∧ 1 ≤ out.length ∧ ∀ hi, Cq hi out := fun hk => hexp.elim (fun h => wG h hk) fun h => by rw [h]; exact Bw (by omega)
  unfold gv
  simp only [aw.eta', Expr.eta']
  refine .bind (he (by omega)) fun ex hex => .sel (fun hkd => ?_) fun h2 => .sel (fun hkd => ?_) fun h3 => ?_
  · -- an if
    simp only [beq_iff_eq] at hkd
    have hns : ¬ oy x := fun h => h.kind.1 hkd
    obtain ⟨n, rfl⟩ : ∃ e, n = e + 1 := ⟨n - 1, by cases n with | zero => exact absurd hx hns | succ n => omega⟩
    obtain ⟨_, _, _, hee, hbd, hel⟩ := hx.resolve_left hns
    obtain ⟨k, rfl⟩ : ∃ j, k = j + 1 := ⟨k - 1, by omega⟩
    refine .bind (P := uN base (ct x)) ?_ fun r hr => .pure hr
    show Tot (jB k (eG k) (gU k) (lQ k) (iC k) x base) _
    unfold jB
    simp only [Expr.eta']
    refine .bind (wG hee (by omega)) fun e he => ?_
    rw [bf (i := base + e.length) (by omega) (by omega), bf (i := base + e.length + 1) (by omega) (by omega)]
    refine .bind (ih n rfl (k := k) (by omega) hbd (by omega) (by omega)) fun bd ⟨hb1, hb2⟩ => ?_
    rw [bf (i := base + e.length + 1 + bd.length) (by omega) (by omega)]
    refine .sel (fun h => ?_) fun h => ?_
    · refine .bind (.app (by simp; omega)) fun r hr => .bind (.app (by subst hr; simp; omega)) fun r2 hr2 => .pure ?_
      subst hr hr2
      refine ⟨by simp; omega, ((he.2.2 _).app (.one ?_)).app (hb2.mono (by simp; omega))⟩
      exact .inr (.inr (.inr (.inr (.inl ⟨rfl, rfl, r4, rfl, by simp only; omega, by simp; omega⟩))))
    · rw [bf (i := base + e.length + 1 + bd.length + 1) (by omega) (by omega)]
      refine .bind (ih n rfl (k := k) (by omega) hel (by omega) (by omega)) fun el ⟨he1, he2⟩ => .bind (.app (by simp; omega)) fun r hr => .bind (.app (by subst hr; simp; omega)) fun r2 hr2 => .bind (.app (by subst hr hr2; simp; omega)) fun r3 hr3 => .bind (.app (by subst hr hr2 hr3; simp; omega)) fun r4' hr4 => .pure ?_
      subst hr hr2 hr3 hr4
      rw [bf (i := base + e.length + 1 + bd.length + 1 + el.length) (by omega) (by omega)]
      refine ⟨by simp; omega, ((((he.2.2 _).app (.one ?_)).app (hb2.mono (by simp; omega))).app (.one ?_)).app (he2.mono (by simp; omega))⟩
      · exact .inr (.inr (.inr (.inr (.inl ⟨rfl, rfl, r4, rfl, by simp only; omega, by simp; omega⟩))))
      · exact .inr (.inr (.inr (.inl ⟨rfl, rfl, rfl, rfl, by simp only; omega, by simp; omega⟩)))
  · -- a while
    simp only [beq_iff_eq] at hkd
    have hns : ¬ oy x := fun h => h.kind.2 hkd
    obtain ⟨n, rfl⟩ : ∃ e, n = e + 1 := ⟨n - 1, by cases n with | zero => exact absurd hx hns | succ n => omega⟩
    obtain ⟨_, _, _, hee, hbd, hel⟩ := hx.resolve_left hns
    obtain ⟨k, rfl⟩ : ∃ j, k = j + 1 := ⟨k - 1, by omega⟩
    refine .bind (P := uN base (ct x)) ?_ fun r hr => .pure hr
    show Tot (fP k (eG k) (gU k) (lQ k) (iC k) x base) _
    unfold fP
    simp only [Expr.eta']
    refine .bind (wG hee (by omega)) fun e he => ?_
    rw [bf (i := base + e.length) (by omega) (by omega), bf (i := base + e.length + 1) (by omega) (by omega)]
    refine .bind (ih n rfl (k := k) (by omega) hbd (by omega) (by omega)) fun bd ⟨hb1, hb2⟩ => ?_
    rw [bf (i := base + e.length + 1 + bd.length) (by omega) (by omega), bf (i := base + e.length + 1 + bd.length + 1) (by omega) (by omega)]
    refine .bind (.app (by simp; omega)) fun r hr => .bind (.app (by subst hr; simp; omega)) fun r2 hr2 => .bind (.app (by subst hr hr2; simp; omega)) fun r3 hr3 => .pure ?_
    subst hr hr2 hr3
    refine ⟨by simp; omega, (((he.2.2 _).app (.one ?_)).app (hb2.mono (by simp; omega))).app (.one ?_)⟩
    · exact .inr (.inr (.inr (.inr (.inl ⟨rfl, rfl, r4, rfl, by simp only; omega, by simp; omega⟩))))
    · exact .inr (.inr (.inr (.inl ⟨rfl, rfl, rfl, rfl, h0, by simp; omega⟩)))
  · have hs : oy x := by
      simp only [beq_eq_false_iff_ne, ne_eq] at h2 h3
      cases n with
      | zero => exact hx
      | succ n => rcases hx with h | h
                  · exact h
                  · exact absurd h.1 (by omega)
    obtain ⟨s1, s2, s3⟩ := hs
    have h33 : 33 ≤ 33 * ct x := by have := yX x; omega
    have rg : ∀ {v : Int}, 0 ≤ v ∧ v ≤ 3 → Rg v := fun h => by unfold Rg; omega
    have ap : ∀ q : aj, (∀ hi, 0 ≤ hi → QOk (hi + 1) q) → Tot ((X.app 40 ex [q]).bind fun r => some r) (uN base (ct x)) := fun q hq => .bind (.app (by simp; omega)) fun r hr => .pure (by
      subst hr
      exact ⟨by simp; omega, (hex.2.2 _).app (.one (hq _ (by omega)))⟩)
    refine .sel (fun h => ap _ fun hi hh => ?_) fun n1 => .sel (fun h => ap _ fun hi hh => ?_) fun n4 => .sel (fun h => ap _ fun hi hh => ?_) fun n7 => .sel (fun h => .pure ⟨by simp; omega, .one ?_⟩) fun n5 => .pure ⟨by simp; omega, .one ?_⟩
    all_goals try simp only [beq_iff_eq] at h
    · simp [h] at s3
      exact .inr (.inl ⟨rfl, rg s3.1, r4, rfl, rfl⟩)
    · simp [h] at s3
      exact .inr (.inr (.inr (.inr (.inr (.inl ⟨rfl, rfl, r4, rfl, s3.2.1.1, s3.2.1.2⟩)))))
    · exact .inr (.inr (.inr (.inr (.inr (.inr (.inr (.inl ⟨rfl, rfl, r4, rfl, rfl⟩)))))))
    · simp [h] at s3
      exact .inr (.inr (.inr (.inr (.inr (.inr (.inl ⟨rfl, rg s3.1, rfl, rfl, s3.2.1.1, s3.2.1.2⟩))))))
    · exact .inr (.inr (.inr (.inr (.inr (.inr (.inr (.inr ⟨.inl rfl, rfl, rfl, rfl, rfl⟩)))))))
theorem xU : ∀ n,xh n:=by
 intro n
 induction n with
 | zero=>exact key 0 fun e h=>by omega
 | succ n ih=>exact key (n + 1) fun e h=>(by omega : n = e) ▸ ih
where
 key (n : Nat) (ih : ∀ e,n = e + 1 → xh e) : xh n:=by
  intro k l base hk hl h0 h1
  obtain ⟨k,rfl⟩ : ∃ j,k = j + 1:=⟨k - 1,by omega⟩
  show Tot (gu k (eG k) (gU k) (lQ k) (iC k) l base) _
  unfold gu
  have hlen:=ni l
  refine .bind (P:=uN base (cts l)) (.iter (fun s=>0 ≤ s.2 ∧ s.2 ≤ (l.length : Int) ∧ uN base (cts (l.take s.2.toNat)) s.1) (fun s=>((l.length : Int) - s.2).toNat) ⟨by simp,by simp,by simp [uN,Cq]⟩ fun s hs=>?_) fun r hr=>.pure hr
  obtain ⟨out,i⟩:=s
  obtain ⟨g0,g1,g2,g3⟩:=hs
  simp only at g0 g1 g2 g3
  have hle:=lh l i.toNat
  unfold lk
  refine .sel (fun h=>?_) fun h=>.inr (show uN base (cts l) out from ?_)
  ·simp only [decide_eq_true_eq] at h
   refine .bind (.nth g0 h) fun x ⟨hx,hm⟩=>?_
   have h1:=ta l i.toNat x hx
   have h2:=lh l (i.toNat + 1)
   have h3:=wF hm
   dsimp only
   rw [aw.eta',bf (by omega) (by omega)]
   refine .bind (xT ih (hl x hm) (by omega) (by omega) (by omega)) fun y ⟨hy1,hy2⟩=>.bind (.app (l:=out) (by omega)) fun r hr=>.inl ?_
   subst hr
   rw [bI g0 (by omega)]
   refine ⟨⟨by simp only; omega,by simp only; omega,?_⟩,by simp only; omega⟩
   simp only
   rw [show (i + 1).toNat = i.toNat + 1 by omega,h1]
   exact ⟨by simp; omega,(g3.mono (by simp; omega)).app (hy2.mono (by simp; omega))⟩
  ·simp only [decide_eq_false_iff_not] at h
   rw [List.take_of_length_le (by omega)] at g2
   exact ⟨g2,g3⟩
theorem vA {k : Nat} (hk : 20 ≤ k) {l : List aw} (h : eY 3 16 l) : Tot (fi k l) fun r=>r.2 = true ∧ COk r.1:=by
 unfold fi
 rw [tP hk h,ob9]
 have h2:=h.2
 refine .sf rfl (.bind (xU 3 (k:=k) (by omega) h.1 (by omega) (by omega)) fun out ⟨h1,h2'⟩=>.bind (.app (by simp; omega)) fun r hr=>.pure ⟨rfl,?_⟩)
 subst hr
 refine ⟨by simp,by simp; omega,fun q hq=>?_,⟨_,List.getLast?_concat,.inl rfl⟩⟩
 simp only [List.mem_append,List.mem_singleton] at hq
 rcases hq with hq | rfl
 ·exact (h2' q hq).mono (by simp)
 ·exact .inr (.inr (.inr (.inr (.inr (.inr (.inr (.inr ⟨.inr rfl,rfl,rfl,rfl,rfl⟩)))))))
theorem Ap (hb : By b) (h0 : 0 ≤ p) (hm : p ≤ m) (hp : m ≤ 100000000) : Dr (jw ⟨b,p⟩) (m + 5) Wd:=by
 unfold jw
 have wd : ∀ {v : Int},-1000 ≤ v → v ≤ 1000 → Wd v:=fun h1 h2=>by unfold Wd; omega
 refine .bind (bg hb h0 hm (by omega) (by omega) (by omega)) fun x p1 hx h1 h2=>.sel (fun _=>?_) fun _=>.sel (fun _=>?_) fun _=>.sel (fun _=>?_) fun _=>?_
 ·refine .bind (bg hb h1 h2 (by omega) (by omega) (by omega)) fun y p2 hy h3 h4=>.tot (.nth hy.1 (by simpa using hy.2)) fun z ⟨_,hz⟩=>.pure ?_ h3 (by omega)
  unfold Wd
  simp at hz
  omega
 ·refine .bind (bg hb h1 h2 (by omega) (by omega) (by omega)) fun y p2 hy h3 h4=>.bind (bg hb h3 h4 (by omega) (by omega) (by omega)) fun y p2 hy h3 h4=>.bind (bg hb h3 h4 (by omega) (by omega) (by omega)) fun y p2 hy h3 h4=>.bind (bg hb h3 h4 (by omega) (by omega) (by omega)) fun y p2 hy h3 h4=>.tot (mO _) fun z hz=>.pure hz h3 (by omega)
 ·refine .bind (bg hb h1 h2 (by omega) (by omega) (by omega)) fun y p2 hy h3 h4=>.pure ?_ h3 (by omega)
  rw [bf (by omega) (by omega)]
  exact wd (by omega) (by omega)
 ·refine .bind (bg hb h1 h2 (by omega) (by omega) (by omega)) fun y p2 hy h3 h4=>.pure (wd (by omega) (by omega)) h3 (by omega)
theorem mC (hb : By b) (h0 : 0 ≤ p) (hm : p ≤ m) (hp : m ≤ 100000000) : Dr (cK ⟨b,p⟩) (m + 1) Rg:=by
 unfold cK
 exact .bind (bg hb h0 hm (by omega) (by omega) (by omega)) fun x p1 hx h1 h2=>.pure (by unfold Rg; omega) h1 h2
theorem Aq (hb : By b) {many : Int} (hn : 1 ≤ many) (hn' : many ≤ 600) (h0 : 0 ≤ p) (hm : p ≤ m) (hp : m ≤ 90000000) : Dr (jx ⟨b,p⟩ many) (m + 10) (QOk many):=by
 unfold jx
 refine .bind (bg hb h0 hm (by omega) (by omega) (by omega)) fun x p1 hx h1 h2=>?_
 have tt : ∀ c d : Bool,Tot (sel c (some c) (some d)) fun _=>True:=fun c d=>.sel (fun _=>.pure trivial) fun _=>.pure trivial
 have tt2 : ∀ c d e : Bool,Tot (sel c (some c) (sel d (some d) (some e))) fun _=>True:=fun c d e=>.sel (fun _=>.pure trivial) fun _=>tt d e
 refine .tot (tt _ _) fun _ _=>.sel (fun _=>?_) fun _=>.tot (tt _ _) fun _ _=>.sel (fun _=>?_) fun _=>.tot (tt2 _ _ _) fun _ _=>.sel (fun _=>?_) fun _=>.sel (fun _=>?_) fun _=>.sel (fun _=>?_) fun _=>.sel (fun _=>?_) fun _=>.sel (fun _=>?_) fun _=>?_
 ·refine .bind (mC hb h1 h2 (by omega)) fun d p2 hd h3 h4=>.bind (Ap hb h3 h4 (by omega)) fun w p3 hw h5 h6=>.bind (bg hb h5 h6 (by omega) (by omega) (by omega)) fun y p4 hy h7 h8=>.tot (.nth hy.1 (by simpa using hy.2)) fun z ⟨_,hz⟩=>.pure (.inl ⟨rfl,hd,rfl,rfl,?_⟩) h7 (by omega)
  simp at hz
  rcases hz with h | h | h | h <;> first | (rw [h]; exact hw) | (rw [h]; unfold Wd; simp)
 ·exact .bind (mC hb h1 h2 (by omega)) fun d p2 hd h3 h4=>.bind (mC hb h3 h4 (by omega)) fun a p3 ha h5 h6=>.pure (.inr (.inl ⟨rfl,hd,ha,rfl,rfl⟩)) h5 (by omega)
 ·exact .bind (mC hb h1 h2 (by omega)) fun d p2 hd h3 h4=>.bind (mC hb h3 h4 (by omega)) fun a p3 ha h5 h6=>.bind (mC hb h5 h6 (by omega)) fun c p4 hc h7 h8=>.bind (AX hb h7 h8 (by omega)) fun o p5 ho h9 h10=>.pure (.inr (.inr (.inl ⟨rfl,hd,ha,hc,ho.1,ho.2⟩))) h9 (by omega)
 ·exact .bind (bg hb h1 h2 (by omega) hn (by omega)) fun y p2 hy h3 h4=>.pure (.inr (.inr (.inr (.inl ⟨rfl,rfl,rfl,rfl,hy.1,hy.2⟩)))) h3 (by omega)
 ·exact .bind (mC hb h1 h2 (by omega)) fun a p2 ha h3 h4=>.bind (bg hb h3 h4 (by omega) hn (by omega)) fun y p3 hy h5 h6=>.pure (.inr (.inr (.inr (.inr (.inl ⟨rfl,rfl,ha,rfl,hy.1,hy.2⟩))))) h5 (by omega)
 ·exact .bind (mC hb h1 h2 (by omega)) fun a p2 ha h3 h4=>.bind (bg hb h3 h4 (by omega) (by omega) (by omega)) fun y p3 hy h5 h6=>.pure (.inr (.inr (.inr (.inr (.inr (.inl ⟨rfl,rfl,ha,rfl,hy.1,by simp only; omega⟩)))))) h5 (by omega)
 ·exact .bind (mC hb h1 h2 (by omega)) fun a p2 ha h3 h4=>.bind (bg hb h3 h4 (by omega) (by omega) (by omega)) fun y p3 hy h5 h6=>.pure (.inr (.inr (.inr (.inr (.inr (.inr (.inl ⟨rfl,ha,rfl,rfl,hy.1,by simp only; omega⟩))))))) h5 (by omega)
 ·exact .bind (bg hb h1 h2 (by omega) (by omega) (by omega)) fun y p2 hy h3 h4=>.sel (fun _=>.pure (.inr (.inr (.inr (.inr (.inr (.inr (.inr (.inr ⟨.inl rfl,rfl,rfl,rfl,rfl⟩)))))))) h3 (by omega)) fun _=>.bind (mC hb h3 h4 (by omega)) fun a p3 ha h5 h6=>.pure (.inr (.inr (.inr (.inr (.inr (.inr (.inr (.inl ⟨rfl,rfl,ha,rfl,rfl⟩)))))))) h5 (by omega)
theorem ue (hb : By b) (h0 : 0 ≤ p) (hm : p ≤ m) (hp : m ≤ 50000000) : Dr (ff ⟨b,p⟩) (m + 200) fun c=>COk c ∧ c.length ≤ 14:=by
 unfold ff
 refine .bind (bg hb h0 hm (by omega) (by omega) (by omega)) fun x p1 hx h1 h2=>?_
 dsimp only
 obtain ⟨n,hn⟩ : ∃ n : Int,n = 1 + x:=⟨_,rfl⟩
 have hw : w64 (1 + x) = n:=by rw [bf (by omega) (by omega),hn]
 refine .tot (P:=fun r=>0 ≤ r.2 ∧ r.2 ≤ m + 1 + 140 ∧ (r.1.length : Int) + 1 = n ∧ ∀ q ∈ r.1,QOk n q) (.iter (fun s=>0 ≤ s.2.1 ∧ s.2.1 + 1 ≤ n ∧ 0 ≤ s.2.2 ∧ s.2.2 ≤ m + 1 + 10 * s.2.1 ∧ (s.1.length : Int) = s.2.1 ∧ ∀ q ∈ s.1,QOk n q) (fun s=>(n - s.2.1).toNat) ⟨by simp,by simp only; omega,h1,by simp only; omega,by simp,by simp⟩ fun s hs=>?_) fun r hr=>?_
 ·obtain ⟨out,i,q⟩:=s
  obtain ⟨g0,g1,g2,g3,g4,g5⟩:=hs
  simp only at g0 g1 g2 g3 g4 g5
  unfold jy
  dsimp only
  rw [hw,bI g0 (by omega)]
  refine .sel (fun h=>?_) fun h=>.inr (show 0 ≤ q ∧ q ≤ m + 1 + 140 ∧ (out.length : Int) + 1 = n ∧ ∀ q ∈ out,QOk n q from ?_)
  ·simp only [decide_eq_true_eq] at h
   refine .bind (Aq hb (by omega) (by omega) g2 g3 (by omega)) fun y hy=>.bind (.app (l:=out) (by simp; omega)) fun r hr=>.inl ?_
   subst hr
   refine ⟨⟨by simp only; omega,by simp only; omega,hy.1,by have:=hy.2.1; simp only; omega,by simp; omega,fun z hz=>?_⟩,by simp only; omega⟩
   simp only [List.mem_append,List.mem_singleton] at hz
   rcases hz with hz | rfl
   ·exact g5 z hz
   ·exact hy.2.2
  ·simp only [decide_eq_false_iff_not] at h
   exact ⟨g2,by omega,by omega,g5⟩
 ·obtain ⟨out,q⟩:=r
  obtain ⟨k0,k1,k2,k3⟩:=hr
  simp only at k0 k1 k2 k3
  have fin : ∀ z : aj,QOk n z → (z.Op = 10 ∨ z.Op = 4) → COk (out ++ [z]) ∧ (out ++ [z]).length ≤ 14:=fun z hz ho=>⟨⟨by simp,by simp; omega,fun y hy=>by
   have e : (((out ++ [z]).length : Nat) : Int) = n:=by simp; omega
   rw [e]
   simp only [List.mem_append,List.mem_singleton] at hy
   rcases hy with hy | rfl
   ·exact k3 y hy
   ·exact hz,⟨z,List.getLast?_concat,ho⟩⟩,by simp; omega⟩
  refine .bind (bg hb k0 k1 (by omega) (by omega) (by omega)) fun y p2 hy h3 h4=>.sel (fun _=>?_) fun _=>?_
  ·dsimp only
   rw [hw]
   refine .bind (bg hb h3 h4 (by omega) (by omega) (by omega)) fun z p3 hz h5 h6=>.tot (.app (by simp; omega)) fun r hr=>.pure ?_ h5 (by omega)
   subst hr
   exact fin _ (.inr (.inr (.inr (.inl ⟨rfl,rfl,rfl,rfl,hz.1,hz.2⟩)))) (.inr rfl)
  ·refine .tot (.app (by simp; omega)) fun r hr=>.pure ?_ h3 (by omega)
   subst hr
   exact fin _ (.inr (.inr (.inr (.inr (.inr (.inr (.inr (.inr ⟨.inr rfl,rfl,rfl,rfl,rfl⟩)))))))) (.inl rfl)
theorem Ar (hb : By b) {k : Nat} (hk : 20 ≤ k) (h0 : 0 ≤ p) (hm : p ≤ m) (hp : m ≤ 900000) : Dr (jT k ⟨b,p⟩) (m + 50000) fun c=>COk c ∧ c.length ≤ 40:=by
 unfold jT
 refine .bind (bg hb h0 hm (by omega) (by omega) (by omega)) fun x p1 hx h1 h2=>.sel (fun _=>.bind (ue hb h1 h2 (by omega)) fun c p2 hc h3 h4=>.pure ⟨hc.1,by have:=hc.2; simp only; omega⟩ h3 (by omega)) fun _=>.bind (za hb (by omega) hk h1 h2 (by omega)) fun l p2 hl h3 h4=>.tot (vA hk hl) fun r hr=>.sel (fun _=>.bind (ue hb h3 h4 (by omega)) fun c p2 hc h3 h4=>.pure ⟨hc.1,by have:=hc.2; simp only; omega⟩ h3 (by omega)) fun hle=>.bind (bg hb h3 h4 (by omega) (by omega) (by omega)) fun t p3 ht h5 h6=>?_
 simp only [decide_eq_false_iff_not] at hle
 have h01 : 0 ≤ Int.tdiv t 2 ∧ Int.tdiv t 2 ≤ 1:=by
  rcases (show t = 0 ∨ t = 1 ∨ t = 2 by omega) with rfl | rfl | rfl <;> decide
 dsimp only
 rw [bf (by omega) (by omega)]
 exact .tot (uJ hr.2 h01.1 (by omega)) fun o ho=>.pure ⟨ho.1,by have:=ho.2.2; omega⟩ h5 (by omega)
end
noncomputable section
theorem zf (n : Int) : cR n = some (decide (Wd n)):=by
 unfold cR
 congr 1
 unfold Wd
 by_cases h1 : -2147483648 ≤ n <;> by_cases h2 : n ≤ 2147483647 <;> simp [h1,h2]
theorem uO {n : Nat} (h : n ≤ 32) : cl (n : Int) = some ((2 ^ n : Nat) : Int):=by
 refine Tot.eq ?_
 unfold cl
 refine .bind (P:=fun r=>r = ((2 ^ n : Nat) : Int)) (.iter (fun s=>0 ≤ s.2 ∧ s.2 ≤ (n : Int) ∧ s.1 = ((2 ^ s.2.toNat : Nat) : Int)) (fun s=>((n : Int) - s.2).toNat) ⟨by simp,by simp,rfl⟩ fun s hs=>?_) fun r hr=>.pure hr
 obtain ⟨c,i⟩:=s
 obtain ⟨g0,g1,g2⟩:=hs
 simp only at g0 g1 g2
 unfold et
 refine .sel (fun h=>.inl ?_) fun h=>.inr (show c = _ from ?_)
 ·simp only [decide_eq_true_eq] at h
  have hp : 2 ^ i.toNat ≤ 2 ^ 32:=Nat.pow_le_pow_right (by omega) (by omega)
  have h32 : (2 : Nat) ^ 32 = 4294967296:=by decide
  have e : 2 ^ (i + 1).toNat = 2 ^ i.toNat * 2:=by rw [show (i + 1).toNat = i.toNat + 1 by omega,Nat.pow_succ]
  dsimp only
  rw [bI g0 (by omega),bf (by omega) (by omega)]
  exact ⟨⟨by omega,by omega,by rw [e,g2]; omega⟩,by omega⟩
 ·simp only [decide_eq_false_iff_not] at h
  rw [g2,show i = (n : Int) by omega]; rfl
theorem vB {u : Int} (h0 : 0 ≤ u) (h1 : u ≤ 4294967295) {lo n : Nat} (hn : 1 ≤ n) (h : lo + n ≤ 32) : aY u lo n = some (u / ((2 ^ lo : Nat) : Int) % ((2 ^ n : Nat) : Int)):=by
 unfold aY
 have e1 : (decide ((0 : Int) ≤ (lo : Int)) && decide ((lo : Int) ≤ 31)) = true:=by simp; omega
 have e2 : (decide ((0 : Int) ≤ u) && decide (u ≤ 4294967295)) = true:=by simp; omega
 rw [mN,e2,ob9,Bool.not_true,al rfl,mN,e1]
 simp only [ob9,Bool.not_true]
 rw [al rfl,bf (by omega) (by omega),mN]
 have e3 : (decide ((1 : Int) ≤ (n : Int)) && decide ((n : Int) ≤ 32 - (lo : Int))) = true:=by simp; omega
 rw [e3]
 simp only [ob9,Bool.not_true]
 rw [al rfl,uO (by omega),ob9]
 have p1 : 0 < 2 ^ lo:=Nat.two_pow_pos lo
 have p2 : 0 < 2 ^ n:=Nat.two_pow_pos n
 obtain ⟨k,rfl⟩:=Int.eq_ofNat_of_zero_le h0
 have hk : k / 2 ^ lo ≤ k:=Nat.div_le_self _ _
 have hq : px .i64 (k : Int) ((2 ^ lo : Nat) : Int) = some ((k / 2 ^ lo : Nat) : Int):=by
  unfold px
  rw [if_neg (by omega)]
  congr 1
  have hx : ∀ x : Nat,x ≤ k → w64 (x : Int) = x:=fun x hx=>bf (by omega) (by omega)
  exact hx _ hk
 rw [hq,ob9,uO (by omega),ob9]
 unfold mh
 rw [if_neg (by omega)]
 simp only [ob9]
 rfl
theorem vC {u : Int} (h0 : 0 ≤ u) (h1 : u ≤ 4294967295) {lo n : Nat} (hn : 1 ≤ n) (h : lo + n ≤ 32) : bz u lo n = some (u / ((2 ^ lo : Nat) : Int) % ((2 ^ n : Nat) : Int)):=by
 unfold bz dK
 rw [ob9,bf (by omega) (by omega),al (by simp; omega)]
 obtain ⟨k,rfl⟩:=Int.eq_ofNat_of_zero_le h0
 have p1 : (2 : Nat) ^ n ≤ 2 ^ 32:=Nat.pow_le_pow_right (by omega) (by omega)
 have h32 : (2 : Nat) ^ 32 = 4294967296:=by decide
 have p2 : 0 < 2 ^ n:=Nat.two_pow_pos n
 have hk : k / 2 ^ lo ≤ k:=Nat.div_le_self _ _
 rw [w9 (by omega),ob9]
 have hs:=pA (x:=1) (k:=n) (by omega) (by omega)
 rw [Nat.one_mul] at hs
 rw [show ((1 : Nat) : Int) = 1 from rfl] at hs
 rw [hs,ob9,bf (by omega) (by omega),sR (by omega) (by omega)]
 rfl
theorem rx {n : Int} (h : Wd n) : cQ n = some (n % 4294967296) ∧ bW n = some (n % 4294967296):=by
 unfold cQ bW
 rw [uE,zf,decide_eq_true h]
 simp only [ob9,Bool.not_true]
 rw [al rfl,al rfl]
 have hu : jv .u32 n = n % 4294967296:=by
  rw [lK]
  simp [IntKind.wrap,IntKind.signed,IntKind.bits]
 unfold Wd at h
 rw [hu,bf (i:=n % 4294967296) (by omega) (by omega)]
 refine ⟨?_,rfl⟩
 refine Tot.eq (.sel (fun h'=>.pure ?_) fun h'=>.pure ?_)
 ·simp only [decide_eq_true_eq] at h'
  rw [bf (by omega) (by omega)]; omega
 ·simp only [decide_eq_false_iff_not] at h'
  omega
theorem zg {n : Int} : bK n = some (if 2147483648 ≤ n % 4294967296 then n % 4294967296 - 4294967296 else n % 4294967296):=by
 refine Tot.eq ?_
 unfold bK
 have hm : n.tmod 4294967296 = if 0 ≤ n ∨ n % 4294967296 = 0 then n % 4294967296 else n % 4294967296 - 4294967296:=by
  rw [Int.tmod_eq_emod]
  simp only [Int.dvd_iff_emod_eq_zero]
  split <;> simp
 rw [hm]
 refine .sel (fun h=>.pure ?_) fun h=>.sel (fun h'=>.pure ?_) fun h'=>.pure ?_
 all_goals simp only [decide_eq_true_eq,decide_eq_false_iff_not] at *
 ·rw [bf (by split <;> omega) (by split <;> omega)]; split <;> split <;> split at h <;> omega
 ·rw [bf (by split <;> omega) (by split <;> omega)]; split <;> split <;> split at h' <;> omega
 ·split <;> split <;> omega
theorem Au {x : Int} (h0 : 0 ≤ x) (h1 : x < 4096) : cq x 12 = some (if 2048 ≤ x then x - 4096 else x) ∧ cz x 12 = some (if 2048 ≤ x then x - 4096 else x):=by
 have e12 : cl 12 = some 4096:=uO (n:=12) (by omega)
 have e11 : cl 11 = some 2048:=uO (n:=11) (by omega)
 have s12 : shO .shl .i64 1 12 = some 4096:=by decide
 have s11 : shO .shl .i64 1 11 = some 2048:=by decide
 have w12 : w64 (12 - 1) = 11:=by decide
 have w13 : w64 (4096 - 1) = 4095:=by decide
 constructor
 ·unfold cq
  simp only [mN,e12,w12,e11,ob9,w13]
  rw [al (b:=!_) (by decide)]
  simp only [ob9]
  rw [al (by simp; omega)]
  refine Tot.eq (.sel (fun h=>.pure ?_) fun h=>.pure ?_)
  ·simp at h; rw [if_pos h,bf (by omega) (by omega)]
  ·simp at h; rw [if_neg (by omega)]
 ·unfold cz
  simp only [s12,w12,s11,ob9]
  rw [al (b:=_ || _) (by simp; omega)]
  simp only [ob9]
  rw [al (by simp; omega)]
  refine Tot.eq (.sel (fun h=>.pure ?_) fun h=>.pure ?_)
  ·simp at h; rw [if_pos h,bf (by omega) (by omega)]
  ·simp at h; rw [if_neg (by omega)]
def vD (n : Int) : Int:=if 2048 ≤ n % 4096 then n % 4096 - 4096 else n % 4096
def wH (n : Int) : Int:=(n - vD n) % 4294967296 / 4096
def nk (rd n : Int) : List Instr:=if -2048 ≤ n ∧ n ≤ 2047 then [⟨12,rd,0,0,n⟩] else [⟨19,rd,0,0,wH n⟩,⟨12,rd,rd,0,vD n⟩]
theorem zh {rd n : Int} (h : Wd n) : iZ rd n = some (nk rd n):=by
 have hu:=rx h
 have hb1 : ∀ {u : Int},0 ≤ u → u ≤ 4294967295 → aY u 0 12 = some (u % 4096) ∧ bz u 0 12 = some (u % 4096):=fun h0 h1=>by
  have a:=vB h0 h1 (lo:=0) (n:=12) (by omega) (by omega)
  have b:=vC h0 h1 (lo:=0) (n:=12) (by omega) (by omega)
  simp at a b
  exact ⟨a,b⟩
 have hb2 : ∀ {u : Int},0 ≤ u → u ≤ 4294967295 → aY u 12 20 = some (u / 4096 % 1048576) ∧ bz u 12 20 = some (u / 4096 % 1048576):=fun h0 h1=>by
  have a:=vB h0 h1 (lo:=12) (n:=20) (by omega) (by omega)
  have b:=vC h0 h1 (lo:=12) (n:=20) (by omega) (by omega)
  simp at a b
  exact ⟨a,b⟩
 have hw:=h
 unfold Wd at hw
 have e0 : n % 4294967296 % 4096 = n % 4096:=by omega
 have hl : -2048 ≤ vD n ∧ vD n ≤ 2047:=by unfold vD; split <;> omega
 have hwd : ∀ m : Int,Wd (if 2147483648 ≤ m % 4294967296 then m % 4294967296 - 4294967296 else m % 4294967296):=fun m=>by unfold Wd; split <;> omega
 have e1 : ∀ m : Int,(if 2147483648 ≤ m % 4294967296 then m % 4294967296 - 4294967296 else m % 4294967296) % 4294967296 = m % 4294967296:=fun m=>by split <;> omega
 have e2 : (n - vD n) % 4294967296 / 4096 % 1048576 = wH n:=by unfold wH; omega
 ·unfold iZ nk
  rw [mN,ob9]
  refine Tot.eq (.sel (fun h=>.pure ?_) fun h=>?_)
  ·simp at h; rw [if_pos h]
  ·rw [if_neg (by simp at h; omega),hu.1,ob9,(hb1 (by omega) (by omega)).1,ob9,(Au (by omega) (by omega)).1,ob9,e0]
   rw [show (if 2048 ≤ n % 4096 then n % 4096 - 4096 else n % 4096) = vD n from rfl,bf (by omega) (by omega),zg,ob9,(rx (hwd _)).1,ob9,e1,(hb2 (by omega) (by omega)).1,ob9,e2]
   refine .bind (.app (by simp)) fun r hr=>.pure ?_
   subst hr; rfl
end
noncomputable section
def mQ : List Int:=[7,8,6,8,11,9,10,1,2,3,4,5]
def qp : List Int:=[8,9,18,19,20,21,22,23]
def lj (c p s : Int) : Int:=if p < c then (qp[p.toNat]?).getD 0 else s
def rdL (c p s : Int) : List Instr:=if p < c then [] else [⟨14,s,2,0,4 * (p - c)⟩]
def wrL (c p : Int) : List Instr:=if p < c then [] else [⟨16,0,2,7,4 * (p - c)⟩]
def nN (n : Int) : List Instr:=[⟨12,17,0,0,n⟩,⟨15,1,0,0,0⟩]
def wI (n : Int) : Int:=(mQ[(n - 1).toNat]?).getD 0
def mR (q : aj) (c off : Int) : List Instr:=
 if q.Op = 1 then nk (lj c q.Dst 7) q.N ++ wrL c q.Dst
 else if q.Op = 2 then rdL c q.A 5 ++ [⟨12,lj c q.Dst 7,lj c q.A 5,0,0⟩] ++ wrL c q.Dst
 else if q.Op = 3 then rdL c q.A 5 ++ rdL c q.B 6 ++ [⟨wI q.N,lj c q.Dst 7,lj c q.A 5,lj c q.B 6,0⟩] ++ (if q.N = 4 then [⟨13,lj c q.Dst 7,lj c q.Dst 7,0,1⟩] else []) ++ wrL c q.Dst
 else if q.Op = 4 then [⟨20,0,0,0,off⟩]
 else if q.Op = 5 then rdL c q.A 5 ++ [⟨18,0,lj c q.A 5,0,8⟩] ++ [⟨20,0,0,0,off - 4 * ((rdL c q.A 5).length + 1)⟩]
 else if q.Op = 6 then rdL c q.A 5 ++ [⟨12,10,lj c q.A 5,0,0⟩,⟨12,11,0,0,q.N⟩] ++ nN 1
 else if q.Op = 7 then [⟨12,11,0,0,q.N⟩] ++ nN 2 ++ [⟨12,lj c q.Dst 7,10,0,0⟩] ++ wrL c q.Dst
 else if q.Op = 8 then nN 3
 else if q.Op = 9 then rdL c q.A 5 ++ [⟨12,10,lj c q.A 5,0,0⟩] ++ nN 4
 else nN 5
theorem qq (c p s : Int) : (rdL c p s).length ≤ 1:=by unfold rdL; split <;> simp
theorem Bx (c p : Int) : (wrL c p).length ≤ 1:=by unfold wrL; split <;> simp
theorem uf (r n : Int) : 1 ≤ (nk r n).length ∧ (nk r n).length ≤ 2:=by unfold nk; split <;> simp
theorem nl {c p s : Int} (hc : 1 ≤ c ∧ c ≤ 8) (hp : Rg p) : dD p c s = some (lj c p s):=by
 refine Tot.eq ?_
 unfold dD lj Rg at *
 refine .sel (fun h=>.pure (by simp at h; rw [if_neg (by omega)])) fun h=>?_
 simp at h
 refine .bind (.nth (by omega) (by simp; omega)) fun x ⟨hx,_⟩=>.pure ?_
 rw [if_pos h]
 show x = ((qp[p.toNat]?).getD 0)
 unfold qp
 rw [hx]; rfl
theorem nP {c p s : Int} (hc : 1 ≤ c ∧ c ≤ 8) (hp : Rg p) : dU p c s = some (rdL c p s):=by
 refine Tot.eq ?_
 unfold dU rdL Rg at *
 refine .sel (fun h=>.pure (by simp at h; rw [if_pos h])) fun h=>.pure ?_
 simp at h
 rw [if_neg (by omega),bf (i:=p - c) (by omega) (by omega),bf (by omega) (by omega)]
theorem oq {c p : Int} (hc : 1 ≤ c ∧ c ≤ 8) (hp : Rg p) {l : List Instr} (hl : l.length ≤ 1000) : d7 l p c = some (l ++ wrL c p):=by
 refine Tot.eq ?_
 unfold d7 wrL Rg at *
 refine .sel (fun h=>.pure (by simp at h; rw [if_pos h,List.append_nil])) fun h=>?_
 simp at h
 rw [if_neg (by omega),bf (i:=p - c) (by omega) (by omega),bf (by omega) (by omega)]
 exact .bind (.app (by simp; omega)) fun r hr=>.pure hr
theorem nQ {n : Int} {l : List Instr} (hl : l.length ≤ 1000) : dV l n = some (l ++ nN n):=by
 refine Tot.eq ?_
 unfold dV
 refine .bind (.app (by simp; omega)) fun r hr=>.bind (.app (by subst hr; simp; omega)) fun r2 hr2=>.pure ?_
 subst hr hr2; simp [nN]
theorem B5 {n : Int} (h : 1 ≤ n ∧ n ≤ 12) : nth mQ (w64 (n - 1)) = some (wI n):=by
 rw [bf (by omega) (by omega)]
 refine (Tot.nth (l:=mQ) (i:=n - 1) (by omega) (by simp [mQ]; omega)).mono (Q:=fun x=>x = wI n) (fun x ⟨hx,_⟩=>?_) |>.eq
 unfold wI; rw [hx]; rfl
theorem Bz {n : Int} (h : 1 ≤ n ∧ n ≤ 12) : lW n = some (wI n):=by
 unfold lW
 have:=B5 h
 unfold mQ at this
 rw [this]; rfl
theorem vE {c p : Int} (hc : 1 ≤ c ∧ c ≤ 8) (hp : Rg p) : hU p c = some (rdL c p 5 ++ [⟨12,10,lj c p 5,0,0⟩]):=by
 refine Tot.eq ?_
 unfold hU eJ
 rw [nP hc hp,nl hc hp]
 simp only [ob9]
 have:=qq c p 5
 exact .bind (.app (by simp; omega)) fun r hr=>.pure hr
theorem vF {q : aj} {m c off : Int} (hq : QOk m q) (hc : 1 ≤ c ∧ c ≤ 8) (ho : -1000000 ≤ off ∧ off ≤ 1000000) : hY q c off = some (mR q c off):=by
 have hd : Rg q.Dst:=by unfold QOk at hq; unfold Rg at *; omega
 have l1:=qq c q.A 5
 have l2:=qq c q.B 6
 refine Tot.eq ?_
 unfold hY mR
 rw [nl hc hd,ob9]
 refine .sel (fun h=>?_) fun h1=>.sel (fun h=>?_) fun h2=>.sel (fun h=>?_) fun h3=>.sel (fun h=>?_) fun h4=>.sel (fun h=>?_) fun h5=>.sel (fun h=>?_) fun h6=>.sel (fun h=>?_) fun h7=>.sel (fun h=>?_) fun h8=>.sel (fun h=>?_) fun h9=>?_
 all_goals
  simp only [beq_iff_eq,beq_eq_false_iff_ne,ne_eq] at *
  unfold QOk at hq
 ·simp [h] at hq
  have:=uf (lj c q.Dst 7) q.N
  rw [if_pos h,zh hq.2.2.2,ob9,oq hc hd (by omega)]; exact .pure rfl
 ·simp [h] at hq
  rw [if_neg h1,if_pos h,nP hc hq.2.1,nl hc hq.2.1]
  simp only [ob9,eJ]
  refine .bind (.app (by simp; omega)) fun r hr=>?_
  rw [oq hc hd (by subst hr; simp; omega),hr]; exact .pure rfl
 ·simp [h] at hq
  rw [if_neg h1,if_neg h2,if_pos h]
  refine .bind (P:=fun r=>r = _) ?_ fun r hr=>.pure hr
  unfold mq
  rw [nP hc hq.2.1,nP hc hq.2.2.1,nl hc hq.2.1,nl hc hq.2.2.1,nl hc hd,Bz hq.2.2.2]
  simp only [ob9]
  refine .bind (.app (by omega)) fun r hr=>.bind (.app (by subst hr; simp; omega)) fun r2 hr2=>?_
  have e2 : r2.length ≤ 3:=by subst hr hr2; simp; omega
  refine .bind (P:=fun y=>y = r2 ++ (if q.N = 4 then [⟨13,lj c q.Dst 7,lj c q.Dst 7,0,1⟩] else []) ∧ y.length ≤ 4) (.sel (fun h=>.bind (.app (by simp; omega)) fun r3 hr3=>.pure ?_) fun h=>.pure ?_) fun y ⟨hy,hyl⟩=>?_
  ·simp at h; rw [if_pos h,hr3]; exact ⟨rfl,by simp; omega⟩
  ·simp at h; rw [if_neg h,List.append_nil]; exact ⟨rfl,by omega⟩
  ·rw [oq hc hd (by omega),hy,hr2,hr]
   exact .pure (by simp)
 ·rw [if_neg h1,if_neg h2,if_neg h3,if_pos h]; exact .pure rfl
 ·simp [h] at hq
  rw [if_neg h1,if_neg h2,if_neg h3,if_neg h4,if_pos h]
  refine .bind (P:=fun r=>r = _) ?_ fun r hr=>.pure hr
  unfold lB
  rw [nP hc hq.2.1,nl hc hq.2.1]
  simp only [ob9]
  refine .bind (.app (by simp; omega)) fun r hr=>?_
  have e1 : r.length = (rdL c q.A 5).length + 1:=by subst hr; simp
  rw [bf (i:=4 * (r.length : Int)) (by omega) (by omega),bf (by omega) (by omega)]
  refine .bind (.app (by simp; omega)) fun r2 hr2=>.pure ?_
  rw [hr2,e1,hr]; simp
 ·simp [h] at hq
  rw [if_neg h1,if_neg h2,if_neg h3,if_neg h4,if_neg h5,if_pos h,vE hc hq.2.1]
  simp only [ob9,jt]
  refine .bind (.app (by simp; omega)) fun r hr=>?_
  rw [nQ (by subst hr; simp; omega),hr]; exact .pure (by simp)
 ·simp [h] at hq
  rw [if_neg h1,if_neg h2,if_neg h3,if_neg h4,if_neg h5,if_neg h6,if_pos h]
  simp only [ob9,jt,eJ]
  rw [nQ (by simp),ob9]
  refine .bind (.app (by simp [nN])) fun r hr=>?_
  rw [oq hc hd (by subst hr; simp [nN]),hr]; exact .pure (by simp)
 ·rw [if_neg h1,if_neg h2,if_neg h3,if_neg h4,if_neg h5,if_neg h6,if_neg h7,if_pos h,nQ (by simp)]; exact .pure (by simp)
 ·simp [h] at hq
  rw [if_neg h1,if_neg h2,if_neg h3,if_neg h4,if_neg h5,if_neg h6,if_neg h7,if_neg h8,if_pos h,vE hc hq.2.1,ob9,nQ (by simp; omega)]; exact .pure (by simp)
 ·rw [if_neg h1,if_neg h2,if_neg h3,if_neg h4,if_neg h5,if_neg h6,if_neg h7,if_neg h8,if_neg h9,nQ (by simp)]; exact .pure (by simp)
theorem lI (q : aj) (c off : Int) : 1 ≤ (mR q c off).length ∧ (mR q c off).length ≤ 6 ∧ (mR q c off).length = (mR q c 0).length:=by
 have l1:=qq c q.A 5
 have l2:=qq c q.B 6
 have l3:=Bx c q.Dst
 have l4:=uf (lj c q.Dst 7) q.N
 unfold mR nN
 split
 ·simp; omega
 split
 ·simp; omega
 split
 ·split <;> simp <;> omega
 split
 ·simp
 split
 ·simp; omega
 split
 ·simp; omega
 split
 ·simp; omega
 split
 ·simp
 split
 ·simp; omega
 ·simp
end
noncomputable section
def qAt (eQ : List aj) (i : Nat) : aj:=(eQ[i]?).getD ⟨0,0,0,0,0⟩
theorem uP {eQ : List aj} {i : Nat} {q : aj} (h : eQ[i]? = some q) : qAt eQ i = q:=by unfold qAt; rw [h]; rfl
def pl (eQ : List aj) (c : Int) : Nat → Nat
 | 0=>0
 | i + 1=>pl eQ c i + (mR (qAt eQ i) c 0).length
def pI (eQ : List aj) (c : Int) (i : Nat) : Int:=if (qAt eQ i).Op = 4 ∨ (qAt eQ i).Op = 5 then 4 * ((pl eQ c (qAt eQ i).N.toNat : Int) - pl eQ c i) else 0
def blk (eQ : List aj) (c : Int) (i : Nat) : List Instr:=mR (qAt eQ i) c (pI eQ c i)
def tk (eQ : List aj) (c : Int) : Nat → List Instr
 | 0=>[]
 | i + 1=>tk eQ c i ++ blk eQ c i
def plL (eQ : List aj) (c : Int) (n : Nat) : List Int:=(List.range n).map fun i=>(pl eQ c i : Int)
theorem pJ (eQ : List aj) (c : Int) : ∀ i,pl eQ c i ≤ 6 * i
 | 0=>Nat.le_refl _
 | i + 1=>by have:=pJ eQ c i; have:=(lI (qAt eQ i) c 0).2.1; simp only [pl]; omega
theorem pb (eQ : List aj) (c : Int) : ∀ i,(tk eQ c i).length = pl eQ c i
 | 0=>rfl
 | i + 1=>by simp only [tk,pl,List.length_append,pb eQ c i,blk,(lI (qAt eQ i) c (pI eQ c i)).2.2]
theorem Av {eQ : List aj} {c : Int} {n i : Nat} (h : i < n) : (plL eQ c n)[i]? = some (pl eQ c i : Int):=by simp [plL,h]
theorem xi (eQ : List aj) (c : Int) (n : Nat) : (plL eQ c n).length = n:=by simp [plL]
theorem xj {eQ : List aj} {c : Int} {n : Nat} {i : Int} (h0 : 0 ≤ i) (h : i < n) : nth (plL eQ c n) i = some (pl eQ c i.toNat : Int):=by
 refine (Tot.nth (l:=plL eQ c n) h0 (by rw [xi]; exact h)).mono (Q:=fun x=>x = (pl eQ c i.toNat : Int)) (fun x ⟨hx,_⟩=>?_) |>.eq
 rw [Av (by omega)] at hx
 injection hx with hx
 exact hx.symm
theorem zi (eQ : List aj) (c : Int) (n : Nat) : plL eQ c (n + 1) = plL eQ c n ++ [(pl eQ c n : Int)]:=by simp [plL,List.range_succ]
theorem COk.at {eQ : List aj} (hc : COk eQ) {i : Int} (h0 : 0 ≤ i) (h1 : i < eQ.length) : ∃ q,nth eQ i = some q ∧ qAt eQ i.toNat = q ∧ QOk eQ.length q:=by
 obtain ⟨q,e,h2,h3⟩:=Tot.nth (l:=eQ) h0 h1
 exact ⟨q,e,uP h2,hc.q q h3⟩
theorem wJ {eQ : List aj} (hc : COk eQ) {c : Int} (h : 1 ≤ c ∧ c ≤ 8) : gI eQ c = some (plL eQ c eQ.length):=by
 have hmx:=hc.max
 refine Tot.eq ?_
 unfold gI
 refine .bind (P:=fun r=>r = plL eQ c eQ.length) (.iter (fun s=>0 ≤ s.2.2 ∧ s.2.2 ≤ (eQ.length : Int) ∧ s.1 = plL eQ c s.2.2.toNat ∧ s.2.1 = (pl eQ c s.2.2.toNat : Int)) (fun s=>((eQ.length : Int) - s.2.2).toNat) ⟨by simp,by simp,rfl,rfl⟩ fun s hs=>?_) fun r hr=>.pure hr
 obtain ⟨out,a,i⟩:=s
 obtain ⟨g0,g1,g2,g3⟩:=hs
 simp only at g0 g1 g2 g3
 unfold jU
 refine .sel (fun hlt=>?_) fun hge=>.inr (show out = _ from ?_)
 ·simp only [decide_eq_true_eq] at hlt
  obtain ⟨q,e1,e2,hq⟩:=hc.at g0 hlt
  have hl:=xi eQ c i.toNat
  have h6:=pJ eQ c i.toNat
  have hql:=(lI q c 0).2.1
  refine .bind (.app (by subst g2; simp; omega)) fun r hr=>?_
  dsimp only
  rw [e1,ob9,vF hq h (by omega),ob9,bI g0 (by omega),bf (by omega) (by omega)]
  have e3 : (i + 1).toNat = i.toNat + 1:=by omega
  refine .inl ⟨⟨by simp only; omega,by simp only; omega,?_,?_⟩,by simp only; omega⟩
  ·simp only; rw [e3,zi,hr,g2,g3]
  ·simp only; rw [e3,pl,e2,g3]; simp
 ·simp only [decide_eq_false_iff_not] at hge
  rw [g2,show i.toNat = eQ.length by omega]
theorem ug {eQ : List aj} (hc : COk eQ) {c : Int} {i : Nat} (hi : i < eQ.length) : -1000000 ≤ pI eQ c i ∧ pI eQ c i ≤ 1000000:=by
 have hmx:=hc.max
 have hq:=hc.q _ (List.mem_of_getElem? (List.getElem?_eq_getElem hi))
 have e : qAt eQ i = eQ[i]:=uP (List.getElem?_eq_getElem hi)
 unfold pI
 rw [e]
 split
 ·rename_i h
  have hN : 0 ≤ (eQ[i]).N ∧ (eQ[i]).N < eQ.length:=by unfold QOk at hq; rcases h with h | h <;> simp [h] at hq <;> omega
  have h1:=pJ eQ c (eQ[i]).N.toNat
  have h2:=pJ eQ c i
  omega
 ·omega
theorem zj {eQ : List aj} (hc : COk eQ) {c : Int} (h : 1 ≤ c ∧ c ≤ 8) : jV eQ c = some (tk eQ c eQ.length):=by
 have hmx:=hc.max
 refine Tot.eq ?_
 unfold jV
 rw [wJ hc h,ob9]
 refine .bind (P:=fun r=>r = tk eQ c eQ.length) (.iter (fun s=>0 ≤ s.2 ∧ s.2 ≤ (eQ.length : Int) ∧ s.1 = tk eQ c s.2.toNat) (fun s=>((eQ.length : Int) - s.2).toNat) ⟨by simp,by simp,rfl⟩ fun s hs=>?_) fun r hr=>.pure hr
 obtain ⟨out,i⟩:=s
 obtain ⟨g0,g1,g2⟩:=hs
 simp only at g0 g1 g2
 unfold lu
 refine .sel (fun hlt=>?_) fun hge=>.inr (show out = _ from ?_)
 ·simp only [decide_eq_true_eq] at hlt
  obtain ⟨q,e1,e2,hq⟩:=hc.at g0 hlt
  have h6:=pJ eQ c i.toNat
  have hql:=(lI q c (pI eQ c i.toNat)).2.1
  have hof:=ug hc (c:=c) (i:=i.toNat) (by omega)
  dsimp only
  rw [e1]
  simp only [ob9]
  refine .bind (P:=fun y=>y = pI eQ c i.toNat) (.bind (P:=fun b=>b = true ↔ (q.Op = 4 ∨ q.Op = 5)) (.sel (fun h=>.pure ?_) fun h=>.pure ?_) fun b hb=>.sel (fun h=>?_) fun h=>.pure ?_) fun y hy=>?_
  ·simp at h; simp [h]
  ·simp at h; simp [h]
  ·have ho:=hb.1 h
   have hN : 0 ≤ q.N ∧ q.N < eQ.length:=by unfold QOk at hq; rcases ho with h | h <;> simp [h] at hq <;> omega
   have h7:=pJ eQ c q.N.toNat
   rw [xj hN.1 hN.2,xj g0 hlt,ob9,ob9,bf (i:=_ - _) (by omega) (by omega),bf (by omega) (by omega)]
   unfold pI
   rw [e2,if_pos ho]; exact .pure rfl
  ·unfold pI; rw [e2,if_neg (fun hh=>by rw [hb.2 hh] at h; cases h)]
  ·subst hy
   rw [vF hq h hof,ob9]
   refine .bind (.app (by subst g2; rw [pb]; omega)) fun r hr=>.inl ?_
   rw [bI g0 (by omega)]
   refine ⟨⟨by simp only; omega,by simp only; omega,?_⟩,by simp only; omega⟩
   simp only
   rw [show (i + 1).toNat = i.toNat + 1 by omega,tk,hr,g2,blk,e2]
 ·simp only [decide_eq_false_iff_not] at hge
  rw [g2,show i.toNat = eQ.length by omega]
theorem zk {l : List Int} (h : ∀ x ∈ l,(fun n=>(Lit.int .u8 n).wf = true) x) : ∀ x ∈ l,0 ≤ x ∧ x ≤ 255:=fun x hx=>by
 have h1 : (Lit.int .u8 x).wf = true:=h x hx
 simp [Lit.wf,IntKind.min,IntKind.max,IntKind.signed,IntKind.bits] at h1
 omega
end
noncomputable section
theorem kT {c p s : Int} (hc : 1 ≤ c ∧ c ≤ 8) (hp : Rg p) (hs : 0 ≤ s ∧ s ≤ 31) : 0 ≤ lj c p s ∧ lj c p s ≤ 31:=by
 unfold lj
 split
 ·rename_i h
  unfold Rg at hp
  rcases (by omega : p = 0 ∨ p = 1 ∨ p = 2 ∨ p = 3 ∨ p = 4 ∨ p = 5 ∨ p = 6 ∨ p = 7) with rfl | rfl | rfl | rfl | rfl | rfl | rfl | rfl <;> decide
 ·exact hs
theorem xk {n : Int} (h : 1 ≤ n ∧ n ≤ 12) : 1 ≤ wI n ∧ wI n ≤ 11:=by
 rcases (by omega : n = 1 ∨ n = 2 ∨ n = 3 ∨ n = 4 ∨ n = 5 ∨ n = 6 ∨ n = 7 ∨ n = 8 ∨ n = 9 ∨ n = 10 ∨ n = 11 ∨ n = 12) with rfl | rfl | rfl | rfl | rfl | rfl | rfl | rfl | rfl | rfl | rfl | rfl <;> decide
def All (l : List Instr) : Prop:=∀ x ∈ l,IOk x
theorem All.nil : All []:=fun x h=>by cases h
theorem All.cons {x : Instr} {l : List Instr} (h : IOk x) (k : All l) : All (x :: l):=fun y hy=>by
 rcases List.mem_cons.1 hy with rfl | hy
 ·exact h
 ·exact k y hy
theorem All.app {l l' : List Instr} (h : All l) (k : All l') : All (l ++ l'):=fun y hy=>(List.mem_append.1 hy).elim (h y) (k y)
theorem q0 : (0 : Int) ≤ 0 ∧ (0 : Int) ≤ 31:=by decide
theorem q2 : (0 : Int) ≤ 2 ∧ (2 : Int) ≤ 31:=by decide
theorem q7 : (0 : Int) ≤ 7 ∧ (7 : Int) ≤ 31:=by decide
theorem jh {d s i : Int} (hd : 0 ≤ d ∧ d ≤ 31) (hs : 0 ≤ s ∧ s ≤ 31) (hi : -2048 ≤ i ∧ i ≤ 2047) {op : Int} (ho : 12 ≤ op ∧ op ≤ 15) : IOk ⟨op,d,s,0,i⟩:=⟨hd,hs,q0,.inr (.inl ⟨ho.1,ho.2,rfl,hi.1,hi.2⟩)⟩
theorem ot {c p s : Int} (hc : 1 ≤ c ∧ c ≤ 8) (hp : Rg p) (hs : 0 ≤ s ∧ s ≤ 31) : All (rdL c p s):=by
 unfold rdL Rg at *
 split
 ·exact .nil
 ·exact .cons (jh hs (by omega) (by omega) (by omega)) .nil
theorem su {c p : Int} (hc : 1 ≤ c ∧ c ≤ 8) (hp : Rg p) : All (wrL c p):=by
 unfold wrL Rg at *
 split
 ·exact .nil
 ·exact .cons ⟨q0,q2,q7,.inr (.inr (.inl ⟨rfl,rfl,by show -2048 ≤ 4 * (p - c); omega,by show 4 * (p - c) ≤ 2047; omega⟩))⟩ .nil
theorem mS {n : Int} (h : 0 ≤ n ∧ n ≤ 5) : All (nN n):=.cons (jh (by omega) (by omega) (by omega) (by omega)) (.cons (jh (by omega) (by omega) (by omega) (by omega)) .nil)
theorem wK {d n : Int} (hd : 0 ≤ d ∧ d ≤ 31) (hn : Wd n) : All (nk d n):=by
 unfold nk
 split
 ·exact .cons (jh hd (by omega) (by omega) (by omega)) .nil
 ·refine .cons ?_ (.cons (jh hd hd ?_ (by omega)) .nil)
  ·exact ⟨hd,q0,q0,.inr (.inr (.inr (.inr (.inl ⟨rfl,rfl,rfl,by show 0 ≤ wH n; unfold wH; omega,by show wH n ≤ 1048575; unfold wH; omega⟩))))⟩
  ·unfold vD; split <;> omega
theorem xV {q : aj} {m c off : Int} (hq : QOk m q) (hc : 1 ≤ c ∧ c ≤ 8) (ho : -1000000 ≤ off ∧ off ≤ 1000000) (he : off % 2 = 0) : All (mR q c off):=by
 unfold QOk at hq
 unfold mR
 split
 ·rename_i h1
  simp [h1] at hq
  exact (wK (kT hc (hq.1) (by omega)) (hq.2.2.2)).app (su hc (hq.1))
 split
 ·rename_i h1 h2
  simp [h2] at hq
  exact ((ot hc (hq.2.1) (by omega)).app (.cons (jh (kT hc (hq.1) (by omega)) (kT hc (hq.2.1) (by omega)) (by omega) (by omega)) .nil)).app (su hc (hq.1))
 split
 ·rename_i h1 h2 h3
  simp [h3] at hq
  have r1:=kT (c:=c) (p:=q.Dst) (s:=7) hc (hq.1) (by omega)
  have r2:=kT (c:=c) (p:=q.A) (s:=5) hc (hq.2.1) (by omega)
  have r3:=kT (c:=c) (p:=q.B) (s:=6) hc (hq.2.2.1) (by omega)
  have r4:=xk (n:=q.N) (by omega)
  refine (((ot hc (hq.2.1) (by omega)).app (ot hc (hq.2.2.1) (by omega))).app (.cons ⟨r1,r2,r3,.inl ⟨r4.1,r4.2,rfl⟩⟩ .nil) |>.app ?_).app (su hc (hq.1))
  ·split
   ·exact .cons (jh r1 r1 (by omega) (by omega)) .nil
   ·exact .nil
 split
 ·exact .cons ⟨q0,q0,q0,.inr (.inr (.inr (.inr (.inr (.inl ⟨rfl,rfl,rfl,by show -1048576 ≤ off; omega,by show off ≤ 1048574; omega,he⟩)))))⟩ .nil
 split
 ·rename_i h1 h2 h3 h4 h5
  simp [h5] at hq
  have r2:=kT (c:=c) (p:=q.A) (s:=5) hc (hq.2.1) (by omega)
  have l1:=qq c q.A 5
  refine ((ot hc (hq.2.1) (by omega)).app (.cons ⟨q0,r2,q0,.inr (.inr (.inr (.inl ⟨.inr rfl,rfl,(by decide : (-4096 : Int) ≤ 8),(by decide : (8 : Int) ≤ 4094),(rfl : (8 : Int) % 2 = 0)⟩)))⟩ .nil)).app (.cons ?_ .nil)
  refine ⟨q0,q0,q0,.inr (.inr (.inr (.inr (.inr (.inl ⟨rfl,rfl,rfl,?_,?_,?_⟩)))))⟩
  ·show -1048576 ≤ off - 4 * (((rdL c q.A 5).length : Int) + 1); omega
  ·show off - 4 * (((rdL c q.A 5).length : Int) + 1) ≤ 1048574; omega
  ·show (off - 4 * (((rdL c q.A 5).length : Int) + 1)) % 2 = 0; omega
 split
 ·rename_i h1 h2 h3 h4 h5 h6
  simp [h6] at hq
  have r2:=kT (c:=c) (p:=q.A) (s:=5) hc (hq.2.1) (by omega)
  exact ((ot hc (hq.2.1) (by omega)).app (.cons (jh (by omega) r2 (by omega) (by omega)) (.cons (jh (by omega) (by omega) (by omega) (by omega)) .nil))).app (mS (by omega))
 split
 ·rename_i h1 h2 h3 h4 h5 h6 h7
  simp [h7] at hq
  exact (((All.cons (jh (by omega) (by omega) (by omega) (by omega)) .nil).app (mS (by omega))).app (.cons (jh (kT hc (hq.1) (by omega)) (by omega) (by omega) (by omega)) .nil)).app (su hc (hq.1))
 split
 ·exact mS (by omega)
 split
 ·rename_i h1 h2 h3 h4 h5 h6 h7 h8 h9
  simp [h9] at hq
  have r2:=kT (c:=c) (p:=q.A) (s:=5) hc (hq.2.1) (by omega)
  exact ((ot hc (hq.2.1) (by omega)).app (.cons (jh (by omega) r2 (by omega) (by omega)) .nil)).app (mS (by omega))
 ·exact mS (by omega)
theorem zl (eQ : List aj) (c : Int) (i : Nat) : pI eQ c i % 2 = 0:=by
 unfold pI; split <;> omega
theorem wL {eQ : List aj} (hc : COk eQ) {c : Int} (h : 1 ≤ c ∧ c ≤ 8) : ∀ i,i ≤ eQ.length → All (tk eQ c i)
 | 0,_=>.nil
 | i + 1,hi=>by
  have e : qAt eQ i = eQ[i]:=uP (List.getElem?_eq_getElem (by omega))
  have hq:=hc.q _ (List.mem_of_getElem? (List.getElem?_eq_getElem (show i < eQ.length by omega)))
  refine (wL hc h i (by omega)).app ?_
  unfold blk
  rw [e]
  exact xV hq h (ug hc (by omega)) (zl eQ c i)
end
noncomputable section
variable {b : List Int} {p m : Int}
theorem zm (hb : By b) {k : Nat} (hk : 20 ≤ k) (h0 : 0 ≤ p) (hm : p ≤ m) (hp : m ≤ 100000) : Dr (iY k ⟨b,p⟩) (m + 150001) fun l=>1 ≤ l.length ∧ l.length ≤ 3 ∧ ∀ c ∈ l,COk c ∧ c.length ≤ 40:=by
 unfold iY
 refine .bind (bg hb h0 hm (by omega) (by omega) (by omega)) fun x p1 hx h1 h2=>?_
 dsimp only
 obtain ⟨n,hn⟩ : ∃ n : Int,n = 1 + x:=⟨_,rfl⟩
 have hw : w64 (1 + x) = n:=by rw [bf (by omega) (by omega),hn]
 refine .tot (P:=fun r=>0 ≤ r.2 ∧ r.2 ≤ m + 1 + 150000 ∧ (r.1.length : Int) = n ∧ ∀ c ∈ r.1,COk c ∧ c.length ≤ 40) (.iter (fun s=>0 ≤ s.2.1 ∧ s.2.1 ≤ n ∧ 0 ≤ s.2.2 ∧ s.2.2 ≤ m + 1 + 50000 * s.2.1 ∧ (s.1.length : Int) = s.2.1 ∧ ∀ c ∈ s.1,COk c ∧ c.length ≤ 40) (fun s=>(n - s.2.1).toNat) ⟨by simp,by simp only; omega,h1,by simp only; omega,by simp,by simp⟩ fun s hs=>?_) fun r hr=>?_
 ·obtain ⟨out,i,q⟩:=s
  obtain ⟨g0,g1,g2,g3,g4,g5⟩:=hs
  simp only at g0 g1 g2 g3 g4 g5
  unfold kG
  dsimp only
  rw [hw,bI g0 (by omega)]
  refine .sel (fun h=>?_) fun h=>.inr (show 0 ≤ q ∧ q ≤ m + 1 + 150000 ∧ (out.length : Int) = n ∧ ∀ c ∈ out,COk c ∧ c.length ≤ 40 from ?_)
  ·simp only [decide_eq_true_eq] at h
   refine .bind (Ar hb hk g2 g3 (by omega)) fun y hy=>.bind (.app (l:=out) (by simp; omega)) fun r hr=>.inl ?_
   subst hr
   refine ⟨⟨by simp only; omega,by simp only; omega,hy.1,by have:=hy.2.1; simp only; omega,by simp; omega,fun z hz=>?_⟩,by simp only; omega⟩
   simp only [List.mem_append,List.mem_singleton] at hz
   rcases hz with hz | rfl
   ·exact g5 z hz
   ·exact hy.2.2
  ·simp only [decide_eq_false_iff_not] at h
   exact ⟨g2,by omega,by omega,g5⟩
 ·exact .pure ⟨by have:=hr.2.2.1; omega,by have:=hr.2.2.1; omega,hr.2.2.2⟩ hr.1 (by have:=hr.2.1; omega)
def LOk (l : List (List Instr)) : Prop:=1 ≤ l.length ∧ l.length ≤ 3 ∧ ∀ x ∈ l,x.length ≤ 240 ∧ All x
end
noncomputable section
theorem xW {x : Instr} (h : IOk x) : bh x = some true:=by
 obtain ⟨b,v1,v2⟩:=vq x
 rw [ol,decide_eq_true h] at v1
 rw [v2,← o9 v1]
theorem wM {r1 r2 : Int} (h1 : 1 ≤ r1 ∧ r1 ≤ 4) (h2 : 1 ≤ r2 ∧ r2 ≤ 4) : nM [r1,r2] = true:=by
 have s0 : bU [r1,r2] 0 = some (.inl 1):=by
  unfold bU ax
  rw [show nth [r1,r2] 0 = some r1 from rfl]
  simp only [ob9]
  rw [decide_eq_true (show r1 ≥ 1 from h1.1),decide_eq_true (show r1 ≤ 4 from h1.2)]
  rfl
 have s1 : bU [r1,r2] 1 = some (.inl 2):=by
  unfold bU ax
  rw [show nth [r1,r2] 1 = some r2 from rfl]
  simp only [ob9]
  rw [decide_eq_true (show r2 ≥ 1 from h2.1),decide_eq_true (show r2 ≤ 4 from h2.2)]
  rfl
 have s2 : bU [r1,r2] 2 = some (.inr (.inr ())):=rfl
 unfold nM d8
 rw [cw,s0]
 simp only
 rw [cw,s1]
 simp only
 rw [cw,s2]
 rfl
end
noncomputable section
theorem jb {l : List Int} (hl : l.length ≤ 1048576) : dz l l = some true:=by
 unfold dz
 refine ab (by simp) ?_
 have e:=j6 (f:=fr l l) (l:=l) (fun _=>true) (by omega) (fun i hi=>by
  unfold fr
  exact ai (by simpa using hi) (aa (cG hi) (aa (cG hi) (ab (by simp) rfl)))) (by
  unfold fr
  exact ab (by simp) rfl)
 rw [show l.all (fun _=>true) = true by simp] at e
 exact aa e rfl
theorem qr {m : ah} (h1 : m.Regs.length ≤ 1048576) (h2 : m.Mem.length ≤ 1048576) : ft m m = some true:=by
 unfold ft
 exact aa (y:=true) (ai (by simp) (aa (jb h1) rfl)) (aa (y:=true) (ai rfl (aa (jb h2) rfl)) rfl)
theorem tf {l : List Int} (h : ∀ x ∈ l,Wd x) : l.all wdB = true:=by
 rw [List.all_eq_true]
 intro x hx
 have:=h x hx
 unfold Wd at this
 unfold wdB
 simp
 exact this
theorem xl {r : List Int} {pc : Int} {m : List Int} (hM : MOK r pc m) (h0 : r[0]? = some 0) : dc ⟨r,pc,m⟩ = some true ∧ j1 ⟨r,pc,m⟩ = some true:=by
 have h32:=hM.r32
 have h10:=hM.m10
 have hn:=cG (l:=r) (i:=0) (by omega)
 have g0 : (r[0]'(by omega) == 0) = true:=by
  rw [List.getElem?_eq_getElem (by omega)] at h0
  rw [o9 h0]; rfl
 have w1 : cT r = some true:=(lH r (by omega)).trans (by rw [tf hM.wr])
 have w2 : cT m = some true:=(lH m (by omega)).trans (by rw [tf hM.wm])
 have w3 : cR pc = some true:=by
  have:=hM.wp
  unfold Wd at this
  unfold cR
  rw [decide_eq_true (by omega),decide_eq_true (by omega)]; rfl
 have key : dc ⟨r,pc,m⟩ = some true:=by
  unfold dc
  exact aa (y:=true) (ai (by simp [h32]) (aa w1 rfl)) (aa (y:=true) (ai rfl (aa hn (congrArg some g0))) (aa (y:=true) (ai rfl (aa w3 rfl)) (aa (y:=true) (ai (by simp; omega) (aa w2 rfl)) rfl)))
 obtain ⟨b,v1,v2,_⟩:=B1 r pc m (by omega) (by omega)
 rw [v2] at key
 rw [v1,v2]
 exact ⟨key,key⟩
theorem AY : ∀ {l : List Instr} {ws : List Int},wl l = some ws → ∀ x ∈ ws,Wd x
 | [],ws,h=>by simp only [wl,Option.some.injEq] at h; subst h; intro x hx; cases hx
 | x :: xs,ws,h=>by
  simp only [wl] at h
  split at h
  ·rename_i w ws' h1 h2
   injection h with h
   subst h
   intro y hy
   rcases List.mem_cons.1 hy with rfl | hy
   ·rcases ng x with ⟨r,_,_,e⟩ | ⟨r,_,_,e⟩
    ·rw [e] at h1
     rw [← o9 h1]
     exact pC r
    ·rw [e] at h1; cases h1
   ·exact AY h2 y hy
  ·cases h
end
noncomputable section
theorem B6 {k f3 f7 : Nat} (hk : k < 21) (h3 : k < 18 → f3 = t3 k) (h7 : k < 11 → f7 = t7 k) : So (tO k) f3 f7 = k + 1:=by
 rcases Nat.lt_or_ge k 11 with h | h
 ·obtain rfl:=h3 (by omega)
  obtain rfl:=h7 h
  rcases (by omega : k = 0 ∨ k = 1 ∨ k = 2 ∨ k = 3 ∨ k = 4 ∨ k = 5 ∨ k = 6 ∨ k = 7 ∨ k = 8 ∨ k = 9 ∨ k = 10) with rfl | rfl | rfl | rfl | rfl | rfl | rfl | rfl | rfl | rfl | rfl <;> rfl
 rcases Nat.lt_or_ge k 18 with h' | h'
 ·obtain rfl:=h3 h'
  rcases (by omega : k = 11 ∨ k = 12 ∨ k = 13 ∨ k = 14 ∨ k = 15 ∨ k = 16 ∨ k = 17) with rfl | rfl | rfl | rfl | rfl | rfl | rfl <;> rfl
 ·rcases (by omega : k = 18 ∨ k = 19 ∨ k = 20) with rfl | rfl | rfl <;> rfl
theorem BA {i : Instr} {r : Nat} (hr : r < 4294967296) (h : Fl i r) (he : bG i = some (r : Int)) : cE (r : Int) = some (i,true):=by
 obtain ⟨x,b,d1,d2,_⟩:=vZ r hr
 have key : dl (r : Int) = some (i,true):=by
  obtain ⟨k,hk,ho,f1,f2,f3,f4⟩:=h
  have hop : kI (r : Int) = some ((k : Int) + 1):=by
   rw [xd r hr]
   have e1 : r / 2 ^ 0 % 2 ^ 7 = tO k:=by simp only [Nat.pow_zero,Nat.div_one,Nat.reducePow]; exact f1
   have e2:=B6 (f3:=r / 2 ^ 12 % 2 ^ 3) (f7:=r / 2 ^ 25 % 2 ^ 7) hk (fun h=>by simp only [Nat.reducePow]; exact f2 h) (fun h=>by simp only [Nat.reducePow]; exact f3 h)
   rw [e1,e2]
   rfl
  have e1 : (decide ((r : Int) ≥ 0) && decide ((r : Int) ≤ 4294967295)) = true:=by rw [decide_eq_true (by omega),decide_eq_true (by omega)]; rfl
  unfold dl ax
  rw [e1]
  rw [ho] at f4
  have hz : ((k : Int) + 1 == 0) = false:=by simp; omega
  simp only [ob9,Bool.not_true,hop,f4,he,hz,sel,bne_self_eq_false]
 rw [d1] at key
 rw [d2]
 exact key
theorem zn {x : Instr} {w : Int} (h : pE x = some w) : ∃ u : Nat,bW w = some (u : Int) ∧ cE (u : Int) = some (x,true):=by
 obtain ⟨r,b,h1,h2,h3,h4,h5,h6,h7⟩:=wn x
 unfold pE at h
 rw [h3] at h
 cases b
 ·cases h
 ·obtain rfl:=o9 h
  have hb:=pC (r : Int)
  obtain ⟨u,u1,u2,u3,_⟩:=j5 (x:=bT (r : Int)) hb.1 hb.2
  have : u = r:=by
   have : bT (r : Int) % 4294967296 = (r : Int):=by unfold bT; split <;> omega
   omega
  subst this
  exact ⟨u,u3,BA h1 (h7 rfl) (h4 rfl)⟩
theorem zo : ∀ {l : List Instr} {ws : List Int},wl l = some ws → ∀ (i : Nat) (x : Instr),l[i]? = some x → ∃ (w : Int) (u : Nat),ws[i]? = some w ∧ bW w = some (u : Int) ∧ cE (u : Int) = some (x,true)
 | [],ws,h,i,x,hx=>by simp at hx
 | y :: ys,ws,h,i,x,hx=>by
  simp only [wl] at h
  split at h
  ·rename_i w ws' h1 h2
   injection h with h
   subst h
   cases i with
   | zero =>
    obtain rfl : y = x:=by simpa using hx
    obtain ⟨u,u1,u2⟩:=zn h1
    exact ⟨w,u,rfl,u1,u2⟩
   | succ i=>exact zo h2 i x (by simpa using hx)
  ·cases h
theorem xm (l : List Instr) (hl : l.length ≤ 1000) : (wl l = none ∧ eL l = some (⟨[],0,[]⟩,false) ∧ dW l = some (⟨[],0,[]⟩,false)) ∨
  ∃ ws,wl l = some ws ∧ eL l = some (⟨(List.replicate 32 (0 : Int)).set 2 (4 * ((l.length : Int) + 1)),4,0 :: ws ++ List.replicate 12 0⟩,true) ∧ dW l = some (⟨(List.replicate 32 (0 : Int)).set 2 (4 * ((l.length : Int) + 1)),4,0 :: ws ++ List.replicate 12 0⟩,true):=by
 have w:=yJ l (by omega)
 obtain ⟨m',c⟩:=wo l [0] (by simp; omega)
 have hmk : mk 8 32 (0 : Int) = some (List.replicate 32 0):=rfl
 cases hw : wl l with
 | none =>
  rw [hw] at w c
  refine .inl ⟨rfl,?_,?_⟩
  ·unfold eL
   exact aa w (ai rfl rfl)
  ·unfold dW
   exact ab (by simp; omega) (aa c (ai rfl rfl))
 | some ws =>
  rw [hw] at w c
  have hlen:=kK hw
  have ha : app 8 [0] ws = some ([0] ++ ws):=dY (by simp; omega)
  have hz : vd 8 ([0] ++ ws) 12 0 = some ([0] ++ ws ++ List.replicate 12 0):=Af (k:=12) (by simp; omega)
  have e1 : w64 (4 * ((([0] ++ ws : List Int).length : Nat) : Int)) = 4 * ((l.length : Int) + 1):=by
   rw [List.length_append,List.length_singleton,hlen,aK (by omega) (by omega)]; omega
  have hu : upd (List.replicate 32 (0 : Int)) 2 (w64 (4 * ((([0] ++ ws : List Int).length : Nat) : Int))) = some ((List.replicate 32 (0 : Int)).set 2 (4 * ((l.length : Int) + 1))):=by rw [e1]; rfl
  have hn : nth (List.replicate 32 (0 : Int)) 2 = some 0:=rfl
  refine .inr ⟨ws,rfl,?_,?_⟩
  ·unfold eL
   refine aa w (ab ?_ (aa hmk (aa ha (aa hn (aa hu (aa hz rfl))))))
   simp only [Bool.not_true,Bool.false_or]
   rw [aK (x:=(ws.length : Int) + 1) (by omega) (by omega),aK (by omega) (by omega)]
   simp; omega
  ·unfold dW
   exact ab (by simp; omega) (aa c (ab rfl (aa hmk (aa hn (aa hu (aa hz rfl))))))
theorem zp {l : List Instr} {ws : List Int} (hl : l.length ≤ 1000) (hw : wl l = some ws) : MOK ((List.replicate 32 (0 : Int)).set 2 (4 * ((l.length : Int) + 1))) 4 (0 :: ws ++ List.replicate 12 0):=by
 have hlen:=kK hw
 refine ⟨rfl,by simp; omega,?_,?_,by unfold Wd; omega⟩
 ·intro x hx
  unfold Wd
  rcases List.mem_or_eq_of_mem_set hx with hm | rfl
  ·have:=List.eq_of_mem_replicate hm; omega
  ·omega
 ·intro x hx
  rw [List.cons_append] at hx
  rcases List.mem_cons.1 hx with rfl | hx
  ·unfold Wd; omega
  ·rcases List.mem_append.1 hx with hx | hx
   ·exact AY hw x hx
   ·have:=List.eq_of_mem_replicate hx; unfold Wd; omega
end
noncomputable section
theorem mt {α : Type} {l : List α} {n : Nat} {x : α} (h : l[n]? = some x) : nth l (n : Int) = some x:=by
 unfold nth
 rw [if_neg (by omega)]
 simpa using h
def mp {α β : Type} (g : α → Option β) : List α → Option (List β)
 | []=>some []
 | x :: xs=>match g x,mp g xs with
  | some y,some ys=>some (y :: ys)
  | _,_=>none
theorem zq {α β : Type} {g : α → Option β} : ∀ {l : List α} {ys : List β},mp g l = some ys → ys.length = l.length ∧ ∀ (i : Nat) x,l[i]? = some x → ∃ y,g x = some y ∧ ys[i]? = some y
 | [],ys,h=>by simp only [mp,Option.some.injEq] at h; subst h; exact ⟨rfl,fun i x hx=>by simp at hx⟩
 | x :: xs,ys,h=>by
  simp only [mp] at h
  split at h
  ·rename_i y ys' h1 h2
   injection h with h
   subst h
   obtain ⟨k1,k2⟩:=zq h2
   refine ⟨by simp [k1],fun i z hz=>?_⟩
   cases i with
   | zero =>
    obtain rfl : x = z:=by simpa using hz
    exact ⟨y,h1,rfl⟩
   | succ i=>exact k2 i z (by simpa using hz)
  ·cases h
theorem xn {α β ρ : Type} {f : Int × List β → Option ((Int × List β) ⊕ (ρ ⊕ List β))} {l : List α} {g : α → Option β} {z : ρ}
  (h1 : ∀ (i : Nat) acc x,l[i]? = some x → acc.length = i → f ((i : Int),acc) = some (match g x with | some y=>.inl (((i + 1 : Nat) : Int),acc ++ [y]) | none=>.inr (.inl z)))
  (h2 : ∀ acc,acc.length = l.length → f ((l.length : Int),acc) = some (.inr (.inr acc))) : bE f (0,[]) = some (match mp g l with | some ys=>.inr ys | none=>.inl z):=by
 have key : ∀ (suf pre : List α) (acc : List β),l = pre ++ suf → acc.length = pre.length → bE f ((pre.length : Int),acc) = some (match mp g suf with | some ys=>.inr (acc ++ ys) | none=>.inl z):=by
  intro suf
  induction suf with
  | nil =>
   intro pre acc hl ha
   rw [List.append_nil] at hl
   subst hl
   rw [cw,h2 acc ha]
   simp [mp]
  | cons x xs ih =>
   intro pre acc hl ha
   have hx : l[pre.length]? = some x:=by rw [hl,List.getElem?_append_right (Nat.le_refl _),Nat.sub_self]; rfl
   rw [cw,h1 _ acc x hx ha]
   simp only [mp]
   cases hg : g x with
   | none=>simp
   | some y =>
    simp only
    have:=ih (pre ++ [x]) (acc ++ [y]) (by rw [hl,List.append_assoc]; rfl) (by simp [ha])
    rw [List.length_append,List.length_singleton] at this
    rw [this]
    cases mp g xs with
    | none=>rfl
    | some ys=>simp
 have:=key l [] [] rfl rfl
 simpa using this
theorem ou {α β : Type} {f : List β × Int → Option ((List β × Int) ⊕ List β)} {l : List α} {g : α → β} (h1 : ∀ (i : Nat) acc x,l[i]? = some x → acc.length = i → f (acc,(i : Int)) = some (.inl (acc ++ [g x],((i + 1 : Nat) : Int))))
  (h2 : ∀ acc,acc.length = l.length → f (acc,(l.length : Int)) = some (.inr acc)) : bE f ([],0) = some (l.map g):=by
 have key : ∀ (suf pre : List α) (acc : List β),l = pre ++ suf → acc.length = pre.length → bE f (acc,(pre.length : Int)) = some (acc ++ suf.map g):=by
  intro suf
  induction suf with
  | nil =>
   intro pre acc hl ha
   rw [List.append_nil] at hl
   subst hl
   rw [cw,h2 acc ha]
   simp
  | cons x xs ih =>
   intro pre acc hl ha
   have hx : l[pre.length]? = some x:=by rw [hl,List.getElem?_append_right (Nat.le_refl _),Nat.sub_self]; rfl
   rw [cw,h1 _ acc x hx ha]
   simp only
   have:=ih (pre ++ [x]) (acc ++ [g x]) (by rw [hl,List.append_assoc]; rfl) (by simp [ha])
   rw [List.length_append,List.length_singleton] at this
   rw [this]
   simp
 exact key l [] [] rfl rfl
end
noncomputable section
def hM (n : Nat) (ws : List Int) : ah:=⟨(List.replicate 32 (0 : Int)).set 2 (4 * ((n : Int) + 1)),4,0 :: ws ++ List.replicate 12 0⟩
def hN (l : List Instr) : Option ah:=match wl l with
 | some ws=>some (hM l.length ws)
 | none=>none
theorem AZ {l : List Instr} (hl : l.length ≤ 1000) : eL l = some (match hN l with | some m=>(m,true) | none=>(⟨[],0,[]⟩,false)) ∧ dW l = some (match hN l with | some m=>(m,true) | none=>(⟨[],0,[]⟩,false)):=by
 rcases xm l hl with ⟨h,e1,e2⟩ | ⟨ws,h,e1,e2⟩
 ·unfold hN; rw [h]; exact ⟨e1,e2⟩
 ·unfold hN; rw [h]; exact ⟨e1,e2⟩
theorem xX {rooms : List Int} (h : rooms.length ≤ 1000) : i4 rooms = some (rooms.map fun r=>Box.mk r []) ∧ i5 rooms = some (rooms.map fun r=>Box.mk r []):=by
 refine ⟨?_,?_⟩
 ·unfold i4
  refine aa (ou (fun i acc x hx ha=>?_) fun acc ha=>?_) rfl
  ·have hi : i < rooms.length:=by rcases Nat.lt_or_ge i rooms.length with h | h; exact h; rw [List.getElem?_eq_none h] at hx; cases hx
   unfold hZ
   exact ai (by simpa using hi) (aa (mt hx) (aa (dY (by simp; omega)) (by rw [fK (by omega)])))
  ·unfold hZ
   exact ab (by simp) rfl
 ·unfold i5
  refine aa (ou (fun i acc x hx ha=>?_) fun acc ha=>?_) rfl
  ·have hi : i < rooms.length:=by rcases Nat.lt_or_ge i rooms.length with h | h; exact h; rw [List.getElem?_eq_none h] at hx; cases hx
   unfold ia
   exact ai (by simpa using hi) (aa (mt hx) (aa (dY (by simp; omega)) (by rw [fK (by omega)])))
  ·unfold ia
   exact ab (by simp) rfl
def sqR (rooms : List Int) (rW : List (List Instr)) : aE × Bool:=
 if nM rooms = true ∧ 1 ≤ rW.length ∧ rW.length ≤ 3 then match mp hN rW with
  | some ms=>(aE.mk ms (rooms.map fun r=>Box.mk r []) 0 0 [],true)
  | none=>(aE.mk [] [] 0 0 [],false)
 else (aE.mk [] [] 0 0 [],false)
theorem vG {rooms : List Int} {rW : List (List Instr)} (h1 : rooms.length ≤ 1000) (h2 : rW.length ≤ 1000) (h3 : ∀ x ∈ rW,x.length ≤ 1000) : f0 rooms rW = some (sqR rooms rW) ∧ i6 rooms rW = some (sqR rooms rW):=by
 obtain ⟨b,r1,r2⟩:=yL rooms (by omega)
 have hrb : nM rooms = b:=by unfold nM; rw [r1]; rfl
 obtain ⟨b1,b2⟩:=xX h1
 have L1:=xn (f:=fp rW) (l:=rW) (g:=hN) (z:=(aE.mk [] [] 0 0 [],false)) (fun i acc x hx ha=>by
  have hi : i < rW.length:=by rcases Nat.lt_or_ge i rW.length with h | h; exact h; rw [List.getElem?_eq_none h] at hx; cases hx
  have hh:=(AZ (h3 x (List.mem_of_getElem? hx))).1
  unfold fp
  refine ai (by simpa using hi) (aa (mt hx) (aa hh ?_))
  cases hN x with
  | none=>exact ai rfl rfl
  | some m=>exact ab rfl (aa (dY (by simp; omega)) (by rw [fK (by omega)]))) (fun acc ha=>by
  unfold fp
  exact ab (by simp) rfl)
 have L2:=xn (f:=fq rW) (l:=rW) (g:=hN) (z:=(aE.mk [] [] 0 0 [],false)) (fun i acc x hx ha=>by
  have hi : i < rW.length:=by rcases Nat.lt_or_ge i rW.length with h | h; exact h; rw [List.getElem?_eq_none h] at hx; cases hx
  have hh:=(AZ (h3 x (List.mem_of_getElem? hx))).2
  unfold fq
  refine ai (by simpa using hi) (aa (mt hx) (aa hh ?_))
  cases hN x with
  | none=>exact ai rfl rfl
  | some m=>exact ab rfl (aa (dY (by simp; omega)) (by rw [fK (by omega)]))) (fun acc ha=>by
  unfold fq
  exact ab (by simp) rfl)
 unfold f0 i6 ax sqR
 rw [r1,r2,hrb]
 simp only [ob9]
 cases b
 ·exact ⟨ai rfl rfl,aa (y:=true) (ai rfl rfl) (ai rfl rfl)⟩
 rcases (Decidable.em (1 ≤ rW.length ∧ rW.length ≤ 3)).symm with hn | hn
 ·rw [if_neg (by simpa using hn)]
  have c1 : (decide ((rW.length : Int) ≥ 1) && decide ((rW.length : Int) ≤ 3)) = false:=by simp; omega
  exact ⟨ai (by simp; omega) rfl,aa (y:=true) (ab rfl (by rw [c1]; rfl)) (ai rfl rfl)⟩
 ·rw [if_pos (by simpa using hn)]
  have c1 : (decide ((rW.length : Int) ≥ 1) && decide ((rW.length : Int) ≤ 3)) = true:=by rw [decide_eq_true (by omega),decide_eq_true (by omega)]; rfl
  refine ⟨ab (by simp; omega) (aa b1 (aa L1 ?_)),aa (y:=false) (ab rfl (by rw [c1]; rfl)) (ab rfl (aa b2 (aa L2 ?_)))⟩
  ·cases mp hN rW <;> rfl
  ·cases mp hN rW <;> rfl
theorem uQ {b : Box} (h : b.Items.length ≤ 1048576) : jZ b b = some true:=by
 unfold jZ
 exact aa (y:=true) (ai (by simp) (aa (jb h) rfl)) rfl
theorem tg {l : List Box} (hl : l.length ≤ 1048576) (h : ∀ b ∈ l,b.Items.length ≤ 1048576) : gL l l = some true:=by
 unfold gL
 refine ab (by simp) ?_
 have e:=j6 (f:=eM l l) (l:=l) (fun _=>true) (by omega) (fun i hi=>by
  unfold eM
  exact ai (by simpa using hi) (aa (cG hi) (aa (cG hi) (aa (uQ (b:=l[i]) (h _ (List.getElem_mem hi))) (ab rfl rfl))))) (by
  unfold eM
  exact ab (by simp) rfl)
 rw [show l.all (fun _=>true) = true by simp] at e
 exact aa e rfl
theorem nR {s : aE} (h1 : s.Harts.length ≤ 1048576) (h2 : ∀ m ∈ s.Harts,m.Regs.length ≤ 1048576 ∧ m.Mem.length ≤ 1048576) (h3 : s.Boxes.length ≤ 1048576) (h4 : ∀ b ∈ s.Boxes,b.Items.length ≤ 1048576) (h5 : s.Out.length ≤ 1048576) : dE s s = some true:=by
 unfold dE
 refine ab (by simp) ?_
 have e:=j6 (f:=eN s s) (l:=s.Harts) (fun _=>true) (by omega) (fun i hi=>by
  have hm:=h2 _ (List.getElem_mem hi)
  unfold eN
  exact ai (by simpa using hi) (aa (cG hi) (aa (cG hi) (aa (qr (m:=s.Harts[i]) hm.1 hm.2) (ab rfl rfl))))) (by
  unfold eN
  exact ab (by simp) rfl)
 rw [show s.Harts.all (fun _=>true) = true by simp] at e
 refine aa e ?_
 dsimp only [fd,cond_true]
 exact aa (tg h3 h4) (aa (y:=true) (ai rfl (aa (jb h5) rfl)) rfl)
end
noncomputable section
def st (regs : List Int) (rd v : Int) : List Int:=if rd = 0 then regs else regs.set rd.toNat v
theorem pd {regs : List Int} {pc : Int} {mem : List Int} (h32 : regs.length = 32) {rd v : Int} (hr : 0 ≤ rd ∧ rd ≤ 31) : dF (ah.mk regs pc mem) rd v = some (st regs rd v):=by
 obtain ⟨d,rfl,hd⟩:=jp hr.1 hr.2
 unfold dF st
 cases h0 : ((d : Int) != 0)
 ·rw [if_pos (by simpa using h0)]; exact ab rfl rfl
 ·rw [if_neg (by simpa using h0)]
  exact ai rfl (aa (cG (l:=regs) (i:=d) (by omega)) (aa (sQ (l:=regs) (i:=d) (by omega) v) (by simp)))
theorem BB {regs : List Int} {rd v : Int} : (st regs rd v).length = regs.length:=by unfold st; split <;> simp
theorem vH {regs : List Int} {rd v : Int} (hr : 0 ≤ rd) {k : Nat} (h : (k : Int) ≠ rd) : (st regs rd v)[k]? = regs[k]?:=by
 unfold st
 split
 ·rfl
 ·rw [List.getElem?_set_ne (by omega)]
theorem zt {regs : List Int} {k : Nat} {v : Int} (h0 : k ≠ 0) (hk : k < regs.length) : (st regs (k : Int) v)[k]? = some v:=by
 unfold st
 rw [if_neg (by omega),Int.toNat_natCast,List.getElem?_set_self hk]
theorem vI {regs : List Int} {rd v : Int} (hw : ∀ x ∈ regs,Wd x) (hv : Wd v) : ∀ x ∈ st regs rd v,Wd x:=by
 unfold st
 split
 ·exact hw
 ·intro x hx
  rcases List.mem_or_eq_of_mem_set hx with h | h
  ·exact hw x h
  ·exact h ▸ hv
section
variable {regs mem : List Int} {pc rd rs rt imm a b : Int}
theorem th (hM : MOK regs pc mem) (h0 : 0 ≤ pc) (h1 : pc ≤ 40000) (hd : 0 ≤ rd ∧ rd ≤ 31) (ha : nth regs rs = some a) : de (ah.mk regs pc mem) ⟨12,rd,rs,rt,imm⟩ = some (true,st regs rd (bT (w64 (a + imm))),pc + 4,mem):=by
 obtain ⟨n1,n2,n3,n4⟩:=dZ hM h0 h1
 have k1:=pd (pc:=pc) (mem:=mem) hM.r32 hd (v:=bT (w64 (a + imm)))
 exact aa ha (aa (y:=.inl (st regs rd (bT (w64 (a + imm))))) (aa (y:=false) rfl (ab rfl (aa (y:=false) rfl (ab rfl (ai rfl (aa (cJ _) (aa k1 rfl))))))) (by show some (true,_,w64 (pc + 4),mem) = _; rw [n3]))
theorem xY (hM : MOK regs pc mem) (h0 : 0 ≤ pc) (h1 : pc ≤ 40000) (hd : 0 ≤ rd ∧ rd ≤ 31) (hs : 0 ≤ rs ∧ rs ≤ 31) (hi : -1048576 ≤ imm ∧ imm ≤ 1048575) : ∃ v,Wd v ∧ de (ah.mk regs pc mem) ⟨13,rd,rs,rt,imm⟩ = some (true,st regs rd v,pc + 4,mem):=by
 obtain ⟨a,ha,wa⟩:=c9 hM.r32 hM.wr hs
 obtain ⟨n1,n2,n3,n4⟩:=dZ hM h0 h1
 obtain ⟨u1,_,_,p1,p2⟩:=j5 wa.1 wa.2
 obtain ⟨u2,_,_,p3,p4⟩:=j5 (x:=imm) (by omega) (by omega)
 obtain ⟨v,f1,f2,f3⟩:=uH (decide ((u1 : Int) < (u2 : Int)))
 have k1:=pd (pc:=pc) (mem:=mem) hM.r32 hd (v:=v)
 exact ⟨v,f1,aa ha (aa (y:=.inl (st regs rd v)) (aa (y:=false) rfl (ab rfl (aa (y:=false) rfl (ab rfl (ab rfl (ai rfl (aa p2 (aa p4 (aa f2 (aa k1 rfl)))))))))) (by show some (true,_,w64 (pc + 4),mem) = _; rw [n3]))⟩
theorem Aw (hM : MOK regs pc mem) (h0 : 0 ≤ pc) (h1 : pc ≤ 40000) (hd : 0 ≤ rd ∧ rd ≤ 31) (hs : 0 ≤ rs ∧ rs ≤ 31) : ∃ v,Wd v ∧ de (ah.mk regs pc mem) ⟨19,rd,rs,rt,imm⟩ = some (true,st regs rd v,pc + 4,mem):=by
 obtain ⟨a,ha,wa⟩:=c9 hM.r32 hM.wr hs
 obtain ⟨n1,n2,n3,n4⟩:=dZ hM h0 h1
 have k1:=pd (pc:=pc) (mem:=mem) hM.r32 hd (v:=bT (w64 (imm * 4096)))
 exact ⟨_,gj _,aa ha (aa (y:=.inl (st regs rd (bT (w64 (imm * 4096))))) (aa (y:=false) rfl (ab rfl (aa (y:=false) rfl (ab rfl (ab rfl (ab rfl (ai rfl (aa (cJ _) (aa k1 rfl))))))))) (by show some (true,_,w64 (pc + 4),mem) = _; rw [n3]))⟩
theorem Ax {k : Nat} (hk : k < 11) (hM : MOK regs pc mem) (h0 : 0 ≤ pc) (h1 : pc ≤ 40000) (hd : 0 ≤ rd ∧ rd ≤ 31) (hs : 0 ≤ rs ∧ rs ≤ 31) (ht : 0 ≤ rt ∧ rt ≤ 31) : ∃ v,Wd v ∧ de (ah.mk regs pc mem) ⟨(k : Int) + 1,rd,rs,rt,imm⟩ = some (true,st regs rd v,pc + 4,mem):=by
 obtain ⟨a,ha,wa⟩:=c9 hM.r32 hM.wr hs
 obtain ⟨b,hb,wb⟩:=c9 hM.r32 hM.wr ht
 obtain ⟨n1,n2,n3,n4⟩:=dZ hM h0 h1
 obtain ⟨v,f1,f2,_⟩:=yH k hk wa wb
 have k1:=pd (pc:=pc) (mem:=mem) hM.r32 hd (v:=v)
 have c : ∀ n : Int,12 ≤ n → (((k : Int) + 1) == n) = false:=fun n hn=>by simp; omega
 exact ⟨v,f1,aa ha (aa (y:=.inl (st regs rd v)) (aa (y:=false) (ab (c 14 (by decide)) (congrArg some (c 16 (by decide)))) (ab rfl (aa (y:=false) (ab (c 15 (by decide)) (ab (c 20 (by decide)) (ab (c 17 (by decide)) (congrArg some (c 18 (by decide)))))) (ab rfl (ab (c 12 (by decide)) (ab (c 13 (by decide)) (ab (c 19 (by decide)) (aa hb (aa f2 (aa k1 rfl))))))))))
  (by show some (true,_,w64 (pc + 4),mem) = _; rw [n3]))⟩
theorem uR {j : Nat} (hj : j < mem.length) (hl : mem.length ≤ 10000) : fJ mem (4 * (j : Int)) = some true ∧ w64 (Int.tdiv (4 * (j : Int)) 4) = (j : Int):=by
 rcases sr (mem:=mem) [] 0 (a:=4 * (j : Int)) (by unfold Wd; omega) hl with ⟨j',hj',e1,e2,_,e4⟩ | ⟨e2,_⟩
 ·obtain rfl : j' = j:=by omega
  exact ⟨e2,e4⟩
 ·exfalso
  unfold fJ at e2
  rw [Int.tmod_eq_emod_of_nonneg (by omega),Int.tdiv_eq_ediv_of_nonneg (by omega),aK (by omega) (by omega)] at e2
  have:=o9 e2
  simp at this
  omega
theorem BC {j : Nat} (hM : MOK regs pc mem) (h0 : 0 ≤ pc) (h1 : pc ≤ 40000) (hd : 0 ≤ rd ∧ rd ≤ 31) (ha : nth regs rs = some a) (hj : j < mem.length) (hj' : bT (w64 (a + imm)) = 4 * (j : Int)) : de (ah.mk regs pc mem) ⟨14,rd,rs,rt,imm⟩ = some (true,st regs rd mem[j],pc + 4,mem):=by
 obtain ⟨n1,n2,n3,n4⟩:=dZ hM h0 h1
 obtain ⟨e2,e4⟩:=uR hj hM.m10
 have k1:=pd (pc:=pc) (mem:=mem) hM.r32 hd (v:=mem[j])
 have hx' : nth mem (w64 (Int.tdiv (4 * (j : Int)) 4)) = some mem[j]:=by rw [e4]; exact cG hj
 refine aa ha (aa (y:=.inr (true,st regs rd mem[j],pc + 4,mem)) (aa (y:=true) rfl (ai rfl (aa (y:=(true,st regs rd mem[j],pc + 4,mem)) ?_ rfl))) rfl)
 refine aa ha (aa ((cJ _).trans (congrArg some hj')) (aa e2 (ab rfl (aa (y:=(st regs rd mem[j],mem)) (ai rfl (aa hx' (aa k1 rfl))) ?_))))
 show some (true,_,w64 (pc + 4),mem) = _
 rw [n3]
theorem BD {j : Nat} (hM : MOK regs pc mem) (h0 : 0 ≤ pc) (h1 : pc ≤ 40000) (ha : nth regs rs = some a) (hb : nth regs rt = some b) (hj : j < mem.length) (hj' : bT (w64 (a + imm)) = 4 * (j : Int)) : de (ah.mk regs pc mem) ⟨16,rd,rs,rt,imm⟩ = some (true,regs,pc + 4,mem.set j b):=by
 obtain ⟨n1,n2,n3,n4⟩:=dZ hM h0 h1
 obtain ⟨e2,e4⟩:=uR hj hM.m10
 have hx' : nth mem (w64 (Int.tdiv (4 * (j : Int)) 4)) = some mem[j]:=by rw [e4]; exact cG hj
 have hu' : upd mem (w64 (Int.tdiv (4 * (j : Int)) 4)) b = some (mem.set j b):=by rw [e4]; exact sQ hj b
 refine aa ha (aa (y:=.inr (true,regs,pc + 4,mem.set j b)) (aa (y:=true) rfl (ai rfl (aa (y:=(true,regs,pc + 4,mem.set j b)) ?_ rfl))) rfl)
 refine aa ha (aa ((cJ _).trans (congrArg some hj')) (aa e2 (ab rfl (aa (y:=(regs,mem.set j b)) (ab rfl (aa hb (aa hx' (aa hu' rfl)))) ?_))))
 show some (true,regs,w64 (pc + 4),mem.set j b) = _
 rw [n3]
theorem zu (hM : MOK regs pc mem) (h0 : 0 ≤ pc) (h1 : pc ≤ 40000) (hz : nth regs 0 = some 0) : de (ah.mk regs pc mem) ⟨15,1,0,0,0⟩ = some (true,st regs 1 (pc + 4),0,mem):=by
 obtain ⟨n1,n2,n3,n4⟩:=dZ hM h0 h1
 have k1:=pd (pc:=pc) (mem:=mem) hM.r32 (rd:=1) (by omega) (v:=pc + 4)
 refine aa hz (aa (y:=.inr (true,st regs 1 (pc + 4),0,mem)) (aa (y:=false) rfl (ab rfl (aa (y:=true) rfl (ai rfl (aa (y:=(st regs 1 (pc + 4),0)) ?_ rfl))))) rfl)
 exact aa n2 (aa hz (aa hz (ai rfl (aa hz (aa (y:=0) rfl (aa k1 rfl))))))
theorem Ay {q : Int} (hM : MOK regs pc mem) (h0 : 0 ≤ pc) (h1 : pc ≤ 40000) (hz : nth regs 0 = some 0) (hq : bT (w64 (pc + imm)) = q) : de (ah.mk regs pc mem) ⟨20,0,0,0,imm⟩ = some (true,regs,q,mem):=by
 obtain ⟨n1,n2,n3,n4⟩:=dZ hM h0 h1
 have k1:=pd (pc:=pc) (mem:=mem) hM.r32 (rd:=0) (by omega) (v:=pc + 4)
 exact aa hz (aa (y:=.inr (true,regs,q,mem)) (aa (y:=false) rfl (ab rfl (aa (y:=true) rfl (ai rfl (aa (y:=(regs,q)) (aa n2 (aa hz (aa hz (ab rfl (ai rfl (aa k1 (aa ((cJ _).trans (congrArg some hq)) rfl))))))) rfl))))) rfl)
theorem Az {q : Int} (hM : MOK regs pc mem) (h0 : 0 ≤ pc) (h1 : pc ≤ 40000) (hs : 0 ≤ rs ∧ rs ≤ 31) (hz : nth regs 0 = some 0) (hq : bT (w64 (pc + imm)) = q) : ∃ p,(p = pc + 4 ∨ p = q) ∧ de (ah.mk regs pc mem) ⟨18,0,rs,0,imm⟩ = some (true,regs,p,mem):=by
 obtain ⟨a,ha,wa⟩:=c9 hM.r32 hM.wr hs
 obtain ⟨n1,n2,n3,n4⟩:=dZ hM h0 h1
 cases hc : ((a == 0) == ((18 : Int) == 17))
 ·refine ⟨pc + 4,.inl rfl,aa ha (aa (y:=.inr (true,regs,pc + 4,mem)) (aa (y:=false) rfl (ab rfl (aa (y:=true) rfl (ai rfl (aa (y:=(regs,pc + 4)) ?_ rfl))))) rfl)⟩
  exact aa n2 (aa ha (aa hz (ab rfl (ab rfl (ab hc rfl)))))
 ·refine ⟨q,.inr rfl,aa ha (aa (y:=.inr (true,regs,q,mem)) (aa (y:=false) rfl (ab rfl (aa (y:=true) rfl (ai rfl (aa (y:=(regs,q)) ?_ rfl))))) rfl)⟩
  exact aa n2 (aa ha (aa hz (ab rfl (ab rfl (ai hc (aa ((cJ _).trans (congrArg some hq)) rfl))))))
end
inductive Kn where
 | any
 | b11
 | c17 (n : Int)
def Kn.holds (regs : List Int) : Kn → Prop
 | .any=>True
 | .b11=>∃ b : Int,regs[11]? = some b ∧ 0 ≤ b ∧ b ≤ 1
 | .c17 n=>regs[17]? = some n ∧ 1 ≤ n ∧ n ≤ 5 ∧ (n ≤ 2 → ∃ b : Int,regs[11]? = some b ∧ 0 ≤ b ∧ b ≤ 1)
def zw (i : Instr) : Prop:=
 ((1 ≤ i.Op ∧ i.Op ≤ 11 ∨ i.Op = 12 ∨ i.Op = 13 ∨ i.Op = 19) ∧ (0 ≤ i.Rd ∧ i.Rd ≤ 31) ∧ i.Rd ≠ 2 ∧ (0 ≤ i.Rs ∧ i.Rs ≤ 31) ∧ (0 ≤ i.Rt ∧ i.Rt ≤ 31) ∧ (i.Op = 13 → -1048576 ≤ i.Imm ∧ i.Imm ≤ 1048575)) ∨
 (i.Op = 14 ∧ i.Rs = 2 ∧ (0 ≤ i.Rd ∧ i.Rd ≤ 31) ∧ i.Rd ≠ 2 ∧ ∃ k : Nat,k < 12 ∧ i.Imm = 4 * (k : Int)) ∨ (i.Op = 16 ∧ i.Rs = 2 ∧ i.Rt = 7 ∧ ∃ k : Nat,k < 12 ∧ i.Imm = 4 * (k : Int))
def chk (F : Prop) (J : Int → Prop) : Int → Kn → List Instr → Prop
 | _,_,[]=>F
 | at_,σ,i :: s=>(zw i ∧ chk F J (at_ + 1) .any s) ∨ (∃ b : Int,i = ⟨12,11,0,0,b⟩ ∧ 0 ≤ b ∧ b ≤ 1 ∧ chk F J (at_ + 1) .b11 s) ∨
   (∃ n : Int,i = ⟨12,17,0,0,n⟩ ∧ 1 ≤ n ∧ n ≤ 5 ∧ (n ≤ 2 → σ = .b11) ∧ chk F J (at_ + 1) (.c17 n) s) ∨ (i = ⟨15,1,0,0,0⟩ ∧ ∃ n,σ = .c17 n ∧ (n ≠ 5 → chk F J (at_ + 1) .any s)) ∨
   (∃ imm : Int,i = ⟨20,0,0,0,imm⟩ ∧ J (4 * at_ + imm)) ∨ (∃ rs : Int,(0 ≤ rs ∧ rs ≤ 31) ∧ i = ⟨18,0,rs,0,8⟩ ∧ s.length = 1 ∧ F ∧ chk F J (at_ + 1) .any s)
section
variable {F : Prop} {J : Int → Prop}
theorem chk.pl {σ : Kn} {at_ : Int} {i : Instr} {s : List Instr} (h : zw i) (k : chk F J (at_ + 1) .any s) : chk F J at_ σ (i :: s):=.inl ⟨h,k⟩
theorem np {c p s : Int} (hc : 1 ≤ c ∧ c ≤ 8) (hp : Rg p) (hs : s = 5 ∨ s = 6 ∨ s = 7) : (0 ≤ lj c p s ∧ lj c p s ≤ 31) ∧ lj c p s ≠ 2:=by
 unfold lj
 unfold Rg at hp
 split
 ·obtain ⟨k,hk,hk2⟩ : ∃ k : Nat,p = (k : Int) ∧ k < 8:=⟨p.toNat,by omega,by omega⟩
  subst hk
  rcases (by omega : k = 0 ∨ k = 1 ∨ k = 2 ∨ k = 3 ∨ k = 4 ∨ k = 5 ∨ k = 6 ∨ k = 7) with rfl | rfl | rfl | rfl | rfl | rfl | rfl | rfl <;> exact ⟨⟨by decide,by decide⟩,by decide⟩
 ·omega
theorem chk.rd {σ : Kn} {at_ c p s : Int} {l : List Instr} (hc : 1 ≤ c ∧ c ≤ 8) (hp : Rg p) (hs : s = 5 ∨ s = 6) (k : ∀ a σ,chk F J a σ l) : chk F J at_ σ (rdL c p s ++ l):=by
 unfold rdL
 unfold Rg at hp
 split
 ·exact k _ _
 ·exact .pl (.inr (.inl ⟨rfl,rfl,by simp only; omega,by simp only; omega,(p - c).toNat,by omega,by simp only; omega⟩)) (k _ _)
theorem chk.wr {at_ c p : Int} (hc : 1 ≤ c ∧ c ≤ 8) (hp : Rg p) (hF : F) : chk F J at_ .any (wrL c p):=by
 unfold wrL
 unfold Rg at hp
 split
 ·exact hF
 ·exact .pl (.inr (.inr ⟨rfl,rfl,rfl,(p - c).toNat,by omega,by simp only; omega⟩)) hF
theorem kM {d s i : Int} (hd : 0 ≤ d ∧ d ≤ 31) (h2 : d ≠ 2) (hs : 0 ≤ s ∧ s ≤ 31) : zw ⟨12,d,s,0,i⟩:=.inl ⟨.inr (.inl rfl),hd,h2,hs,by simp,fun h=>by cases h⟩
theorem zx {q : aj} {m c off : Int} (hq : QOk m q) (hc : 1 ≤ c ∧ c ≤ 8) (hF : q.Op ≠ 4 → q.Op ≠ 10 → F) (hJ : q.Op = 4 ∨ q.Op = 5 → J off) : chk F J 0 .any (mR q c off):=by
 have hd : Rg q.Dst:=by unfold QOk at hq; unfold Rg at *; omega
 have rD:=np hc hd (s:=7) (by omega)
 unfold mR
 unfold QOk at hq
 split
 ·rename_i h
  have hf:=hF (by omega) (by omega)
  unfold nk
  split
  ·exact .pl (kM rD.1 rD.2 (by omega)) (.wr hc hd hf)
  ·exact .pl (.inl ⟨.inr (.inr (.inr rfl)),rD.1,rD.2,by simp,by simp,fun h=>by cases h⟩) (.pl (kM rD.1 rD.2 rD.1) (.wr hc hd hf))
 split
 ·rename_i h
  have hf:=hF (by omega) (by omega)
  have hA : Rg q.A:=by unfold Rg at *; omega
  have rA:=np hc hA (s:=5) (by omega)
  rw [List.append_assoc]
  exact .rd hc hA (.inl rfl) fun a σ=>.pl (kM rD.1 rD.2 rA.1) (.wr hc hd hf)
 split
 ·rename_i h
  have hf:=hF (by omega) (by omega)
  have hA : Rg q.A:=by unfold Rg at *; omega
  have hB : Rg q.B:=by unfold Rg at *; omega
  have rA:=np hc hA (s:=5) (by omega)
  have rB:=np hc hB (s:=6) (by omega)
  have ho:=xk (n:=q.N) (by omega)
  rw [List.append_assoc,List.append_assoc,List.append_assoc]
  refine .rd hc hA (.inl rfl) fun a σ=>.rd hc hB (.inr rfl) fun a σ=>.pl (.inl ⟨.inl ho,rD.1,rD.2,rA.1,rB.1,fun h=>by simp only at h; omega⟩) ?_
  split
  ·exact .pl (.inl ⟨.inr (.inr (.inl rfl)),rD.1,rD.2,rD.1,by simp,fun _=>by simp⟩) (.wr hc hd hf)
  ·exact .wr hc hd hf
 split
 ·rename_i h
  exact .inr (.inr (.inr (.inr (.inl ⟨off,rfl,by have:=hJ (.inl h); simpa using this⟩))))
 split
 ·rename_i h
  have hf:=hF (by omega) (by omega)
  have hA : Rg q.A:=by unfold Rg at *; omega
  have rA:=np hc hA (s:=5) (by omega)
  have hj:=hJ (.inr h)
  unfold rdL
  split
  ·exact .inr (.inr (.inr (.inr (.inr ⟨_,rA.1,rfl,rfl,hf,.inr (.inr (.inr (.inr (.inl ⟨_,rfl,by simp only [List.length_nil]; rw [show (4 * (0 + 1) + (off - 4 * (((0 : Nat) : Int) + 1)) : Int) = off by omega]; exact hj⟩))))⟩))))
  ·unfold Rg at hA
   exact .pl (.inr (.inl ⟨rfl,rfl,by simp,by simp,(q.A - c).toNat,by omega,by simp only; omega⟩)) (.inr (.inr (.inr (.inr (.inr ⟨_,rA.1,rfl,rfl,hf,.inr (.inr (.inr (.inr (.inl ⟨_,rfl,by simp only [List.length_singleton]; rw [show (4 * (0 + 1 + 1) + (off - 4 * (((1 : Nat) : Int) + 1)) : Int) = off by omega]; exact hj⟩))))⟩)))))
 split
 ·rename_i h
  have hf:=hF (by omega) (by omega)
  have hA : Rg q.A:=by unfold Rg at *; omega
  have rA:=np hc hA (s:=5) (by omega)
  rw [List.append_assoc]
  exact .rd hc hA (.inl rfl) fun a σ=>.pl (kM (by omega) (by omega) rA.1) (.inr (.inl ⟨q.N,rfl,by omega,by omega,.inr (.inr (.inl ⟨1,rfl,by omega,by omega,fun _=>rfl,.inr (.inr (.inr (.inl ⟨rfl,1,rfl,fun _=>hf⟩)))⟩))⟩))
 split
 ·rename_i h
  have hf:=hF (by omega) (by omega)
  rw [List.append_assoc,List.append_assoc]
  exact .inr (.inl ⟨q.N,rfl,by omega,by omega,.inr (.inr (.inl ⟨2,rfl,by omega,by omega,fun _=>rfl,.inr (.inr (.inr (.inl ⟨rfl,2,rfl,fun _=>.pl (kM rD.1 rD.2 (by omega)) (.wr hc hd hf)⟩)))⟩))⟩)
 split
 ·rename_i h
  have hf:=hF (by omega) (by omega)
  exact .inr (.inr (.inl ⟨3,rfl,by omega,by omega,fun h=>by omega,.inr (.inr (.inr (.inl ⟨rfl,3,rfl,fun _=>hf⟩)))⟩))
 split
 ·rename_i h
  have hf:=hF (by omega) (by omega)
  have hA : Rg q.A:=by unfold Rg at *; omega
  have rA:=np hc hA (s:=5) (by omega)
  rw [List.append_assoc]
  exact .rd hc hA (.inl rfl) fun a σ=>.pl (kM (by omega) (by omega) rA.1) (.inr (.inr (.inl ⟨4,rfl,by omega,by omega,fun h=>by omega,.inr (.inr (.inr (.inl ⟨rfl,4,rfl,fun _=>hf⟩)))⟩)))
 ·exact .inr (.inr (.inl ⟨5,rfl,by omega,by omega,fun h=>by omega,.inr (.inr (.inr (.inl ⟨rfl,5,rfl,fun h=>absurd rfl h⟩)))⟩))
end
end
noncomputable section
section
variable {eQ : List aj} {c : Int}
def Jp (eQ : List aj) (c : Int) (i : Nat) (x : Int) : Prop:=∃ t : Nat,t < eQ.length ∧ 4 * (pl eQ c t : Int) = 4 * (pl eQ c i : Int) + x
theorem AA (hc : COk eQ) (h : 1 ≤ c ∧ c ≤ 8) {i : Nat} (hi : i < eQ.length) : chk (i + 1 < eQ.length) (Jp eQ c i) 0 .any (blk eQ c i):=by
 have hg:=List.getElem?_eq_getElem hi
 have hq:=hc.q _ (List.mem_of_getElem? hg)
 have hqa:=uP hg
 unfold blk
 rw [hqa]
 refine zx hq h (fun h4 h10=>hc.nxt hg h10 h4) fun ho=>?_
 have hN : 0 ≤ (eQ[i]).N ∧ (eQ[i]).N < eQ.length:=by unfold QOk at hq; omega
 refine ⟨(eQ[i]).N.toNat,by omega,?_⟩
 unfold pI
 rw [hqa,if_pos ho]
 omega
theorem A3 (eQ : List aj) (c : Int) {i j : Nat} (h : i ≤ j) : pl eQ c i ≤ pl eQ c j:=by
 induction j with
 | zero =>
  obtain rfl : i = 0:=by omega
  exact Nat.le_refl _
 | succ j ih =>
  rcases Nat.lt_or_ge i (j + 1) with h1 | h1
  ·have:=ih (by omega)
   simp only [pl]
   omega
  ·obtain rfl : i = j + 1:=by omega
   exact Nat.le_refl _
theorem sw (eQ : List aj) (c : Int) (i : Nat) : pl eQ c (i + 1) = pl eQ c i + (blk eQ c i).length:=by
 simp only [pl,blk,(lI (qAt eQ i) c (pI eQ c i)).2.2]
theorem zy (eQ : List aj) (c : Int) : ∀ (n i r : Nat),i < n → r < (blk eQ c i).length → (tk eQ c n)[pl eQ c i + r]? = (blk eQ c i)[r]?
 | 0,i,r,h,_=>by omega
 | n + 1,i,r,h,hr=>by
  simp only [tk]
  have hl:=pb eQ c n
  rcases Nat.lt_or_ge i n with h1 | h1
  ·have h2:=A3 eQ c (show i + 1 ≤ n by omega)
   have h3:=sw eQ c i
   rw [List.getElem?_append_left (by omega)]
   exact zy eQ c n i r h1 hr
  ·obtain rfl : i = n:=by omega
   rw [List.getElem?_append_right (by omega),hl,Nat.add_sub_cancel_left]
def Run (eQ : List aj) (c : Int) (p : Nat) (σ : Kn) : Prop:=∃ (i : Nat) (pre s : List Instr),i < eQ.length ∧ blk eQ c i = pre ++ s ∧ s ≠ [] ∧ p = pl eQ c i + pre.length ∧ chk (i + 1 < eQ.length) (Jp eQ c i) (pre.length : Int) σ s
theorem Run.start (hc : COk eQ) (h : 1 ≤ c ∧ c ≤ 8) {t : Nat} (ht : t < eQ.length) : Run eQ c (pl eQ c t) .any:=by
 refine ⟨t,[],blk eQ c t,ht,rfl,fun he=>?_,rfl,AA hc h ht⟩
 have:=(lI (qAt eQ t) c (pI eQ c t)).1
 unfold blk at he
 rw [he] at this
 simp at this
theorem Run.norm (hc : COk eQ) (h : 1 ≤ c ∧ c ≤ 8) {i : Nat} {pre s : List Instr} {σ : Kn} (hi : i < eQ.length) (hb : blk eQ c i = pre ++ s) (hk : chk (i + 1 < eQ.length) (Jp eQ c i) (pre.length : Int) σ s) : ∃ σ',Run eQ c (pl eQ c i + pre.length) σ' ∧ (σ' = σ ∨ σ' = .any):=by
 cases s with
 | nil =>
  have hF : i + 1 < eQ.length:=hk
  have:=sw eQ c i
  rw [hb,List.append_nil] at this
  rw [← this]
  exact ⟨.any,.start hc h hF,.inr rfl⟩
 | cons x s=>exact ⟨σ,⟨i,pre,x :: s,hi,hb,by simp,rfl,hk⟩,.inl rfl⟩
theorem Run.lt {p : Nat} {σ : Kn} (h : Run eQ c p σ) : p < (tk eQ c eQ.length).length:=by
 obtain ⟨i,pre,s,hi,hb,hs,rfl,_⟩:=h
 have h1:=A3 eQ c (show i + 1 ≤ eQ.length by omega)
 have h2:=sw eQ c i
 rw [hb,List.length_append] at h2
 have : 0 < s.length:=List.length_pos_iff.2 hs
 rw [pb]
 omega
end
structure HI (n : Nat) (ws : List Int) (m : ah) : Prop where
 ok : MOK m.Regs m.Pc m.Mem
 z0 : m.Regs[0]? = some 0
 sp : m.Regs[2]? = some (4 * ((n : Int) + 1))
 len : m.Mem.length = n + 13
 eQ : ∀ (j : Nat) w,ws[j]? = some w → m.Mem[j + 1]? = some w
 m0 : m.Mem[0]? = some 0
def At (eQ : List aj) (c : Int) (m : ah) : Prop:=(∃ p σ,Run eQ c p σ ∧ m.Pc = 4 * ((p : Int) + 1) ∧ σ.holds m.Regs) ∨
 (m.Pc = 0 ∧ ∃ n,(Kn.c17 n).holds m.Regs ∧ (n ≠ 5 → ∃ p,Run eQ c p .any ∧ m.Regs[1]? = some (4 * ((p : Int) + 1))))
theorem qt {l : List Int} {k : Nat} {x : Int} (h : l[k]? = some x) : nth l (k : Int) = some x:=mt h
theorem Kn.any_or {σ' σ : Kn} {r : List Int} (h : σ' = σ ∨ σ' = .any) (hσ : σ.holds r) : σ'.holds r:=by
 rcases h with rfl | rfl
 ·exact hσ
 ·trivial
section
variable {eQ : List aj} {c : Int} {n : Nat} {ws : List Int} {m : ah}
theorem HI.pos (h : HI n ws m) : n ≤ 9987:=by have:=h.ok.m10; have:=h.len; omega
theorem xo {L : List Instr} {ws : List Int} (hw : wl L = some ws) (hn : L.length = n) (h : HI n ws m) {p : Nat} {i : Instr} (hp : m.Pc = 4 * ((p : Int) + 1)) (hi : L[p]? = some i) (h21 : (i.Op == 21) = false) {r q mem} (hd : de (ah.mk m.Regs m.Pc m.Mem) i = some (true,r,q,mem)) :
  eR m = some (1,r,q,mem):=by
 obtain ⟨w,u,w1,w2,w3⟩:=zo hw p i hi
 have hm:=h.eQ p w w1
 have hlt : p + 1 < m.Mem.length:=by rcases Nat.lt_or_ge (p + 1) m.Mem.length with h | h; exact h; rw [List.getElem?_eq_none h] at hm; cases hm
 have hpc : m.Pc = 4 * ((p + 1 : Nat) : Int):=by rw [hp]; omega
 obtain ⟨e2,e4⟩:=uR hlt h.ok.m10
 rw [← hpc] at e2 e4
 have hx : nth m.Mem (w64 (Int.tdiv m.Pc 4)) = some w:=by rw [e4]; exact qt hm
 have hwd:=h.ok.wm w (List.mem_of_getElem? hm)
 obtain ⟨u',u1,u2,u3,u4⟩:=j5 hwd.1 hwd.2
 have hu : u' = u:=by rw [u3] at w2; have:=o9 w2; omega
 subst hu
 obtain ⟨x,b,d1,d2,_⟩:=vZ u' u1
 rw [d2] at w3
 obtain ⟨rfl,rfl⟩:=Prod.mk.inj (o9 w3)
 unfold eR
 exact aa e2 (ab rfl (aa hx (aa u4 (aa d1 (ab rfl (ab h21 (aa hd (ab rfl rfl))))))))
theorem HI.turn {r : List Int} {q : Int} {mem : List Int} (h : HI n ws m) (hr : r.length = 32) (hw : ∀ x ∈ r,Wd x) (h0 : r[0]? = m.Regs[0]?) (h2 : r[2]? = m.Regs[2]?) (hq : 0 ≤ q ∧ q ≤ 50000) (hm : mem = m.Mem ∨ ∃ j b,n + 1 ≤ j ∧ Wd b ∧ mem = m.Mem.set j b) (hws : ws.length ≤ n) : HI n ws ⟨r,q,mem⟩:=by
 have hlen:=h.len
 have h10:=h.ok.m10
 rcases hm with rfl | ⟨j,b,hj,hb,rfl⟩
 ·exact ⟨⟨hr,h10,hw,h.ok.wm,by unfold Wd; simp only; omega⟩,h0.trans h.z0,h2.trans h.sp,hlen,h.eQ,h.m0⟩
 ·refine ⟨⟨hr,by simpa using h10,hw,fun x hx=>?_,by unfold Wd; simp only; omega⟩,h0.trans h.z0,h2.trans h.sp,by simpa using hlen,fun k w hk=>?_,?_⟩
  ·rcases List.mem_or_eq_of_mem_set hx with hx | rfl
   ·exact h.ok.wm x hx
   ·exact hb
  ·have hkl : k < ws.length:=by rcases Nat.lt_or_ge k ws.length with h | h; exact h; rw [List.getElem?_eq_none h] at hk; cases hk
   show (m.Mem.set j b)[k + 1]? = some w
   rw [List.getElem?_set_ne (by omega)]
   exact h.eQ k w hk
  ·show (m.Mem.set j b)[0]? = some 0
   rw [List.getElem?_set_ne (by omega)]
   exact h.m0
theorem xZ (hc : COk eQ) (h8 : 1 ≤ c ∧ c ≤ 8) (hw : wl (tk eQ c eQ.length) = some ws) (hn : (tk eQ c eQ.length).length = n) (h : HI n ws m) {p : Nat} {σ : Kn} (hR : Run eQ c p σ) (hp : m.Pc = 4 * ((p : Int) + 1)) (hσ : σ.holds m.Regs) :
  ∃ r q mem,eR m = some (1,r,q,mem) ∧ HI n ws ⟨r,q,mem⟩ ∧ At eQ c ⟨r,q,mem⟩:=by
 have hpn:=hR.lt
 rw [hn] at hpn
 have hn9:=h.pos
 have hwl:=kK hw
 rw [hn] at hwl
 have h32:=h.ok.r32
 have hlen:=h.len
 obtain ⟨i,pre,s,hi,hb,hs,rfl,hk⟩:=hR
 obtain ⟨x,s,rfl⟩ : ∃ x t,s = x :: t:=by cases s with | nil=>exact absurd rfl hs | cons x t=>exact ⟨x,t,rfl⟩
 have hx : (tk eQ c eQ.length)[pl eQ c i + pre.length]? = some x:=by
  rw [zy eQ c _ i pre.length hi (by rw [hb,List.length_append,List.length_cons]; omega),hb,List.getElem?_append_right (Nat.le_refl _),Nat.sub_self]; rfl
 have hb' : blk eQ c i = (pre ++ [x]) ++ s:=by rw [hb,List.append_assoc]; rfl
 have hl' : ((pre.length : Int) + 1) = ((pre ++ [x]).length : Int):=by rw [List.length_append,List.length_singleton]; omega
 have hpc0 : 0 ≤ m.Pc:=by rw [hp]; omega
 have hpc1 : m.Pc ≤ 40000:=by rw [hp]; omega
 have hz : nth m.Regs 0 = some 0:=qt (k:=0) h.z0
 have hsp : nth m.Regs 2 = some (4 * ((n : Int) + 1)):=qt (k:=2) h.sp
 have fall : ∀ {r : List Int} {mem : List Int} {τ : Kn},de (ah.mk m.Regs m.Pc m.Mem) x = some (true,r,m.Pc + 4,mem) → (x.Op == 21) = false → r.length = 32 → (∀ y ∈ r,Wd y) → r[0]? = m.Regs[0]? → r[2]? = m.Regs[2]? → (mem = m.Mem ∨ ∃ j b,n + 1 ≤ j ∧ Wd b ∧ mem = m.Mem.set j b) → τ.holds r → chk (i + 1 < eQ.length) (Jp eQ c i) ((pre.length : Int) + 1) τ s →
   ∃ r q mem,eR m = some (1,r,q,mem) ∧ HI n ws ⟨r,q,mem⟩ ∧ At eQ c ⟨r,q,mem⟩:=by
  intro r mem τ hd h21 hr hwd r0 r2 hm hτ hch
  rw [hl'] at hch
  obtain ⟨σ',q1,q2⟩:=Run.norm hc h8 hi hb' hch
  refine ⟨r,m.Pc + 4,mem,xo hw hn h hp hx h21 hd,h.turn hr hwd r0 r2 (by omega) hm (by omega),.inl ⟨_,σ',q1,?_,Kn.any_or q2 hτ⟩⟩
  show m.Pc + 4 = _
  rw [hp,List.length_append,List.length_singleton]; omega
 have goes : ∀ {v rd : Int},0 ≤ rd ∧ rd ≤ 31 → rd ≠ 2 → (st m.Regs rd v).length = 32 ∧ (st m.Regs rd v)[0]? = m.Regs[0]? ∧ (st m.Regs rd v)[2]? = m.Regs[2]?:=by
  intro v rd h1 h2
  refine ⟨by rw [BB,h32],?_,vH h1.1 (by omega)⟩
  by_cases h0 : rd = 0
  ·unfold st; rw [if_pos h0]
  ·exact vH h1.1 (by omega)
 rcases hk with ⟨hpl,hk⟩ | ⟨b,rfl,b0,b1,hk⟩ | ⟨k,rfl,k1,k5,kb,hk⟩ | ⟨rfl,k,rfl,hk⟩ | ⟨imm,rfl,t,ht,hk⟩ | ⟨rs,hrs,rfl,hsl,hF,hk⟩
 ·rcases hpl with ⟨ho,hrd,hrd2,hrs,hrt,him⟩ | ⟨ho,hrs,hrd,hrd2,k,hk12,him⟩ | ⟨ho,hrs,hrt,k,hk12,him⟩
  ·have h21 : (x.Op == 21) = false:=by simp; omega
   obtain ⟨op,rd,rs,rt,imm⟩:=x
   simp only at ho hrd hrd2 hrs hrt him h21
   have hd : ∃ v,Wd v ∧ de (ah.mk m.Regs m.Pc m.Mem) ⟨op,rd,rs,rt,imm⟩ = some (true,st m.Regs rd v,m.Pc + 4,m.Mem):=by
    rcases ho with ho | rfl | rfl | rfl
    ·obtain ⟨k,rfl,hk⟩ : ∃ k : Nat,op = (k : Int) + 1 ∧ k < 11:=⟨(op - 1).toNat,by omega,by omega⟩
     exact Ax hk h.ok hpc0 hpc1 hrd hrs hrt
    ·obtain ⟨a,ha,_⟩:=c9 h32 h.ok.wr hrs
     exact ⟨_,gj _,th h.ok hpc0 hpc1 hrd ha⟩
    ·exact xY h.ok hpc0 hpc1 hrd hrs (him rfl)
    ·exact Aw h.ok hpc0 hpc1 hrd hrs
   obtain ⟨v,hv,hd⟩:=hd
   obtain ⟨g1,g2,g3⟩:=goes (v:=v) hrd hrd2
   exact fall (τ:=.any) hd h21 g1 (vI h.ok.wr hv) g2 g3 (.inl rfl) trivial hk
  ·obtain ⟨op,rd,rs,rt,imm⟩:=x
   simp only at ho hrs hrd hrd2 him
   subst ho hrs him
   have hj : n + 1 + k < m.Mem.length:=by omega
   have ha : bT (w64 (4 * ((n : Int) + 1) + 4 * (k : Int))) = 4 * ((n + 1 + k : Nat) : Int):=by rw [aK (by omega) (by omega)]; unfold bT; split <;> omega
   have hd:=BC (rt:=rt) h.ok hpc0 hpc1 hrd hsp hj ha
   obtain ⟨g1,g2,g3⟩:=goes (v:=m.Mem[n + 1 + k]) hrd hrd2
   exact fall (τ:=.any) hd rfl g1 (vI h.ok.wr (h.ok.wm _ (List.getElem_mem hj))) g2 g3 (.inl rfl) trivial hk
  ·obtain ⟨op,rd,rs,rt,imm⟩:=x
   simp only at ho hrs hrt him
   subst ho hrs hrt him
   have hj : n + 1 + k < m.Mem.length:=by omega
   have ha : bT (w64 (4 * ((n : Int) + 1) + 4 * (k : Int))) = 4 * ((n + 1 + k : Nat) : Int):=by rw [aK (by omega) (by omega)]; unfold bT; split <;> omega
   obtain ⟨b,hb7,wb⟩:=c9 h32 h.ok.wr (r:=7) (by omega)
   have hd:=BD (rd:=rd) h.ok hpc0 hpc1 hsp hb7 hj ha
   exact fall (τ:=.any) hd rfl h32 h.ok.wr rfl rfl (.inr ⟨_,b,by omega,wb,rfl⟩) trivial hk
 ·have hd:=th (rt:=0) (imm:=b) h.ok hpc0 hpc1 (rd:=11) (by omega) hz
  have hv : bT (w64 (0 + b)) = b:=by rw [aK (by omega) (by omega)]; unfold bT; split <;> omega
  rw [hv] at hd
  obtain ⟨g1,g2,g3⟩:=goes (v:=b) (rd:=11) (by omega) (by omega)
  exact fall (τ:=.b11) hd rfl g1 (vI h.ok.wr (by unfold Wd; omega)) g2 g3 (.inl rfl) ⟨b,zt (k:=11) (by omega) (by omega),b0,b1⟩ hk
 ·have hd:=th (rt:=0) (imm:=k) h.ok hpc0 hpc1 (rd:=17) (by omega) hz
  have hv : bT (w64 (0 + k)) = k:=by rw [aK (by omega) (by omega)]; unfold bT; split <;> omega
  rw [hv] at hd
  obtain ⟨g1,g2,g3⟩:=goes (v:=k) (rd:=17) (by omega) (by omega)
  refine fall (τ:=.c17 k) hd rfl g1 (vI h.ok.wr (by unfold Wd; omega)) g2 g3 (.inl rfl) ⟨zt (k:=17) (by omega) (by omega),k1,k5,fun h2=>?_⟩ hk
  obtain rfl:=kb h2
  obtain ⟨b,hb1,hb2⟩:=hσ
  exact ⟨b,(vH (rd:=17) (k:=11) (by omega) (by omega)).trans hb1,hb2⟩
 ·have hd:=zu h.ok hpc0 hpc1 hz
  obtain ⟨g1,g2,g3⟩:=goes (v:=m.Pc + 4) (rd:=1) (by omega) (by omega)
  obtain ⟨s1,s2,s3,s4⟩:=hσ
  refine ⟨_,0,m.Mem,xo hw hn h hp hx rfl hd,h.turn g1 (vI h.ok.wr (by unfold Wd; omega)) g2 g3 (by omega) (.inl rfl) (by omega),.inr ⟨rfl,k,⟨(vH (rd:=1) (k:=17) (by omega) (by omega)).trans s1,s2,s3,fun h2=>?_⟩,fun h5=>?_⟩⟩
  ·obtain ⟨b,hb1,hb2⟩:=s4 h2
   exact ⟨b,(vH (rd:=1) (k:=11) (by omega) (by omega)).trans hb1,hb2⟩
  ·have hch:=hk h5
   rw [hl'] at hch
   obtain ⟨σ',q1,q2⟩:=Run.norm hc h8 hi hb' hch
   obtain rfl : σ' = .any:=by rcases q2 with h | h <;> exact h
   refine ⟨_,q1,(zt (k:=1) (by omega) (by omega)).trans ?_⟩
   congr 1
   rw [hp,List.length_append,List.length_singleton]; omega
 ·have hlt:=(Run.start hc h8 ht).lt
  rw [hn] at hlt
  have hq : bT (w64 (m.Pc + imm)) = 4 * ((pl eQ c t : Int) + 1):=by
   have : m.Pc + imm = 4 * ((pl eQ c t : Int) + 1):=by rw [hp]; omega
   rw [this,aK (by omega) (by omega)]; unfold bT; split <;> omega
  have hd:=Ay h.ok hpc0 hpc1 hz hq
  exact ⟨_,_,_,xo hw hn h hp hx rfl hd,h.turn h32 h.ok.wr rfl rfl (by omega) (.inl rfl) (by omega),.inl ⟨_,.any,Run.start hc h8 ht,rfl,trivial⟩⟩
 ·have hlt:=(Run.start hc h8 hF).lt
  rw [hn] at hlt
  have hbl:=sw eQ c i
  rw [hb',List.length_append,List.length_append,List.length_singleton,hsl] at hbl
  have hq : bT (w64 (m.Pc + 8)) = 4 * ((pl eQ c (i + 1) : Int) + 1):=by
   have : m.Pc + 8 = 4 * ((pl eQ c (i + 1) : Int) + 1):=by rw [hp]; omega
   rw [this,aK (by omega) (by omega)]; unfold bT; split <;> omega
  obtain ⟨q,hq2,hd⟩:=Az h.ok hpc0 hpc1 hrs hz hq
  rcases hq2 with rfl | rfl
  ·exact fall (τ:=.any) hd rfl h32 h.ok.wr rfl rfl (.inl rfl) trivial hk
  ·exact ⟨_,_,_,xo hw hn h hp hx rfl hd,h.turn h32 h.ok.wr rfl rfl (by omega) (.inl rfl) (by omega),.inl ⟨_,.any,Run.start hc h8 hF,rfl,trivial⟩⟩
end
end
noncomputable section
variable {b : List Int} {p m : Int}
def LQ (c : Int) (l : List (List Instr)) : Prop:=1 ≤ l.length ∧ l.length ≤ 3 ∧ ∀ x ∈ l,∃ eQ,COk eQ ∧ eQ.length ≤ 40 ∧ x = tk eQ c eQ.length
theorem zA (hb : By b) {k : Nat} (hk : 20 ≤ k) (h0 : 0 ≤ p) (hm : p ≤ m) (hp : m ≤ 100000) : Dr (i3 k ⟨b,p⟩) (m + 150002) fun l=>∃ c,(1 ≤ c ∧ c ≤ 8) ∧ LQ c l:=by
 unfold i3
 refine .bind (zm hb hk h0 hm hp) fun l p1 hl h1 h2=>.bind (bg hb h1 h2 (by omega) (by omega) (by omega)) fun x p2 hx h3 h4=>?_
 refine .tot (P:=LQ (1 + x)) (.iter (fun s : List (List Instr) × Int=>0 ≤ s.2 ∧ s.2 ≤ (l.length : Int) ∧ (s.1.length : Int) = s.2 ∧ ∀ y ∈ s.1,∃ eQ,COk eQ ∧ eQ.length ≤ 40 ∧ y = tk eQ (1 + x) eQ.length) (fun s=>((l.length : Int) - s.2).toNat) ⟨by simp,by simp only; omega,by simp,by simp⟩ fun s hs=>?_) fun r hr=>.pure ⟨1 + x,by omega,hr⟩ h3 (by omega)
 obtain ⟨out,i⟩:=s
 obtain ⟨g0,g1,g2,g3⟩:=hs
 simp only at g0 g1 g2 g3
 have hl1:=hl.1
 have hl2:=hl.2.1
 unfold kH
 dsimp only
 rw [bf (i:=1 + x) (by omega) (by omega),bI g0 (by omega)]
 refine .sel (fun h=>?_) fun h=>.inr (show LQ (1 + x) out from ?_)
 ·simp only [decide_eq_true_eq] at h
  refine .bind (.nth (l:=l) g0 h) fun c ⟨_,hc⟩=>?_
  have hc':=hl.2.2 c hc
  rw [zj hc'.1 (c:=1 + x) (by omega)]
  refine .bind (.pure (Q:=fun y=>y = tk c (1 + x) c.length) rfl) fun y hy=>.bind (.app (l:=out) (by simp; omega)) fun r hr=>.inl ?_
  subst hr hy
  refine ⟨⟨by simp only; omega,by simp only; omega,by simp; omega,fun z hz=>?_⟩,by simp only; omega⟩
  simp only [List.mem_append,List.mem_singleton] at hz
  rcases hz with hz | rfl
  ·exact g3 z hz
  ·exact ⟨c,hc'.1,hc'.2,rfl⟩
 ·simp only [decide_eq_false_iff_not] at h
  exact ⟨by omega,by omega,g3⟩
theorem LQ.lok {c : Int} (h : 1 ≤ c ∧ c ≤ 8) {l : List (List Instr)} (hl : LQ c l) : LOk l:=by
 refine ⟨hl.1,hl.2.1,fun x hx=>?_⟩
 obtain ⟨eQ,h1,h2,rfl⟩:=hl.2.2 x hx
 refine ⟨?_,wL h1 h _ (Nat.le_refl _)⟩
 rw [pb]
 have:=pJ eQ c eQ.length
 omega
theorem AB {eQ : List aj} {c : Int} (hc : COk eQ) (h8 : 1 ≤ c ∧ c ≤ 8) (h40 : eQ.length ≤ 40) : ∃ ws,wl (tk eQ c eQ.length) = some ws ∧ dW (tk eQ c eQ.length) = some (hM (tk eQ c eQ.length).length ws,true) ∧
  HI (tk eQ c eQ.length).length ws (hM (tk eQ c eQ.length).length ws) ∧ At eQ c (hM (tk eQ c eQ.length).length ws):=by
 have hlen : (tk eQ c eQ.length).length ≤ 240:=by rw [pb]; have:=pJ eQ c eQ.length; omega
 obtain ⟨ws,hw⟩:=xe (l:=tk eQ c eQ.length) fun y hy=>xW (wL hc h8 _ (Nat.le_refl _) y hy)
 have hwl:=kK hw
 rcases xm (tk eQ c eQ.length) (by omega) with ⟨h,_⟩ | ⟨ws',h,_,e2⟩
 ·rw [hw] at h; cases h
 ·obtain rfl : ws = ws':=by rw [hw] at h; exact o9 h
  refine ⟨ws,hw,e2,⟨zp (by omega) hw,rfl,rfl,by simp [hM]; omega,fun j w hj=>?_,rfl⟩,.inl ⟨0,.any,?_,rfl,trivial⟩⟩
  ·have hjl : j < ws.length:=by rcases Nat.lt_or_ge j ws.length with h | h; exact h; rw [List.getElem?_eq_none h] at hj; cases hj
   show (0 :: ws ++ List.replicate 12 0)[j + 1]? = some w
   rw [List.cons_append,List.getElem?_cons_succ,List.getElem?_append_left hjl,hj]
  ·exact Run.start hc h8 (t:=0) (by have:=hc.one; omega)
end
noncomputable section
def rz (b : Box) : Prop:=1 ≤ b.Room ∧ b.Room ≤ 4 ∧ (b.Items.length : Int) ≤ b.Room ∧ ∀ x ∈ b.Items,Wd x
theorem wN {l : List Int} (hl : l.length ≤ 1048576) (h : ∀ x ∈ l,Wd x) : dX l (l.length : Int) = some true ∧ cT l = some true:=
 ⟨(oh l hl).trans (by rw [tf h]),(lH l hl).trans (by rw [tf h])⟩
theorem ti {b : Box} (h : rz b) : i9 (Box.mk b.Room b.Items) = some true ∧ i7 (Box.mk b.Room b.Items) = some true:=by
 obtain ⟨h1,h2,h3,h4⟩:=h
 obtain ⟨w1,w2⟩:=wN (l:=b.Items) (by omega) h4
 refine ⟨?_,?_⟩
 ·unfold i9 ax
  refine aa rfl (aa (y:=true) (ai ?_ (aa w1 rfl)) rfl)
  simp; omega
 ·unfold i7
  exact aa (y:=true) (ai (by simp; omega) (aa w2 rfl)) rfl
theorem uh {k : Nat} {t i d : Int} (h1 : 1 ≤ k) (h3 : k ≤ 3) (ht : 0 ≤ t ∧ t < k) (hi : 0 ≤ i ∧ i < k) (hd : 1 ≤ d ∧ d ≤ 4) : ∃ t' i',gf (k : Int) t i d = some (t',i',true) ∧ dA (k : Int) t i d = some (t',i',true) ∧ (0 ≤ t' ∧ t' < k) ∧ 0 ≤ i' ∧ i' ≤ k:=by
 have hm : 0 ≤ (t + 1).tmod (k : Int) ∧ (t + 1).tmod (k : Int) < k:=⟨Int.tmod_nonneg _ (by omega),Int.tmod_lt_of_pos _ (by omega)⟩
 have hr : mh (w64 (t + 1)) (k : Int) = some ((t + 1).tmod (k : Int)):=by unfold mh; rw [aK (by omega) (by omega),if_neg (by omega)]
 have wk : w64 ((k : Int) - 1) = (k : Int) - 1:=aK (by omega) (by omega)
 have wi : w64 (i + 1) = i + 1:=aK (by omega) (by omega)
 have b1 : (decide ((k : Int) ≥ 1) && decide ((k : Int) ≤ 3)) = true:=by simp; omega
 have b2 : (decide (t ≥ 0) && decide (t ≤ (k : Int) - 1)) = true:=by simp; omega
 have b3 : (decide (i ≥ 0) && decide (i ≤ (k : Int) - 1)) = true:=by simp; omega
 have b4 : (((((decide ((k : Int) < 1) || decide ((k : Int) > 3)) || decide (t < 0)) || decide (t ≥ (k : Int))) || decide (i < 0)) || decide (i ≥ (k : Int))) = false:=by simp; omega
 unfold gf ax dA
 rw [wk,wi]
 simp only [ob9,b1,b2,b3,b4,Bool.not_true,sel,hr]
 rcases (by omega : d = 1 ∨ d = 2 ∨ d = 3 ∨ d = 4) with rfl | rfl | rfl | rfl
 ·exact ⟨t,0,rfl,rfl,ht,by omega,by omega⟩
 ·exact ⟨_,0,rfl,rfl,hm,by omega,by omega⟩
 ·exact ⟨_,i + 1,rfl,rfl,hm,by omega,by omega⟩
 ·exact ⟨_,i + 1,rfl,rfl,hm,by omega,by omega⟩
theorem BE {α : Type} {l : List α} {j : Nat} (h : j < l.length) : l.set j l[j] = l:=by
 apply List.ext_getElem?
 intro q
 rw [List.getElem?_set]
 split
 ·rename_i hq; subst hq; simp [h]
 ·rfl
theorem ui {m : ah} {bs : List Box} {out : List Int} (hM : MOK m.Regs m.Pc m.Mem) (hz : m.Regs[0]? = some 0) (hp : m.Pc = 0) (bl : bs.length = 2) (hb : ∀ b ∈ bs,rz b) (ho : out.length ≤ 1000000) :
  (cZ (ah.mk m.Regs m.Pc m.Mem) (bs.length : Int) = some false ∧ ∃ r q o b,bp (ah.mk m.Regs m.Pc m.Mem) bs out = some (0,r,q,o,b)) ∨
  (cZ (ah.mk m.Regs m.Pc m.Mem) (bs.length : Int) = some true ∧ ∃ o d r q bs',dB (ah.mk m.Regs m.Pc m.Mem) bs = some (o,d,r,q,bs') ∧ bp (ah.mk m.Regs m.Pc m.Mem) bs out = some (d,r,q,out ++ o,bs') ∧ (1 ≤ d ∧ d ≤ 4) ∧ MOK r q m.Mem ∧ r[0]? = some 0 ∧
   bs'.length = 2 ∧ (∀ b ∈ bs',rz b) ∧ (∀ x ∈ o,Wd x) ∧ o.length ≤ 1 ∧ bs'.map Box.Room = bs.map Box.Room ∧ (r = m.Regs ∨ ∃ y,r = m.Regs.set 10 y) ∧ (q = 0 ∧ r = m.Regs ∨ m.Regs[17]? ≠ some 5 ∧ m.Regs[1]? = some q)):=by
 have hl32:=hM.r32
 obtain ⟨k,n17,wk⟩:=c9 hl32 hM.wr (r:=17) (by omega)
 obtain ⟨b,n11,wb⟩:=c9 hl32 hM.wr (r:=11) (by omega)
 obtain ⟨x,hx,wx⟩:=c9 hl32 hM.wr (r:=10) (by omega)
 obtain ⟨a,n1,wa⟩:=c9 hl32 hM.wr (r:=1) (by omega)
 have hpc : (m.Pc != 0) = false:=by rw [hp]; rfl
 have g17 : m.Regs[17]? = some k:=by unfold nth at n17; rw [if_neg (by omega)] at n17; exact n17
 have g01 : m.Regs[1]? = some a:=by unfold nth at n1; rw [if_neg (by omega)] at n1; exact n1
 have w1 : w64 ((bs.length : Int) - 1) = 1:=by rw [bl]; rfl
 have hMa : MOK m.Regs a m.Mem:=⟨hM.r32,hM.m10,hM.wr,hM.wm,wa⟩
 by_cases h2 : k = 1 ∨ k = 2
 ·have hin : (decide (k ≥ 1) && decide (k ≤ 5)) = true:=by simp; omega
  have hk12 : ((k != 1) && (k != 2)) = false:=by rcases h2 with rfl | rfl <;> rfl
  have hk12' : ((k == 1) || (k == 2)) = true:=by rcases h2 with rfl | rfl <;> rfl
  by_cases hbr : 0 ≤ b ∧ b ≤ 1
  ·right
   have e2 : (decide (b ≥ 0) && decide (b ≤ w64 ((bs.length : Int) - 1))) = true:=by rw [w1]; simp; omega
   have e3 : ((m.Pc != 0) || (((k == 1) || (k == 2)) && ((decide (b < 0)) || (decide (b ≥ (bs.length : Int)))))) = false:=by
    rw [hpc,hk12',bl]; simp; omega
   have fits : cZ (ah.mk m.Regs m.Pc m.Mem) (bs.length : Int) = some true:=by
    unfold cZ ax
    exact aa n17 (aa (y:=false) (ab hpc (aa (congrArg some hin) rfl)) (ab rfl (aa (y:=true) (ab hk12 (aa n11 (aa (congrArg some e2) rfl))) rfl)))
   refine ⟨fits,?_⟩
   obtain ⟨j,rfl⟩ : ∃ j : Nat,b = (j : Int):=⟨b.toNat,by omega⟩
   have hj : j < bs.length:=by omega
   have hbx:=hb _ (List.getElem_mem hj)
   have nb:=cG hj
   obtain ⟨v1,_⟩:=ti hbx
   obtain ⟨g1,g2,g3,g4⟩:=hbx
   have y1 : ((sel (k == 1) (some (k == 1)) <| some (k == 2)) : Option Bool) = some true:=by rcases h2 with rfl | rfl <;> rfl
   have hset : ∀ {bx : Box},rz bx → bx.Room = (bs[j]).Room → (bs.set j bx).length = 2 ∧ (∀ b ∈ bs.set j bx,rz b) ∧ (bs.set j bx).map Box.Room = bs.map Box.Room:=fun hbx hrm=>by
    refine ⟨by simpa using bl,fun b hbm=>?_,?_⟩
    ·rcases List.mem_or_eq_of_mem_set hbm with h | rfl
     ·exact hb b h
     ·exact hbx
    ·rw [List.map_set,hrm]
     apply List.ext_getElem?
     intro q
     rw [List.getElem?_set]
     split
     ·rename_i hq; subst hq; simp [hj]
     ·rfl
   have same : bs.set (Int.toNat (j : Int)) (Box.mk (bs[j]).Room (bs[j]).Items) = bs:=by rw [Int.toNat_natCast]; exact BE hj
   rcases h2 with rfl | rfl
   ·by_cases hroom : ((bs[j]).Items.length : Int) ≥ (bs[j]).Room
    ·have hput : lf (Box.mk (bs[j]).Room (bs[j]).Items) x = some (Box.mk 0 [],false):=by
      unfold lf
      exact aa v1 (aa (y:=false) (ab rfl (aa (uG wx) rfl)) (ai (by simp; omega) rfl))
     have iput : fI (Box.mk (bs[j]).Room (bs[j]).Items) x = some (false,(bs[j]).Items):=by
      unfold fI
      exact ai (by simp; omega) rfl
     refine ⟨[],3,m.Regs,m.Pc,bs,?_,?_,by omega,hM,hz,bl,hb,by simp,by simp,rfl,.inl rfl,.inl ⟨hp,rfl⟩⟩
     ·unfold dB j4
      exact aa n17 (aa y1 (ai rfl (aa (y:=(3,m.Regs,m.Pc,bs)) (aa n11 (aa n17 (ai rfl (aa nb (aa hx (aa hput (ai rfl rfl))))))) rfl)))
     ·unfold bp
      refine aa n17 (aa n11 (ab e3 (aa (y:=.inr (3,m.Regs,m.Pc,out,bs)) (ai rfl (aa nb (aa hx (aa iput (ai rfl ?_))))) ?_)))
      ·rw [same]
      ·rw [List.append_nil]; rfl
    ·have ha1 : app 8 [] (bs[j]).Items = some (bs[j]).Items:=(dY (by simp; omega)).trans (by simp)
     have ha2 : app 8 (bs[j]).Items [x] = some ((bs[j]).Items ++ [x]):=dY (by simp; omega)
     have hput : lf (Box.mk (bs[j]).Room (bs[j]).Items) x = some (Box.mk (bs[j]).Room ((bs[j]).Items ++ [x]),true):=by
      unfold lf
      exact aa v1 (aa (y:=false) (ab rfl (aa (uG wx) rfl)) (ab (by simp; omega) (aa ha1 (aa ha2 rfl))))
     have iput : fI (Box.mk (bs[j]).Room (bs[j]).Items) x = some (true,(bs[j]).Items ++ [x]):=by
      unfold fI
      exact ab (by simp; omega) (aa ha2 rfl)
     obtain ⟨s1,s2,s3⟩:=hset (bx:=Box.mk (bs[j]).Room ((bs[j]).Items ++ [x])) ⟨g1,g2,by simp only [List.length_append,List.length_singleton]; omega,fun y hy=>by
      rcases List.mem_append.1 hy with hy | hy
      ·exact g4 y hy
      ·rw [List.mem_singleton.1 hy]; exact wx⟩ rfl
     refine ⟨[],1,m.Regs,a,bs.set j (Box.mk (bs[j]).Room ((bs[j]).Items ++ [x])),?_,?_,by omega,hMa,hz,s1,s2,by simp,by simp,s3,.inl rfl,.inr ⟨by rw [g17]; decide,g01⟩⟩
     ·unfold dB j4
      exact aa n17 (aa y1 (ai rfl (aa (y:=(1,m.Regs,a,bs.set j (Box.mk (bs[j]).Room ((bs[j]).Items ++ [x])))) (aa n11 (aa n17 (ai rfl (aa nb (aa hx (aa hput (ab rfl (aa nb (aa n1 (by simp)))))))))) rfl)))
     ·unfold bp
      refine aa n17 (aa n11 (ab e3 (aa (y:=.inl (1,out,m.Regs,bs.set j (Box.mk (bs[j]).Room ((bs[j]).Items ++ [x])))) (ai rfl (aa nb (aa hx (aa iput (ab rfl (by simp)))))) ?_)))
      rw [List.append_nil]
      exact aa n1 rfl
   ·by_cases hemp : (bs[j]).Items = []
    ·have htake : j3 (Box.mk (bs[j]).Room (bs[j]).Items) = some (Box.mk 0 [],0,false):=by
      unfold j3
      exact aa v1 (ai (by simp [hemp]) rfl)
     have itake : eV (Box.mk (bs[j]).Room (bs[j]).Items) = some (0,false,(bs[j]).Items):=by
      unfold eV
      exact ai (by simp [hemp]) rfl
     refine ⟨[],3,m.Regs,m.Pc,bs,?_,?_,by omega,hM,hz,bl,hb,by simp,by simp,rfl,.inl rfl,.inl ⟨hp,rfl⟩⟩
     ·unfold dB j4
      exact aa n17 (aa y1 (ai rfl (aa (y:=(3,m.Regs,m.Pc,bs)) (aa n11 (aa n17 (ab rfl (aa nb (aa htake (ai rfl rfl)))))) rfl)))
     ·unfold bp
      refine aa n17 (aa n11 (ab e3 (aa (y:=.inr (3,m.Regs,m.Pc,out,bs)) (ab rfl (ai rfl (aa nb (aa itake (ai rfl ?_))))) ?_)))
      ·rw [same]
      ·rw [List.append_nil]; rfl
    ·obtain ⟨y,ys,hys⟩ : ∃ y ys,(bs[j]).Items = y :: ys:=by
      cases hq : (bs[j]).Items with
      | nil=>exact absurd hq hemp
      | cons y ys=>exact ⟨y,ys,rfl⟩
     have wy : Wd y:=g4 y (by rw [hys]; simp)
     have hcut : cut (bs[j]).Items 1 ((bs[j]).Items.length : Int) = some ys:=by
      rw [hys]; unfold cut; rw [if_pos (by simp; omega)]; simp
     have h0 : nth (bs[j]).Items 0 = some y:=by rw [hys]; rfl
     have hlen : (bs[j]).Items.length = ys.length + 1:=by rw [hys]; rfl
     have ha : app 8 [] ys = some ys:=(dY (by simp; omega)).trans (by simp)
     have hne0 : (((bs[j]).Items.length : Int) == 0) = false:=by rw [hlen]; simp; omega
     have htake : j3 (Box.mk (bs[j]).Room (bs[j]).Items) = some (Box.mk (bs[j]).Room ys,y,true):=by
      unfold j3
      exact aa v1 (ab (by simp only [Bool.not_true,Bool.false_or]; exact hne0) (aa hcut (aa h0 (aa ha rfl))))
     have itake : eV (Box.mk (bs[j]).Room (bs[j]).Items) = some (y,true,ys):=by
      unfold eV
      exact ab hne0 (aa h0 (aa hcut (aa ha rfl)))
     obtain ⟨s1,s2,s3⟩:=hset (bx:=Box.mk (bs[j]).Room ys) ⟨g1,g2,by simp only; omega,fun z hz=>g4 z (by rw [hys]; simp [hz])⟩ rfl
     have hu : upd m.Regs 10 y = some (m.Regs.set 10 y):=sQ (i:=10) (by omega) y
     have hr1' : nth (m.Regs.set 10 y) 1 = some a:=by
      unfold nth at n1 ⊢
      rw [if_neg (by omega)] at n1 ⊢
      rw [List.getElem?_set_ne (by omega)]; exact n1
     have hwd : ∀ z ∈ m.Regs.set 10 y,Wd z:=fun z hz=>by
      rcases List.mem_or_eq_of_mem_set hz with h' | rfl
      ·exact hM.wr z h'
      ·exact wy
     refine ⟨[],1,m.Regs.set 10 y,a,bs.set j (Box.mk (bs[j]).Room ys),?_,?_,by omega,⟨by simpa using hM.r32,hM.m10,hwd,hM.wm,wa⟩,by rw [List.getElem?_set_ne (by omega)]; exact hz,s1,s2,by simp,by simp,s3,.inr ⟨y,rfl⟩,.inr ⟨by rw [g17]; decide,g01⟩⟩
     ·unfold dB j4
      exact aa n17 (aa y1 (ai rfl (aa (y:=(1,m.Regs.set 10 y,a,bs.set j (Box.mk (bs[j]).Room ys))) (aa n11 (aa n17 (ab rfl (aa nb (aa htake (ab rfl (aa hx (aa hu (aa hr1' (by simp)))))))))) rfl)))
     ·unfold bp
      refine aa n17 (aa n11 (ab e3 (aa (y:=.inl (1,out,m.Regs.set 10 y,bs.set j (Box.mk (bs[j]).Room ys))) (ab rfl (ai rfl (aa nb (aa itake (ab rfl (aa hx (aa hu (by simp)))))))) ?_)))
      rw [List.append_nil]
      exact aa hr1' rfl
  ·left
   have e2 : (decide (b ≥ 0) && decide (b ≤ w64 ((bs.length : Int) - 1))) = false:=by
    rw [w1]; simp; omega
   have e3 : ((m.Pc != 0) || (((k == 1) || (k == 2)) && ((decide (b < 0)) || (decide (b ≥ (bs.length : Int)))))) = true:=by
    rw [hpc,hk12',bl]; simp; omega
   refine ⟨?_,m.Regs,m.Pc,out,bs,?_⟩
   ·unfold cZ ax
    exact aa n17 (aa (y:=false) (ab hpc (aa (congrArg some hin) rfl)) (ab rfl (aa (y:=false) (ab hk12 (aa n11 (aa (congrArg some e2) rfl))) rfl)))
   ·unfold bp
    exact aa n17 (aa n11 (ai e3 rfl))
 ·have hk1 : (k == 1) = false:=by simp; omega
  have hk2 : (k == 2) = false:=by simp; omega
  have e3 : ((m.Pc != 0) || (((k == 1) || (k == 2)) && ((decide (b < 0)) || (decide (b ≥ (bs.length : Int)))))) = false:=by
   rw [hpc,hk1,hk2]; rfl
  have hk12 : ((k != 1) && (k != 2)) = true:=by simp; omega
  have y1 : ((sel (k == 1) (some (k == 1)) <| some (k == 2)) : Option Bool) = some false:=by rw [hk1,hk2]; rfl
  by_cases h5 : 3 ≤ k ∧ k ≤ 5
  ·right
   have hin : (decide (k ≥ 1) && decide (k ≤ 5)) = true:=by simp; omega
   have fits : cZ (ah.mk m.Regs m.Pc m.Mem) (bs.length : Int) = some true:=by
    unfold cZ ax
    exact aa n17 (aa (y:=false) (ab hpc (aa (congrArg some hin) rfl)) (ab rfl (aa (y:=true) (ai hk12 rfl) rfl)))
   refine ⟨fits,?_⟩
   rcases (by omega : k = 3 ∨ k = 4 ∨ k = 5) with rfl | rfl | rfl
   ·refine ⟨[],2,m.Regs,a,bs,?_,?_,by omega,hMa,hz,bl,hb,by simp,by simp,rfl,.inl rfl,.inr ⟨by rw [g17]; decide,g01⟩⟩
    ·unfold dB
     exact aa n17 (aa y1 (ab rfl (ab rfl (aa n1 (aa n17 (ab rfl rfl))))))
    ·unfold bp
     refine aa n17 (aa n11 (ab e3 (aa (y:=.inl (2,out,m.Regs,bs)) (ab rfl (ab rfl (ai rfl rfl))) ?_)))
     rw [List.append_nil]
     exact aa n1 rfl
   ·have ha : app 8 out [x] = some (out ++ [x]):=dY (by simp; omega)
    refine ⟨[x],1,m.Regs,a,bs,?_,?_,by omega,hMa,hz,bl,hb,by simp [wx],by simp,rfl,.inl rfl,.inr ⟨by rw [g17]; decide,g01⟩⟩
    ·unfold dB
     exact aa n17 (aa y1 (ab rfl (ab rfl (aa n1 (aa n17 (ai rfl (aa hx rfl)))))))
    ·unfold bp
     refine aa n17 (aa n11 (ab e3 (aa (y:=.inl (1,out ++ [x],m.Regs,bs)) (ab rfl (ab rfl (ab rfl (ai rfl (aa hx (aa ha rfl)))))) ?_)))
     exact aa n1 rfl
   ·refine ⟨[],4,m.Regs,m.Pc,bs,?_,?_,by omega,hM,hz,bl,hb,by simp,by simp,rfl,.inl rfl,.inl ⟨hp,rfl⟩⟩
    ·unfold dB
     exact aa n17 (aa y1 (ab rfl (ai rfl rfl)))
    ·unfold bp
     refine aa n17 (aa n11 (ab e3 (aa (y:=.inr (4,m.Regs,m.Pc,out,bs)) (ab rfl (ab rfl (ab rfl (ab rfl (ai rfl rfl))))) ?_)))
     rw [List.append_nil]; rfl
  ·left
   have hin : (decide (k ≥ 1) && decide (k ≤ 5)) = false:=by simp; omega
   have c : ∀ n : Int,1 ≤ n → n ≤ 5 → (k == n) = false:=fun n h1 h2=>by simp; omega
   refine ⟨?_,m.Regs,m.Pc,out,bs,?_⟩
   ·unfold cZ ax
    exact aa n17 (aa (y:=true) (ab hpc (aa (congrArg some hin) rfl)) (ai rfl rfl))
   ·unfold bp
    exact aa n17 (aa n11 (ab e3 (aa (y:=.inr (0,m.Regs,m.Pc,out,bs)) (ab (c 1 (by omega) (by omega)) (ab (c 2 (by omega) (by omega)) (ab (c 3 (by omega) (by omega)) (ab (c 4 (by omega) (by omega)) (ab (c 5 (by omega) (by omega)) rfl))))) rfl)))
def HA (c : Int) (eQ : List aj) (m : ah) : Prop:=∃ ws,wl (tk eQ c eQ.length) = some ws ∧ HI (tk eQ c eQ.length).length ws m ∧ At eQ c m
structure SQ (c : Int) (cs : List (List aj)) (s : aE) : Prop where
 hl : s.Harts.length = cs.length
 hs : ∀ (j : Nat) eQ m,cs[j]? = some eQ → s.Harts[j]? = some m → HA c eQ m
 bl : s.Boxes.length = 2
 bs : ∀ b ∈ s.Boxes,rz b
 t : 0 ≤ s.Turn ∧ s.Turn < cs.length
 i : 0 ≤ s.Idle ∧ s.Idle ≤ cs.length
 o : ∀ x ∈ s.Out,Wd x
structure AC (c : Int) (cs : List (List aj)) : Prop where
 c8 : 1 ≤ c ∧ c ≤ 8
 l1 : 1 ≤ cs.length
 l3 : cs.length ≤ 3
 ok : ∀ eQ ∈ cs,COk eQ ∧ eQ.length ≤ 40
section
variable {c : Int} {cs : List (List aj)} {s : aE}
theorem ya {k : Nat} {t i d : Int} (h1 : 1 ≤ k) (h3 : k ≤ 3) (ht : 0 ≤ t ∧ t < k) (hi : 0 ≤ i ∧ i < k) (hd : 1 ≤ d ∧ d ≤ 4) : ∃ t' i',gf (k : Int) t i d = some (t',i',true) ∧ (0 ≤ t' ∧ t' < k) ∧ 0 ≤ i' ∧ i' ≤ k:=by
 obtain ⟨t',i',e,_,h⟩:=uh h1 h3 ht hi hd
 exact ⟨t',i',e,h⟩
theorem AD {eQ : List aj} {m : ah} {bs : List Box} {n : Nat} {ws : List Int} (hc : COk eQ) (hn9 : n ≤ 240) (hws : ws.length ≤ n) (hn : (tk eQ c eQ.length).length = n) (h : HI n ws m) (hp : m.Pc = 0) {k : Int} (hk : (Kn.c17 k).holds m.Regs) (h1 : k ≠ 5 → ∃ p,Run eQ c p .any ∧ m.Regs[1]? = some (4 * ((p : Int) + 1)))
  (bl : bs.length = 2) (hb : ∀ b ∈ bs,rz b) : cZ (ah.mk m.Regs m.Pc m.Mem) (bs.length : Int) = some true ∧ ∃ o d r q bs',dB (ah.mk m.Regs m.Pc m.Mem) bs = some (o,d,r,q,bs') ∧ (1 ≤ d ∧ d ≤ 4) ∧ HI n ws ⟨r,q,m.Mem⟩ ∧ At eQ c ⟨r,q,m.Mem⟩ ∧ bs'.length = 2 ∧ (∀ b ∈ bs',rz b) ∧ (∀ x ∈ o,Wd x) ∧ o.length ≤ 1 ∧ bs'.map Box.Room = bs.map Box.Room:=by
 obtain ⟨k17,k1,k5,k11⟩:=hk
 have n17 : nth m.Regs 17 = some k:=qt (k:=17) k17
 have hl32:=h.ok.r32
 have hpp : ∀ {p : Nat},Run eQ c p .any → 0 ≤ 4 * ((p : Int) + 1) ∧ 4 * ((p : Int) + 1) ≤ 50000:=fun hR=>by have:=hR.lt; rw [hn] at this; omega
 have fits : cZ (ah.mk m.Regs m.Pc m.Mem) (bs.length : Int) = some true:=by
  unfold cZ ax
  rw [bl]
  have e1 : (decide (k ≥ 1) && decide (k ≤ 5)) = true:=by simp; omega
  refine aa n17 (aa (y:=false) (ab (by simp [hp]) (aa (y:=true) (congrArg some e1) rfl)) (ab rfl ?_))
  by_cases h2 : k ≤ 2
  ·obtain ⟨b,hb1,hb2⟩:=k11 h2
   have e2 : (decide (b ≥ 0) && decide (b ≤ w64 (((2 : Nat) : Int) - 1))) = true:=by
    rw [aK (by omega) (by omega)]; simp; omega
   exact aa (y:=true) (ab (by simp; omega) (aa (qt (k:=11) hb1) (aa (y:=true) (congrArg some e2) rfl))) rfl
  ·exact aa (y:=true) (ai (by simp; omega) rfl) rfl
 rcases ui (bs:=bs) (out:=[]) h.ok h.z0 hp bl hb (by simp) with ⟨f,_⟩ | ⟨_,o,d,r,q,bs',e,_,hd,hM',hz',b1,b2,o1,o2,b3,hr,hq⟩
 ·rw [fits] at f; cases f
 ·have r2 : r[2]? = m.Regs[2]?:=by
   rcases hr with rfl | ⟨y,rfl⟩
   ·rfl
   ·rw [List.getElem?_set_ne (by omega)]
  refine ⟨fits,o,d,r,q,bs',e,hd,h.turn hM'.r32 hM'.wr (hz'.trans h.z0.symm) r2 ?_ (.inl rfl) hws,?_,b1,b2,o1,o2,b3⟩
  ·rcases hq with ⟨rfl,_⟩ | ⟨h5,hq⟩
   ·omega
   ·obtain ⟨p,hR,hr1⟩:=h1 (by rintro rfl; exact h5 k17)
    rw [hr1] at hq
    obtain rfl:=o9 hq
    exact hpp hR
  ·rcases hq with ⟨rfl,rfl⟩ | ⟨h5,hq⟩
   ·exact .inr ⟨rfl,k,⟨k17,k1,k5,k11⟩,h1⟩
   ·obtain ⟨p,hR,hr1⟩:=h1 (by rintro rfl; exact h5 k17)
    rw [hr1] at hq
    obtain rfl:=o9 hq
    exact .inl ⟨p,.any,hR,rfl,trivial⟩
theorem wO (hC : AC c cs) (h : SQ c cs s) (hi : s.Idle < cs.length) (ho : s.Out.length ≤ 1000000) : ∃ s',cF (aE.mk s.Harts s.Boxes s.Turn s.Idle s.Out) = some (true,s'.Harts,s'.Boxes,s'.Turn,s'.Idle,s'.Out) ∧ SQ c cs s' ∧ s'.Boxes.map Box.Room = s.Boxes.map Box.Room ∧ ∃ o,s'.Out = s.Out ++ o ∧ o.length ≤ 1:=by
 obtain ⟨t,ht,htl⟩ : ∃ t : Nat,s.Turn = (t : Int) ∧ t < cs.length:=⟨s.Turn.toNat,by have:=h.t; omega,by have:=h.t; omega⟩
 have hth : t < s.Harts.length:=by rw [h.hl]; exact htl
 have nm:=cG hth
 rw [← ht] at nm
 have hcode:=List.getElem?_eq_getElem htl
 obtain ⟨hcok,hc40⟩:=hC.ok _ (List.mem_of_getElem? hcode)
 obtain ⟨ws,hw,hI,hA⟩:=h.hs t _ _ hcode (List.getElem?_eq_getElem hth)
 have hn9 : (tk (cs[t]) c (cs[t]).length).length ≤ 240:=by rw [pb]; have:=pJ (cs[t]) c (cs[t]).length; omega
 have hwl:=kK hw
 generalize hm : s.Harts[t] = m at nm hI hA
 have fin : ∀ {d : Int} {o : List Int} {r : List Int} {q : Int} {mem : List Int} {bs : List Box},(1 ≤ d ∧ d ≤ 4) → HI (tk (cs[t]) c (cs[t]).length).length ws ⟨r,q,mem⟩ → At (cs[t]) c ⟨r,q,mem⟩ → bs.length = 2 → (∀ b ∈ bs,rz b) → (∀ x ∈ o,Wd x) → o.length ≤ 1 → bs.map Box.Room = s.Boxes.map Box.Room →
   ∃ t' i',(gf ((s.Harts.set t ⟨r,q,mem⟩).length : Int) s.Turn s.Idle d) = some (t',i',true) ∧ SQ c cs (aE.mk (s.Harts.set t ⟨r,q,mem⟩) bs t' i' (s.Out ++ o)):=by
  intro d o r q mem bs hd hI' hA' hbl hbs hox hol _
  obtain ⟨t',i',e,ht',hi'⟩:=ya (k:=cs.length) hC.l1 hC.l3 h.t ⟨h.i.1,hi⟩ hd
  refine ⟨t',i',?_,⟨by simpa using h.hl,fun j eQ m' hj hm'=>?_,hbl,hbs,ht',hi',fun x hx=>?_⟩⟩
  ·rw [List.length_set,h.hl]; exact e
  ·by_cases hjt : j = t
   ·subst hjt
    rw [hcode] at hj
    obtain rfl:=o9 hj
    simp only [List.getElem?_set_self hth,Option.some.injEq] at hm'
    subst hm'
    exact ⟨ws,hw,hI',hA'⟩
   ·simp only [List.getElem?_set_ne (fun h=>hjt h.symm)] at hm'
    exact h.hs j eQ m' hj hm'
  ·rcases List.mem_append.1 hx with hx | hx
   ·exact h.o x hx
   ·exact hox x hx
 rcases hA with ⟨p,σ,hR,hp,hσ⟩ | ⟨hp,k,hk,h1⟩
 ·obtain ⟨r,q,mem,e,hI',hA'⟩:=xZ hcok hC.c8 hw rfl hI hR hp hσ
  obtain ⟨t',i',e2,hS⟩:=fin (d:=1) (o:=[]) (by omega) hI' hA' h.bl h.bs (by simp) (by simp) rfl
  have hpc : (m.Pc == 0) = false:=by rw [hp]; simp; omega
  have e' : eR (ah.mk m.Regs m.Pc m.Mem) = some (1,r,q,mem):=e
  refine ⟨_,?_,hS,rfl,[],rfl,by simp⟩
  unfold cF
  refine aa nm (aa (y:=.inl (1,s.Out,s.Harts.set t ⟨r,q,mem⟩,s.Boxes)) (ab hpc (aa e' (ab rfl ?_))) ?_)
  ·rw [ht]; simp
  ·dsimp only [fd]
   refine aa e2 ?_
   simp
 ·obtain ⟨hf,o,d,r,q,bs',e,hd,hI',hA',b1,b2,o1,o2,b3⟩:=AD hcok hn9 (by omega) rfl hI hp hk h1 h.bl h.bs
  obtain ⟨t',i',e2,hS⟩:=fin hd hI' hA' b1 b2 o1 o2 b3
  have hpc : (m.Pc == 0) = true:=by rw [hp]; rfl
  refine ⟨_,?_,hS,b3,o,rfl,o2⟩
  have ha : app 8 s.Out o = some (s.Out ++ o):=dY (by omega)
  unfold cF
  refine aa nm (aa (y:=.inl (d,s.Out ++ o,s.Harts.set t ⟨r,q,m.Mem⟩,bs')) (ai hpc (aa hf (ab rfl (aa e (aa ha ?_))))) ?_)
  ·rw [ht]; simp
  ·dsimp only [fd]
   exact aa e2 rfl
end
end
noncomputable section
theorem wP {l : List Box} (hl : l.length ≤ 3) (h : ∀ b ∈ l,rz b) : mA l = some true ∧ fS l = some true:=by
 have e1:=j6 (f:=ie l) (l:=l) (fun _=>true) (by omega) (fun i hi=>by
  unfold ie
  exact ai (by simpa using hi) (aa (cG hi) (aa (ti (h _ (List.getElem_mem hi))).1 (ab rfl rfl)))) (by
  unfold ie
  exact ab (by simp) rfl)
 have e2:=j6 (f:=eh l) (l:=l) (fun _=>true) (by omega) (fun i hi=>by
  unfold eh
  exact ai (by simpa using hi) (aa (cG hi) (aa (ti (h _ (List.getElem_mem hi))).2 (ab rfl rfl)))) (by
  unfold eh
  exact ab (by simp) rfl)
 rw [show l.all (fun _=>true) = true by simp] at e1 e2
 have e3 : decide ((l.length : Int) ≤ 3) = true:=by simp; omega
 refine ⟨?_,?_⟩
 ·unfold mA; exact aa e1 (congrArg some e3)
 ·unfold fS; exact aa e2 (congrArg some e3)
structure DS (s : aE) : Prop where
 l1 : 1 ≤ s.Harts.length
 l3 : s.Harts.length ≤ 3
 hm : ∀ m ∈ s.Harts,MOK m.Regs m.Pc m.Mem ∧ m.Regs[0]? = some 0
 bl : s.Boxes.length = 2
 bs : ∀ b ∈ s.Boxes,rz b
 i : 0 ≤ s.Idle ∧ s.Idle ≤ s.Harts.length
 o : s.Out.length ≤ 1000000
def okB (s : aE) : Bool:=(decide (0 ≤ s.Turn) && decide (s.Turn < (s.Harts.length : Int))) && s.Out.all wdB
theorem tj {s : aE} (h : DS s) : mB (aE.mk s.Harts s.Boxes s.Turn s.Idle s.Out) = some (okB s) ∧ fT (aE.mk s.Harts s.Boxes s.Turn s.Idle s.Out) = some (okB s):=by
 have h1:=h.l1
 have h3:=h.l3
 have hi:=h.i
 have ho:=h.o
 obtain ⟨b1,b2⟩:=wP (by have:=h.bl; omega) h.bs
 have e1:=j6 (f:=ig (aE.mk s.Harts s.Boxes s.Turn s.Idle s.Out)) (l:=s.Harts) (fun _=>true) (by omega) (fun i hi=>by
  obtain ⟨m1,m2⟩:=h.hm _ (List.getElem_mem hi)
  unfold ig
  exact ai (by simpa using hi) (aa (cG hi) (aa (xl m1 m2).2 (ab rfl rfl)))) (by
  unfold ig
  exact ab (by simp) rfl)
 rw [show s.Harts.all (fun _=>true) = true by simp] at e1
 have e2 : bE (aM s.Harts) 0 = some (.inr ()):=sq (f:=aM s.Harts) (fun i=>(i : Int)) s.Harts.length (fun i hi=>by
  obtain ⟨m1,m2⟩:=h.hm _ (List.getElem_mem hi)
  unfold aM gg
  exact ai (by simpa using hi) (aa (cG hi) (aa (y:=false) (aa (xl m1 m2).1 rfl) (ab rfl (by rw [fK (by omega)]))))) (by
  unfold aM
  exact ab (by simp) rfl)
 have ec : aU s.Harts = some false:=by
  unfold aU bj
  exact aa (y:=-1) (aa e2 rfl) rfl
 have wk : w64 ((s.Harts.length : Int) - 1) = (s.Harts.length : Int) - 1:=aK (by omega) (by omega)
 have hso:=oh s.Out (by omega)
 have hio:=lH s.Out (by omega)
 have d1 : (decide ((s.Harts.length : Int) ≥ 1) && decide ((s.Harts.length : Int) ≤ 3)) = true:=by simp; omega
 have d4 : (decide (s.Idle ≥ 0) && decide (s.Idle ≤ (s.Harts.length : Int))) = true:=by simp; omega
 refine ⟨?_,?_⟩
 ·unfold mB ax okB
  refine aa (congrArg some d1) (aa (y:=false) (ab rfl (aa b1 rfl)) ?_)
  cases hT : (decide (0 ≤ s.Turn) && decide (s.Turn < (s.Harts.length : Int)))
  ·have d3 : (decide (s.Turn ≥ 0) && decide (s.Turn ≤ w64 ((s.Harts.length : Int) - 1))) = false:=by
    rw [wk]; simp at hT ⊢; intro h; have:=hT h; omega
   exact aa (y:=true) (ab rfl (aa (congrArg some d3) rfl)) (aa (y:=true) (ai rfl rfl) (ai rfl rfl))
  ·have d3 : (decide (s.Turn ≥ 0) && decide (s.Turn ≤ w64 ((s.Harts.length : Int) - 1))) = true:=by
    rw [wk]; simp at hT ⊢; omega
   refine aa (y:=false) (ab rfl (aa (congrArg some d3) rfl)) (aa (y:=false) (ab rfl (aa (congrArg some d4) rfl)) (ab rfl (aa e1 ?_)))
   exact aa hso rfl
 ·unfold fT jc okB
  cases hT : (decide (0 ≤ s.Turn) && decide (s.Turn < (s.Harts.length : Int)))
  ·have d : (((((decide ((s.Harts.length : Int) ≥ 1) && decide ((s.Harts.length : Int) ≤ 3)) && decide (s.Turn ≥ 0)) && decide (s.Turn < (s.Harts.length : Int))) && decide (s.Idle ≥ 0)) && decide (s.Idle ≤ (s.Harts.length : Int))) = false:=by
    simp at hT ⊢; intro _ _ h; have:=hT h; omega
   exact aa (y:=false) (aa (y:=false) (ab d rfl) rfl) (aa (y:=false) (ab rfl rfl) (aa (y:=false) (ab rfl rfl) rfl))
  ·have d : (((((decide ((s.Harts.length : Int) ≥ 1) && decide ((s.Harts.length : Int) ≤ 3)) && decide (s.Turn ≥ 0)) && decide (s.Turn < (s.Harts.length : Int))) && decide (s.Idle ≥ 0)) && decide (s.Idle ≤ (s.Harts.length : Int))) = true:=by
    simp at hT ⊢; omega
   refine aa (y:=s.Out.all wdB) (aa (y:=s.Out.all wdB) (ai d (aa hio rfl)) rfl) ?_
   cases s.Out.all wdB
   ·exact aa (y:=false) (ab rfl rfl) (aa (y:=false) (ab rfl rfl) rfl)
   ·exact aa (y:=true) (ai rfl (aa b2 rfl)) (aa (y:=true) (ai rfl (aa ec rfl)) rfl)
theorem SQ.ds {c : Int} {cs : List (List aj)} {s : aE} (hC : AC c cs) (h : SQ c cs s) (ho : s.Out.length ≤ 1000000) : DS s ∧ okB s = true:=by
 refine ⟨⟨by rw [h.hl]; exact hC.l1,by rw [h.hl]; exact hC.l3,fun m hm=>?_,h.bl,h.bs,by rw [h.hl]; exact h.i,ho⟩,?_⟩
 ·obtain ⟨j,hj⟩:=List.getElem?_of_mem hm
  have hjl : j < cs.length:=by rw [← h.hl]; rcases Nat.lt_or_ge j s.Harts.length with h | h; exact h; rw [List.getElem?_eq_none h] at hj; cases hj
  obtain ⟨ws,_,hI,_⟩:=h.hs j _ m (List.getElem?_eq_getElem hjl) hj
  exact ⟨hI.ok,hI.z0⟩
 ·unfold okB
  rw [tf h.o,h.hl]
  have:=h.t
  simp; omega
theorem uj {s : aE} (h : DS s) : nd (aE.mk s.Harts s.Boxes s.Turn s.Idle s.Out) = some (aE.mk s.Harts s.Boxes s.Turn s.Idle s.Out):=by
 have h3:=h.l3
 have hb : j2 s.Boxes = some s.Boxes:=by
  unfold j2
  have:=ou (f:=eP s.Boxes) (l:=s.Boxes) (g:=fun b=>b) (fun i acc x hx ha=>by
   have hbl:=h.bl
   have hi : i < s.Boxes.length:=by rcases Nat.lt_or_ge i s.Boxes.length with h | h; exact h; rw [List.getElem?_eq_none h] at hx; cases hx
   obtain ⟨g1,g2,g3,g4⟩:=h.bs x (List.mem_of_getElem? hx)
   have ha1 : app 8 [] x.Items = some x.Items:=(dY (by simp; omega)).trans (by simp)
   unfold eP
   exact ai (by simpa using hi) (aa (mt hx) (aa (mt hx) (aa ha1 (aa (dY (by simp; omega)) (by rw [fK (by omega)])))))) (fun acc ha=>by
   unfold eP
   exact ab (by simp) rfl)
  rw [List.map_id'] at this
  exact aa this rfl
 have hh:=sq (f:=je (aE.mk s.Harts s.Boxes s.Turn s.Idle s.Out)) (fun i=>((i : Int),s.Harts.take i)) s.Harts.length (r:=s.Harts) (fun i hi=>by
  obtain ⟨m1,_⟩:=h.hm _ (List.getElem_mem hi)
  have h32:=m1.r32
  have h10:=m1.m10
  have hc : nc (ah.mk (s.Harts[i]).Regs (s.Harts[i]).Pc (s.Harts[i]).Mem) = some (ah.mk (s.Harts[i]).Regs (s.Harts[i]).Pc (s.Harts[i]).Mem):=by
   unfold nc
   exact aa ((dY (by simp; omega)).trans (by simp)) (aa ((dY (by simp; omega)).trans (by simp)) rfl)
  unfold je
  refine ai (by simpa using hi) (aa (cG hi) (aa hc (aa (dY (by simp; omega)) ?_)))
  rw [fK (by omega),List.take_add_one,List.getElem?_eq_getElem hi]
  rfl) (by
  unfold je
  refine ab (by simp) ?_
  simp)
 unfold nd
 exact aa hb (aa ((dY (by have:=h.o; simp; omega)).trans (by simp)) (aa hh rfl))
theorem yb {c : Int} {cs : List (List aj)} {s : aE} (hC : AC c cs) (h : SQ c cs s) {n : Int} (h0 : 0 ≤ n) (hn : n ≤ 10000) (ho : s.Out.length ≤ 10000) : Tot (ja (aE.mk s.Harts s.Boxes s.Turn s.Idle s.Out) n) fun z=>z.2 = true ∧ SQ c cs z.1 ∧ (z.1.Out.length : Int) ≤ s.Out.length + n ∧ z.1.Boxes.map Box.Room = s.Boxes.map Box.Room:=by
 obtain ⟨hD,hB⟩:=h.ds hC (by omega)
 have hv:=(tj hD).1
 rw [hB] at hv
 have hc:=uj hD
 have hl:=h.hl
 have h1:=hC.l1
 have e : (sel (!true) (some true) ((ax n 0 1000000).bind fun y2=>some (!y2)) : Option Bool) = some false:=by
  unfold ax
  refine ab rfl ?_
  show some (!(decide (n ≥ 0) && decide (n ≤ 1000000))) = some false
  rw [decide_eq_true (by omega),decide_eq_true (by omega)]; rfl
 unfold ja
 rw [hv,ob9,e,ob9,hc,ob9]
 refine .sel (fun hh=>by cases hh) fun _=>.bind (P:=fun r=>match r with
  | .inl _=>False
  | .inr o=>SQ c cs (aE.mk o.1 o.2.1 o.2.2.1 o.2.2.2.1 o.2.2.2.2) ∧ (o.2.2.2.2.length : Int) ≤ s.Out.length + n ∧ o.2.1.map Box.Room = s.Boxes.map Box.Room)
  (.iter (fun z=>0 ≤ z.1 ∧ z.1 ≤ n ∧ SQ c cs (aE.mk z.2.1 z.2.2.1 z.2.2.2.1 z.2.2.2.2.1 z.2.2.2.2.2) ∧ (z.2.2.2.2.2.length : Int) ≤ s.Out.length + z.1 ∧ z.2.2.1.map Box.Room = s.Boxes.map Box.Room) (fun z=>(n - z.1).toNat) ⟨by simp,by simpa using h0,h,by simp,rfl⟩ fun z hz=>?_) fun r hr=>?_
 ·obtain ⟨i,hs,bs,t,d,out⟩:=z
  obtain ⟨g0,g1,g2,g3,g4⟩:=hz
  simp only at g0 g1 g2 g3 g4
  unfold cg
  refine .sel (fun hlt=>?_) fun hlt=>.inr ?_
  ·simp only [Bool.and_eq_true,decide_eq_true_eq] at hlt
   have hl' : hs.length = cs.length:=g2.hl
   obtain ⟨s',k1,k2,k3,o,k4,k5⟩:=wO hC g2 (by simp only; omega) (by simp only; omega)
   dsimp only at k1 ⊢
   rw [k1,ob9]
   refine .sel (fun hh=>by cases hh) fun _=>.inl ?_
   rw [bI g0 (by omega)]
   refine ⟨⟨by simp only; omega,by simp only; omega,k2,?_,k3.trans g4⟩,by simp only; omega⟩
   simp only
   rw [k4,List.length_append]
   simp only
   omega
  ·exact ⟨g2,(by omega : (out.length : Int) ≤ s.Out.length + n),g4⟩
 ·cases r with
  | inl x=>exact hr.elim
  | inr o=>exact .pure ⟨rfl,hr.1,hr.2.1,hr.2.2⟩
theorem vJ {c : Int} : ∀ {l : List (List Instr)},(∀ x ∈ l,∃ eQ,COk eQ ∧ eQ.length ≤ 40 ∧ x = tk eQ c eQ.length) → ∃ cs : List (List aj),l = cs.map (fun eQ=>tk eQ c eQ.length) ∧ ∀ eQ ∈ cs,COk eQ ∧ eQ.length ≤ 40
 | [],_=>⟨[],rfl,by simp⟩
 | x :: xs,h=>by
  obtain ⟨eQ,h1,h2,rfl⟩:=h x (by simp)
  obtain ⟨cs,e,k⟩:=vJ (l:=xs) fun y hy=>h y (by simp [hy])
  exact ⟨eQ :: cs,by rw [e]; rfl,fun q hq=>by
   rcases List.mem_cons.1 hq with rfl | hq
   ·exact ⟨h1,h2⟩
   ·exact k q hq⟩
theorem zB {α β : Type} {g : α → Option β} : ∀ {l : List α},(∀ x ∈ l,∃ y,g x = some y) → ∃ ys,mp g l = some ys
 | [],_=>⟨[],rfl⟩
 | x :: xs,h=>by
  obtain ⟨y,hy⟩:=h x (by simp)
  obtain ⟨ys,hys⟩:=zB (l:=xs) fun z hz=>h z (by simp [hz])
  exact ⟨y :: ys,by simp only [mp,hy,hys]⟩
theorem xp {c : Int} {eQ : List aj} (hc : COk eQ) (h8 : 1 ≤ c ∧ c ≤ 8) (h40 : eQ.length ≤ 40) : ∃ m,hN (tk eQ c eQ.length) = some m ∧ HA c eQ m:=by
 obtain ⟨ws,hw,_,hI,hA⟩:=AB hc h8 h40
 exact ⟨_,by unfold hN; rw [hw],ws,hw,hI,hA⟩
theorem yc {c : Int} (h8 : 1 ≤ c ∧ c ≤ 8) {l : List (List Instr)} (hl : LQ c l) {r1 r2 : Int} (h1 : 1 ≤ r1 ∧ r1 ≤ 4) (h2 : 1 ≤ r2 ∧ r2 ≤ 4) : ∃ cs ms,AC c cs ∧ l = cs.map (fun eQ=>tk eQ c eQ.length) ∧ SQ c cs (aE.mk ms [Box.mk r1 [],Box.mk r2 []] 0 0 []) ∧ sqR [r1,r2] l = (aE.mk ms [Box.mk r1 [],Box.mk r2 []] 0 0 [],true) ∧ mp hN l = some ms:=by
 obtain ⟨cs,rfl,hcs⟩:=vJ hl.2.2
 have l1:=hl.1
 have l2:=hl.2.1
 rw [List.length_map] at l1 l2
 obtain ⟨ms,hms⟩:=zB (g:=hN) (l:=cs.map (fun eQ=>tk eQ c eQ.length)) fun x hx=>by
  obtain ⟨eQ,hc,rfl⟩:=List.mem_map.1 hx
  obtain ⟨m,hm,_⟩:=xp (hcs eQ hc).1 h8 (hcs eQ hc).2
  exact ⟨m,hm⟩
 obtain ⟨k1,k2⟩:=zq hms
 rw [List.length_map] at k1
 refine ⟨cs,ms,⟨h8,l1,l2,hcs⟩,rfl,⟨k1,fun j eQ m hj hm=>?_,rfl,fun b hb=>?_,⟨Int.le_refl _,by simp only; omega⟩,⟨Int.le_refl _,by simp only; omega⟩,by simp⟩,?_,hms⟩
 ·obtain ⟨m',e1,e2⟩:=k2 j (tk eQ c eQ.length) (by rw [List.getElem?_map,hj]; rfl)
  have hc:=hcs eQ (List.mem_of_getElem? hj)
  obtain ⟨m2,e3,e4⟩:=xp hc.1 h8 hc.2
  simp only at hm
  rw [hm] at e2
  obtain rfl:=o9 e2
  rw [e1] at e3
  obtain rfl:=o9 e3
  exact e4
 ·simp only [List.mem_cons,List.not_mem_nil,or_false] at hb
  rcases hb with rfl | rfl
  ·exact ⟨h1.1,h1.2,by simp; omega,by simp⟩
  ·exact ⟨h2.1,h2.2,by simp; omega,by simp⟩
 ·unfold sqR
  rw [if_pos ⟨wM h1 h2,by rw [List.length_map]; exact l1,by rw [List.length_map]; exact l2⟩,hms]
  rfl
end
noncomputable section
structure VS (s : aE) : Prop where
 d : DS s
 t : 0 ≤ s.Turn ∧ s.Turn < s.Harts.length
 o : ∀ x ∈ s.Out,Wd x
theorem VS.of {s : aE} (h : DS s) (hB : okB s = true) : VS s:=by
 unfold okB at hB
 simp only [Bool.and_eq_true,decide_eq_true_eq,List.all_eq_true] at hB
 refine ⟨h,hB.1,fun x hx=>?_⟩
 have:=hB.2 x hx
 unfold wdB at this
 unfold Wd
 simp at this
 exact this
theorem yd {k t i : Int} : dA k t i 0 = some (0,0,false):=by
 unfold dA
 cases ((((((decide (k < 1)) || (decide (k > 3))) || (decide (t < 0))) || (decide (t ≥ k))) || (decide (i < 0))) || (decide (i ≥ k)))
 ·rfl
 ·rfl
end
noncomputable section
structure KP (n : Nat) (s z : aE) : Prop where
 hl : z.Harts.length = s.Harts.length
 rm : z.Boxes.map Box.Room = s.Boxes.map Box.Room
 o : ∃ o,z.Out = s.Out ++ o ∧ o.length ≤ n
theorem KP.trans {a b : Nat} {s z y : aE} (h : KP a s z) (k : KP b z y) : KP (a + b) s y:=by
 obtain ⟨o,o1,o2⟩:=h.o
 obtain ⟨p,p1,p2⟩:=k.o
 exact ⟨k.hl.trans h.hl,k.rm.trans h.rm,o ++ p,by rw [p1,o1,List.append_assoc],by rw [List.length_append]; omega⟩
theorem KP.len {a : Nat} {s z : aE} (h : KP a s z) : z.Out.length ≤ s.Out.length + a:=by
 obtain ⟨o,o1,o2⟩:=h.o
 rw [o1,List.length_append]; omega
theorem vK {s : aE} (h : VS s) (hi : s.Idle < s.Harts.length) (ho : s.Out.length ≤ 900000) (T I : Int) :
  ((∃ z,cF (aE.mk s.Harts s.Boxes s.Turn s.Idle s.Out) = some (false,z)) ∧ ∃ hs bs out,cY s.Turn (aE.mk s.Harts s.Boxes T I s.Out) = some (0,hs,bs,out)) ∨
  ∃ d s',cF (aE.mk s.Harts s.Boxes s.Turn s.Idle s.Out) = some (true,s'.Harts,s'.Boxes,s'.Turn,s'.Idle,s'.Out) ∧ cY s.Turn (aE.mk s.Harts s.Boxes T I s.Out) = some (d,s'.Harts,s'.Boxes,s'.Out) ∧
   dA (s.Harts.length : Int) s.Turn s.Idle d = some (s'.Turn,s'.Idle,true) ∧ VS s' ∧ KP 1 s s':=by
 obtain ⟨t,ht,htl⟩ : ∃ t : Nat,s.Turn = (t : Int) ∧ t < s.Harts.length:=⟨s.Turn.toNat,by have:=h.t; omega,by have:=h.t; omega⟩
 have nm:=cG htl
 rw [← ht] at nm
 obtain ⟨hM,hz⟩:=h.d.hm _ (List.getElem_mem htl)
 have tn : s.Turn.toNat = t:=by omega
 generalize s.Harts[t] = m at nm hM hz
 have fin : ∀ {d : Int} {o : List Int} {r : List Int} {q : Int} {mem : List Int} {bs : List Box},(1 ≤ d ∧ d ≤ 4) → MOK r q mem → r[0]? = some 0 → bs.length = 2 → (∀ b ∈ bs,rz b) → (∀ x ∈ o,Wd x) → o.length ≤ 1 → bs.map Box.Room = s.Boxes.map Box.Room →
   ∃ t' i',gf ((s.Harts.set t ⟨r,q,mem⟩).length : Int) s.Turn s.Idle d = some (t',i',true) ∧ dA (s.Harts.length : Int) s.Turn s.Idle d = some (t',i',true) ∧ VS (aE.mk (s.Harts.set t ⟨r,q,mem⟩) bs t' i' (s.Out ++ o)) ∧ KP 1 s (aE.mk (s.Harts.set t ⟨r,q,mem⟩) bs t' i' (s.Out ++ o)):=by
  intro d o r q mem bs hd hM' hz' hbl hbs hox hol hrm
  obtain ⟨t',i',e1,e2,ht',hi'⟩:=uh (k:=s.Harts.length) h.d.l1 h.d.l3 h.t ⟨h.d.i.1,hi⟩ hd
  refine ⟨t',i',?_,e2,⟨⟨by simpa using h.d.l1,by simpa using h.d.l3,fun m' hm'=>?_,hbl,hbs,by simpa using hi',?_⟩,by simpa using ht',fun x hx=>?_⟩,⟨by simp,hrm,o,rfl,hol⟩⟩
  ·rw [List.length_set]; exact e1
  ·rcases List.mem_or_eq_of_mem_set hm' with hm' | rfl
   ·exact h.d.hm _ hm'
   ·exact ⟨hM',hz'⟩
  ·simp only [List.length_append]; omega
  ·rcases List.mem_append.1 hx with hx | hx
   ·exact h.o x hx
   ·exact hox x hx
 cases hpc : (m.Pc == 0)
 ·obtain ⟨k,r,p,mem,s1,s2,hM',_,hk⟩:=Ad hM
  obtain ⟨_,q2⟩:=xL _ _ s2
  simp only at q2
  by_cases k1 : k = 1
  ·subst k1
   obtain ⟨t',i',e1,e2,hV,hK⟩:=fin (d:=1) (o:=[]) (by omega) hM' (q2.trans hz) h.d.bl h.d.bs (by simp) (by simp) rfl
   refine .inr ⟨1,_,?_,?_,e2,hV,hK⟩
   ·unfold cF
    refine aa nm (aa (y:=.inl (1,s.Out,s.Harts.set t ⟨r,p,mem⟩,s.Boxes)) (ab hpc (aa s1 (ab rfl ?_))) ?_)
    ·dsimp only; rw [tn]
    ·dsimp only [fd]
     refine aa e1 ?_
     simp
   ·unfold cY
    refine aa nm (ab hpc (aa s2 (ai rfl ?_)))
    simp [tn]
  ·refine .inl ⟨⟨(s.Harts.set t ⟨r,p,mem⟩,s.Boxes,s.Turn,s.Idle,s.Out),?_⟩,s.Harts.set t ⟨r,p,mem⟩,s.Boxes,s.Out,?_⟩
   ·unfold cF
    refine aa nm (aa (y:=.inr (false,s.Harts.set t ⟨r,p,mem⟩,s.Boxes,s.Turn,s.Idle,s.Out)) (ab hpc (aa s1 (ai (by simpa using k1) ?_))) rfl)
    dsimp only; rw [tn]
   ·unfold cY
    refine aa nm (ab hpc (aa s2 (ab (by simpa using k1) ?_)))
    simp [tn]
 ·have hp : m.Pc = 0:=eq_of_beq hpc
  rcases ui (bs:=s.Boxes) (out:=s.Out) hM hz hp h.d.bl h.d.bs (by omega) with ⟨f,r,q,o,b,e⟩ | ⟨f,o,d,r,q,bs',e,e',hd,hM',hz',b1,b2,o1,o2,b3,_,_⟩
  ·refine .inl ⟨⟨(s.Harts,s.Boxes,s.Turn,s.Idle,s.Out),?_⟩,s.Harts.set t ⟨r,q,m.Mem⟩,b,o,?_⟩
   ·unfold cF
    exact aa nm (aa (y:=.inr (false,s.Harts,s.Boxes,s.Turn,s.Idle,s.Out)) (ai hpc (aa f (ai rfl rfl))) rfl)
   ·unfold cY
    refine aa nm (ai hpc (aa e ?_))
    simp [tn]
  ·obtain ⟨t',i',e1,e2,hV,hK⟩:=fin hd hM' hz' b1 b2 o1 o2 b3
   refine .inr ⟨d,_,?_,?_,e2,hV,hK⟩
   ·have ha : app 8 s.Out o = some (s.Out ++ o):=dY (by omega)
    unfold cF
    refine aa nm (aa (y:=.inl (d,s.Out ++ o,s.Harts.set t ⟨r,q,m.Mem⟩,bs')) (ai hpc (aa f (ab rfl (aa e (aa ha ?_))))) ?_)
    ·dsimp only; rw [tn]
    ·dsimp only [fd]
     exact aa e1 rfl
   ·unfold cY
    refine aa nm (ai hpc (aa e' ?_))
    simp [tn]
def qS (s : aE) : Option aE:=match cF (aE.mk s.Harts s.Boxes s.Turn s.Idle s.Out) with
 | some (true,a,b,c,d,e)=>some ⟨a,b,c,d,e⟩
 | _=>none
def rC : Nat → aE → Option aE
 | 0,s=>some s
 | n + 1,s=>if s.Idle < s.Harts.length then (qS s).bind (rC n) else some s
theorem uk {s : aE} (h : ¬ s.Idle < s.Harts.length) : ∀ n,rC n s = some s
 | 0=>rfl
 | n + 1=>by unfold rC; rw [if_neg h]
theorem vL {s : aE} {z} (h : cF (aE.mk s.Harts s.Boxes s.Turn s.Idle s.Out) = some (false,z)) : qS s = none:=by unfold qS; rw [h]
theorem xq {s s' : aE} (h : cF (aE.mk s.Harts s.Boxes s.Turn s.Idle s.Out) = some (true,s'.Harts,s'.Boxes,s'.Turn,s'.Idle,s'.Out)) : qS s = some s':=by unfold qS; rw [h]
def zS : aE × Bool:=(aE.mk [] [] 0 0 [],false)
theorem ul {n : Nat} (hn : n ≤ 1000000) : ∀ (j : Nat) (s : aE) (i : Nat),i + j = n → VS s → s.Out.length + j ≤ 900000 → bE (cg (n : Int)) ((i : Int),s.Harts,s.Boxes,s.Turn,s.Idle,s.Out) = some (match rC j s with
   | none=>.inl zS
   | some z=>.inr (z.Harts,z.Boxes,z.Turn,z.Idle,z.Out))
 | 0,s,i,hi,h,ho=>by
  rw [cw]
  have : cg (n : Int) ((i : Int),s.Harts,s.Boxes,s.Turn,s.Idle,s.Out) = some (.inr (.inr (s.Harts,s.Boxes,s.Turn,s.Idle,s.Out))):=by
   unfold cg
   exact ab (by simp; omega) rfl
  rw [this]
  rfl
 | j + 1,s,i,hi,h,ho=>by
  rw [cw]
  by_cases hI : s.Idle < s.Harts.length
  ·have hT : (decide ((i : Int) < (n : Int)) && decide (s.Idle < (s.Harts.length : Int))) = true:=by simp; omega
   unfold rC
   rw [if_pos hI]
   rcases vK h hI (by omega) 0 0 with ⟨⟨y,k⟩,_⟩ | ⟨d,s',k1,_,_,k4,k5⟩
   ·have : cg (n : Int) ((i : Int),s.Harts,s.Boxes,s.Turn,s.Idle,s.Out) = some (.inr (.inl zS)):=by
     unfold cg
     exact ai hT (aa k (ai rfl rfl))
    rw [this,vL k]
    rfl
   ·have : cg (n : Int) ((i : Int),s.Harts,s.Boxes,s.Turn,s.Idle,s.Out) = some (.inl (((i + 1 : Nat) : Int),s'.Harts,s'.Boxes,s'.Turn,s'.Idle,s'.Out)):=by
     unfold cg
     exact ai hT (aa k1 (ab rfl (by simp only [fK (i:=i) (by omega)])))
    rw [this,xq k1]
    have:=k5.len
    exact ul hn j s' (i + 1) (by omega) k4 (by omega)
  ·have : cg (n : Int) ((i : Int),s.Harts,s.Boxes,s.Turn,s.Idle,s.Out) = some (.inr (.inr (s.Harts,s.Boxes,s.Turn,s.Idle,s.Out))):=by
    unfold cg
    exact ab (by simp; omega) rfl
   rw [this,uk hI]
theorem um {K : Nat} {a4 : aE} : ∀ (j : Nat) (s : aE),j ≤ 1000000 → VS s → s.Harts.length = K → s.Out.length + j ≤ 900000 → match rC j s with
   | none=>∃ a b c,bE (a6 (K : Int) a4) ((j : Int),s.Turn,s.Idle,s.Harts,s.Boxes,s.Out) = some (.inl (0,0,false,a,b,c))
   | some z=>bE (a6 (K : Int) a4) ((j : Int),s.Turn,s.Idle,s.Harts,s.Boxes,s.Out) = some (.inr (z.Turn,z.Idle,z.Harts,z.Boxes,z.Out))
 | 0,s,hj,h,hK,ho=>by
  show bE _ _ = _
  rw [cw]
  have : a6 (K : Int) a4 (((0 : Nat) : Int),s.Turn,s.Idle,s.Harts,s.Boxes,s.Out) = some (.inr (.inr (s.Turn,s.Idle,s.Harts,s.Boxes,s.Out))):=by
   unfold a6
   exact ab (by simp) rfl
  rw [this]
 | j + 1,s,hj,h,hK,ho=>by
  by_cases hI : s.Idle < s.Harts.length
  ·have hT : (decide (((j + 1 : Nat) : Int) > 0) && decide (s.Idle < (K : Int))) = true:=by simp; omega
   rw [show rC (j + 1) s = (qS s).bind (rC j) by unfold rC; rw [if_pos hI]]
   rcases vK h hI (by omega) a4.Turn a4.Idle with ⟨⟨y,k⟩,hs,bs,out,k2⟩ | ⟨d,s',k1,k2,k3,k4,k5⟩
   ·rw [vL k]
    refine ⟨hs,bs,out,?_⟩
    rw [cw]
    have : a6 (K : Int) a4 (((j + 1 : Nat) : Int),s.Turn,s.Idle,s.Harts,s.Boxes,s.Out) = some (.inr (.inl (0,0,false,hs,bs,out))):=by
     unfold a6
     exact ai hT (aa k2 (aa yd (ai rfl rfl)))
    rw [this]
   ·rw [xq k1]
    have hl:=k5.len
    have this:=um (K:=K) (a4:=a4) j s' (by omega) k4 (k5.hl.trans hK) (by omega)
    have hw : w64 (((j + 1 : Nat) : Int) - 1) = (j : Int):=by rw [aK (by omega) (by omega)]; omega
    rw [hK] at k3
    have st : a6 (K : Int) a4 (((j + 1 : Nat) : Int),s.Turn,s.Idle,s.Harts,s.Boxes,s.Out) = some (.inl ((j : Int),s'.Turn,s'.Idle,s'.Harts,s'.Boxes,s'.Out)):=by
     unfold a6
     exact ai hT (aa k2 (aa k3 (ab rfl (by simp only [hw]))))
    have e : bE (a6 (K : Int) a4) (((j + 1 : Nat) : Int),s.Turn,s.Idle,s.Harts,s.Boxes,s.Out) = bE (a6 (K : Int) a4) ((j : Int),s'.Turn,s'.Idle,s'.Harts,s'.Boxes,s'.Out):=by
     rw [cw,st]
    rw [e]
    exact this
  ·rw [uk hI]
   show bE _ _ = _
   rw [cw]
   have : a6 (K : Int) a4 (((j + 1 : Nat) : Int),s.Turn,s.Idle,s.Harts,s.Boxes,s.Out) = some (.inr (.inr (s.Turn,s.Idle,s.Harts,s.Boxes,s.Out))):=by
    unfold a6
    exact ab (by simp; omega) rfl
   rw [this]
theorem wQ {s : aE} (h : DS s) : gM s.Boxes = some s.Boxes ∧ bA s.Out = some s.Out ∧ bE (ea (aE.mk s.Harts s.Boxes s.Turn s.Idle s.Out)) (0,[]) = some s.Harts:=by
 have h3:=h.l3
 have hcl : ∀ {l : List Int},l.length ≤ 1000000 → bA l = some l:=fun hl=>by
  unfold bA
  exact aa ((dY (by simp; omega)).trans (by simp)) rfl
 refine ⟨?_,hcl h.o,?_⟩
 ·unfold gM
  have:=ou (f:=eO s.Boxes) (l:=s.Boxes) (g:=fun b=>b) (fun i acc x hx ha=>by
   have hbl:=h.bl
   have hi : i < s.Boxes.length:=by rcases Nat.lt_or_ge i s.Boxes.length with h | h; exact h; rw [List.getElem?_eq_none h] at hx; cases hx
   obtain ⟨g1,g2,g3,g4⟩:=h.bs x (List.mem_of_getElem? hx)
   unfold eO
   exact ai (by simpa using hi) (aa (mt hx) (aa (hcl (by omega)) (aa (dY (by simp; omega)) (by rw [fK (by omega)]))))) (fun acc ha=>by
   unfold eO
   exact ab (by simp) rfl)
  rw [List.map_id'] at this
  exact aa this rfl
 ·exact sq (f:=ea (aE.mk s.Harts s.Boxes s.Turn s.Idle s.Out)) (fun i=>((i : Int),s.Harts.take i)) s.Harts.length (r:=s.Harts) (fun i hi=>by
   obtain ⟨m1,_⟩:=h.hm _ (List.getElem_mem hi)
   have h32:=m1.r32
   have h10:=m1.m10
   have hc : fv (ah.mk (s.Harts[i]).Regs (s.Harts[i]).Pc (s.Harts[i]).Mem) = some (ah.mk (s.Harts[i]).Regs (s.Harts[i]).Pc (s.Harts[i]).Mem):=by
    unfold fv
    exact aa (hcl (l:=(s.Harts[i]).Regs) (by omega)) (aa (hcl (l:=(s.Harts[i]).Mem) (by omega)) rfl)
   unfold ea
   refine ai (by simpa using hi) (aa (cG hi) (aa hc (aa (dY (by simp; omega)) ?_)))
   rw [fK (by omega),List.take_add_one,List.getElem?_eq_getElem hi]
   rfl) (by
   unfold ea
   refine ab (by simp) ?_
   simp)
def BF (s : aE) (n : Int) : aE × Bool:=if okB s = true ∧ 0 ≤ n ∧ n ≤ 1000000 then (match rC n.toNat s with | none=>zS | some z=>(z,true)) else zS
theorem zC {s : aE} (h : DS s) {n : Int} (ho : s.Out.length ≤ 1000) (hn : n ≤ 10000 ∨ 1000000 < n) : gc (aE.mk s.Harts s.Boxes s.Turn s.Idle s.Out) n = some (BF s n) ∧ ja (aE.mk s.Harts s.Boxes s.Turn s.Idle s.Out) n = some (BF s n):=by
 obtain ⟨v1,v2⟩:=tj h
 unfold BF
 by_cases hv : okB s = true ∧ 0 ≤ n ∧ n ≤ 1000000
 ·rw [if_pos hv]
  obtain ⟨hB,n0,n1⟩:=hv
  have hV:=VS.of h hB
  rw [hB] at v1 v2
  obtain ⟨c1,c2,c3⟩:=wQ h
  have c4:=uj h
  obtain ⟨N,rfl⟩ : ∃ N : Nat,n = (N : Int):=⟨n.toNat,by omega⟩
  rw [Int.toNat_natCast]
  have i1:=um (K:=s.Harts.length) (a4:=aE.mk s.Harts s.Boxes 0 0 s.Out) N s (by omega) hV rfl (by omega)
  have i2:=ul (n:=N) (by omega) N s 0 (by omega) hV (by omega)
  refine ⟨?_,?_⟩
  ·unfold gc
   refine aa v2 (ab ?_ (aa c1 (aa c2 (aa c3 ?_))))
   ·rw [decide_eq_false (by omega),decide_eq_false (by omega)]; rfl
   ·unfold gh
    cases hr : rC N s with
    | none =>
     rw [hr] at i1
     obtain ⟨a,b,c,i1⟩:=i1
     exact aa (y:=(0,0,false,a,b,c)) (aa i1 rfl) (ai rfl rfl)
    | some z =>
     rw [hr] at i1
     exact aa (y:=(z.Turn,z.Idle,true,z.Harts,z.Boxes,z.Out)) (aa i1 rfl) (ab rfl rfl)
  ·unfold ja
   have e : (sel (!true) (some true) ((ax (N : Int) 0 1000000).bind fun y2=>some (!y2)) : Option Bool) = some false:=by
    unfold ax
    refine ab rfl ?_
    show some (!(decide ((N : Int) ≥ 0) && decide ((N : Int) ≤ 1000000))) = some false
    rw [decide_eq_true (by omega),decide_eq_true (by omega)]; rfl
   refine aa v1 (aa e (ab rfl (aa c4 ?_)))
   refine aa i2 ?_
   cases rC N s with
   | none=>rfl
   | some z=>rfl
 ·rw [if_neg hv]
  refine ⟨?_,?_⟩
  ·unfold gc
   refine aa v2 (ai ?_ rfl)
   cases hB : okB s
   ·rfl
   ·by_cases h0 : 0 ≤ n
    ·have : ¬ n ≤ 1000000:=fun h1=>hv ⟨hB,h0,h1⟩
     rw [decide_eq_true (show n > 1000000 by omega)]; simp
    ·rw [decide_eq_true (show n < 0 by omega)]; simp
  ·unfold ja
   have e : (sel (!okB s) (some true) ((ax n 0 1000000).bind fun y2=>some (!y2)) : Option Bool) = some true:=by
    cases hB : okB s
    ·rfl
    ·unfold ax
     refine ab rfl ?_
     show some (!(decide (n ≥ 0) && decide (n ≤ 1000000))) = some true
     by_cases h0 : 0 ≤ n
     ·have : ¬ n ≤ 1000000:=fun h1=>hv ⟨hB,h0,h1⟩
      rw [decide_eq_false this]; simp
     ·rw [decide_eq_false (show ¬ n ≥ 0 by omega)]; simp
   exact aa v1 (aa e (ai rfl rfl))
end
noncomputable section
theorem AE {s : aE} (h : DS s) : dE s s = some true:=by
 have h3:=h.l3
 have hbl:=h.bl
 refine nR (by omega) (fun m hm=>?_) (by omega) (fun b hb=>?_) (by have:=h.o; omega)
 ·obtain ⟨k,_⟩:=h.hm m hm
  have:=k.r32
  have:=k.m10
  omega
 ·obtain ⟨g1,g2,g3,g4⟩:=h.bs b hb
  omega
theorem zD : dE zS.1 zS.1 = some true:=nR (by simp [zS]) (by simp [zS]) (by simp [zS]) (by simp [zS]) (by simp [zS])
end
noncomputable section
theorem AF : pE (Instr.mk 0 0 0 0 0) = none:=by
 have e : cD (Instr.mk 0 0 0 0 0) = some (0,false):=by kernel_rfl
 rcases ng (Instr.mk 0 0 0 0 0) with ⟨r,h,_⟩ | ⟨_,_,_,h⟩
 ·rw [e] at h; cases h
 ·exact h
theorem zE : ∀ l : List Instr,wl (l ++ [Instr.mk 0 0 0 0 0]) = none
 | []=>by simp only [List.nil_append,wl,AF]
 | x :: xs=>by
  rw [List.cons_append]
  simp only [wl,zE xs]
  cases pE x <;> rfl
theorem xr {α β : Type} {g : α → Option β} : ∀ {l : List α} {x : α},x ∈ l → g x = none → mp g l = none
 | [],_,h,_=>by simp at h
 | y :: ys,x,h,hx=>by
  rcases List.mem_cons.1 h with rfl | h
  ·simp only [mp,hx]
  ·simp only [mp,xr h hx]
   cases g y <;> rfl
theorem vM (y : Int) : nM [0,y] = false:=by
 have s0 : bU [0,y] 0 = some (.inr (.inl false)):=by
  unfold bU ax
  rw [show nth [0,y] 0 = some 0 from rfl]
  rfl
 have e : bE (bU [0,y]) 0 = some (.inl false):=by rw [cw,s0]
 unfold nM d8
 rw [e]
 rfl
def DrN (z : List Int × List (List Instr)) : Prop:=(∃ c,(1 ≤ c ∧ c ≤ 8) ∧ LQ c z.2 ∧ ∃ r1 r2 : Int,z.1 = [r1,r2] ∧ (1 ≤ r1 ∧ r1 ≤ 4) ∧ (1 ≤ r2 ∧ r2 ≤ 4)) ∨
 ((z.1.length ≤ 1000 ∧ z.2.length ≤ 1000 ∧ ∀ x ∈ z.2,x.length ≤ 1000) ∧ sqR z.1 z.2 = (aE.mk [] [] 0 0 [],false))
theorem tl {k : Nat} (hk : 20 ≤ k) {eQ : List Int} (h : ∀ x ∈ eQ,0 ≤ x ∧ x ≤ 255) : Tot (eK k eQ) DrN:=by
 unfold eK
 refine .bind (yD h) fun r ⟨hb,hp⟩=>.bind (zA (m:=0) hb hk (by rw [hp]; omega) (by rw [hp]; omega) (by omega)) fun z hz=>.bind (bg hb hz.1 hz.2.1 (by omega) (by omega) (by omega)) fun x hx=>.bind (bg hb hx.1 hx.2.1 (by omega) (by omega) (by omega)) fun y hy=>?_
 have hx2:=hx.2.2
 have hy2:=hy.2.2
 obtain ⟨c,h8,hL⟩:=hz.2.2
 have hlok:=hL.lok h8
 have l1:=hL.1
 have l2:=hL.2.1
 have l3 : ∀ w ∈ z.1,w.length ≤ 240:=fun w hw=>by have:=(hlok.2.2 w hw).1; omega
 rw [bf (i:=1 + x.1) (by omega) (by omega),bf (i:=1 + y.1) (by omega) (by omega)]
 refine .bind (P:=fun q=>DrN (q.2.2,q.1)) (.bind (bg hb hy.1 hy.2.1 (by omega) (by omega) (by omega)) fun t ht=>.sel (fun _=>.bind (.nth (by omega) (by simp)) fun _ _=>.bind (.upd (by omega) (by simp)) fun r hr=>.pure ?_) fun _=>.sel (fun _=>.bind (.nth (l:=z.1) (by omega) (by omega)) fun w ⟨_,hw⟩=>.bind (.app (by simp; omega)) fun r hr=>.pure ?_) fun _ =>
  .sel (fun _=>.bind (.nth (l:=z.1) (by omega) (by omega)) fun w ⟨_,hw⟩=>.bind (.app (by have:=l3 w hw; simp; omega)) fun r hr=>.pure ?_) fun _=>.pure ?_) fun q hq=>.pure hq
 ·subst hr
  refine .inr ⟨⟨by simp,by simp only; omega,fun w hw=>by have:=l3 w hw; omega⟩,?_⟩
  unfold sqR
  rw [if_neg]
  rintro ⟨hr,_⟩
  have : nM [0,1 + y.1] = true:=hr
  rw [vM] at this; cases this
 ·subst hr
  refine .inr ⟨⟨by simp,by simp only [List.length_append,List.length_replicate]; omega,fun v hv=>?_⟩,?_⟩
  ·rcases List.mem_append.1 hv with hv | hv
   ·have:=l3 v hv; omega
   ·rw [(List.mem_replicate.1 hv).2]
    have:=l3 w hw; omega
  ·unfold sqR
   rw [if_neg]
   rintro ⟨_,_,hr⟩
   simp only [List.length_append,List.length_replicate] at hr
   omega
 ·subst hr
  refine .inr ⟨⟨by simp,by simp only [List.length_set]; omega,fun v hv=>?_⟩,?_⟩
  ·rcases List.mem_or_eq_of_mem_set hv with hv | rfl
   ·have:=l3 v hv; omega
   ·have:=l3 w hw
    simp only [List.length_append,List.length_singleton]; omega
  ·have hn : mp hN (z.1.set (Int.toNat 0) (w ++ [Instr.mk 0 0 0 0 0])) = none:=xr (x:=w ++ [Instr.mk 0 0 0 0 0]) (List.mem_set (by show 0 < z.1.length; omega) _) (by unfold hN; rw [zE])
   unfold sqR
   simp only
   rw [hn]
   split <;> rfl
 ·exact .inl ⟨c,h8,hL,1 + x.1,1 + y.1,rfl,by omega,by omega⟩
theorem HI.first {n : Nat} {ws : List Int} {m : ah} (h : HI n ws m) (hw : ws.length = n) : cut m.Mem 0 (1 + (n : Int)) = some (0 :: ws):=by
 have hl:=h.len
 have e : m.Mem.take (n + 1) = 0 :: ws:=by
  apply List.ext_getElem?
  intro q
  cases q with
  | zero=>rw [List.getElem?_take,if_pos (by omega),h.m0]; rfl
  | succ q =>
   rw [List.getElem?_take,List.getElem?_cons_succ]
   split
   ·rename_i hq
    rw [h.eQ q (ws[q]'(by omega)) (List.getElem?_eq_getElem _),List.getElem?_eq_getElem]
   ·rename_i hq
    rw [List.getElem?_eq_none (by omega)]
 unfold cut
 rw [if_pos (by omega)]
 have t : (1 + (n : Int)).toNat = n + 1:=by omega
 simp [t,e]
theorem wR {k : Nat} (hk : 20 ≤ k) {a0 a1 : List Int} (h : ∀ x ∈ a0,0 ≤ x ∧ x ≤ 255) : ic k a0 a1 = some true:=by
 refine Tot.eq ?_
 unfold ic
 refine .sel (fun _=>.pure rfl) fun hlen=>.bind (tl hk h) fun z hz=>?_
 obtain ⟨rooms,rW⟩:=z
 simp only [Bool.or_eq_false_iff,decide_eq_false_iff_not] at hlen
 rcases hz with ⟨c,h8,hL,r1,r2,hr,h1,h2⟩ | ⟨⟨q1,q2,q3⟩,hf⟩
 ·simp only at hL hr
  subst hr
  obtain ⟨cs,ms,hC,hcs,hS,hR,_⟩:=yc h8 hL h1 h2
  have hlok:=hL.lok h8
  obtain ⟨e1,e2⟩:=vG (rooms:=[r1,r2]) (rW:=rW) (by simp) (by have:=hL.2.1; omega) (fun z hz=>by have:=(hlok.2.2 z hz).1; omega)
  rw [hR] at e1 e2
  obtain ⟨hD,hB⟩:=hS.ds hC (by simp)
  have hSS:=AE hD
  obtain ⟨n,hn0,hn1⟩ : ∃ n : Int,Int.tmod (a1.length : Int) 401 = n ∧ 0 ≤ n ∧ n ≤ 400:=⟨_,rfl,Int.tmod_nonneg _ (by omega),by have:=Int.tmod_lt_of_pos (a1.length : Int) (show (0 : Int) < 401 by omega); omega⟩
  obtain ⟨zz,z1,z2,z3,_,_⟩:=yb hC hS hn1.1 (by omega) (by simp)
  obtain ⟨b1,b2⟩:=zC hD (n:=n) (by simp) (by omega)
  obtain ⟨z,zb⟩:=zz
  simp only at z2 z3
  subst z2
  rw [b2] at z1
  rw [o9 z1] at b1
  have hsq : j0 [r1,r2] rW n = some z:=by
   unfold j0
   exact aa e1 (aa b1 (ab rfl rfl))
  rw [← hn0] at hsq
  refine .of (aa e1 (aa e2 (aa (y:=false) (ab rfl (aa hSS rfl)) (ab rfl (aa hsq ?_))))) rfl
  have hll : rW.length = cs.length:=by rw [hcs]; simp
  have L:=j6 (f:=dR ([r1,r2],rW) (aE.mk ms [Box.mk r1 [],Box.mk r2 []] 0 0 [],true) z) (l:=rW) (fun _=>true) (by have:=hL.2.1; omega) (fun i hi=>by
   have hic : i < cs.length:=by omega
   have hx : rW[i] = tk cs[i] c cs[i].length:=by simp only [hcs,List.getElem_map]
   have hz' : i < z.Harts.length:=by rw [z3.hl]; exact hic
   have hm' : i < ms.length:=by have:=hS.hl; simp only at this; omega
   obtain ⟨ws,w1,w2,_⟩:=z3.hs i _ _ (List.getElem?_eq_getElem hic) (List.getElem?_eq_getElem hz')
   obtain ⟨ws',w1',w2',_⟩:=hS.hs i _ _ (List.getElem?_eq_getElem hic) (List.getElem?_eq_getElem hm')
   obtain rfl : ws = ws':=by rw [w1] at w1'; exact o9 w1'
   have hwl:=kK w1
   have hl9 : (rW[i]).length ≤ 1000:=by have:=(hlok.2.2 _ (List.getElem_mem hi)).1; omega
   rw [← hx] at w2 w2' hwl
   have ww : w64 (1 + ((rW[i]).length : Int)) = 1 + ((rW[i]).length : Int):=aK (by omega) (by omega)
   have c1:=w2.first hwl
   have c2:=w2'.first hwl
   have hne : ((z.Harts.length : Int) != (rW.length : Int)) = false:=by rw [z3.hl,hll]; simp
   have nm : nth ms (i : Int) = some ms[i]:=cG hm'
   have hsp : nth (z.Harts[i]).Regs 2 = some (4 * (((rW[i]).length : Int) + 1)):=qt (k:=2) w2.sp
   unfold dR
   refine ai (by simpa using hi) (aa (cG hi) (aa (cG hz') (aa nm (aa (y:=false) (ab hne ?_) (aa (y:=false) (ab rfl (aa hsp ?_)) (ab rfl rfl))))))
   ·rw [ww]
    exact aa c1 (aa c2 (aa (jb (by simp only [List.length_cons]; omega)) rfl))
   ·rw [ww,aK (by omega) (by omega)]
    congr 1
    simp
    omega) (by
   unfold dR
   exact ab (by simp) rfl)
  rw [show rW.all (fun _=>true) = true by simp] at L
  exact aa L rfl
 ·simp only at q1 q2 q3 hf
  obtain ⟨e1,e2⟩:=vG q1 q2 q3
  rw [hf] at e1 e2
  exact .of (aa e1 (aa e2 (aa (y:=false) (ab rfl (aa zD rfl)) (ai rfl (aa (y:=true) (ai rfl (aa zD rfl)) rfl))))) rfl
end

end Go.Proofs.YtcljimkjmklkmaaGreatDoor.N
