/- Plain laws: the program's facts are the least ones too; so they are the reference's. Plain laws: the pass over constants: program and reference do the same. Pla -/
import Derived.Test.YtfpngipcclmliaaGreatDoorK3
set_option linter.unusedVariables false
set_option linter.unusedSimpArgs false
set_option maxRecDepth 100000
set_option maxHeartbeats 4000000
namespace Go.Proofs.YtfpngipcclmliaaGreatDoor.N
open Go.Proofs.YtfpngipcclmliaaGreatDoor.X
noncomputable section
def smN (f:Nat->Nat):Nat->Nat
 | 0=>0
 | n+1=>smN f n+f n
theorem yD {f g:Nat->Nat}:∀ {n:Nat},(∀ i,i<n->f i<=g i)->smN f n<=smN g n
 | 0,_=>Nat.le_refl _
 | n+1,h=>Nat.add_le_add (yD λi hi=>h i (by omega)) (h n (by omega))
theorem yE {f g:Nat->Nat}:∀ {n:Nat},(∀ i,i<n->f i<=g i)->∀ k,k<n->f k<g k->smN f n<smN g n
 | 0,_,k,hk,_=>by omega
 | n+1,h,k,hk,hl=>by
  by_cases e:k=n
  ·subst e
   exact Nat.add_lt_add_of_le_of_lt (yD λi hi=>h i (by omega)) hl
  ·exact Nat.add_lt_add_of_lt_of_le (yE (λi hi=>h i (by omega)) k (by omega) hl) (h n (by omega))
theorem s6 {f:Nat->Nat} {c:Nat}:∀ {n:Nat},(∀ i,i<n->f i<=c)->smN f n<=n*c
 | 0,_=>by simp [smN]
 | n+1,h=>by
  rw [smN,Nat.succ_mul]
  exact Nat.add_le_add (s6 λi hi=>h i (by omega)) (h n (by omega))
def rkF (a:aj):Nat:=if a.Kind=0 then 2 else if a.Kind=2 then 0 else 1
theorem zp {a b:aj}:rkF (a6 a b)<=rkF a:=by
 unfold a6
 by_cases h:a.Kind=0
 ·rw [if_pos h]
  unfold rkF
  rw [if_pos h]
  split
  ·omega
  ·split <;> omega
 ·rw [if_neg h]
  split
  ·exact Nat.le_refl _
  ·show (0:Nat)<=_
   omega
theorem Dd {a b:aj} (ha:FOk a) (hb:FOk b) (h:a6 a b≠a):rkF (a6 a b)<rkF a:=by
 unfold a6 at h ⊢
 unfold FOk at ha hb
 by_cases h0:a.Kind=0
 ·rw [if_pos h0] at h ⊢
  have hb0:b.Kind≠0:=λe=>h (aj.ext' (by omega) (by omega))
  unfold rkF
  rw [if_pos h0,if_neg hb0]
  split <;> omega
 ·rw [if_neg h0] at h ⊢
  split at h
  ·exact absurd rfl h
  ·rename_i hn
   rw [if_neg hn]
   have ha2:a.Kind≠2:=λe=>h (aj.ext' (by show (2:Int)=_; omega) (by show (0:Int)=_; omega))
   show (0:Nat)<rkF a
   unfold rkF
   rw [if_neg h0,if_neg ha2]
   decide
def fmS (n:Nat) (S:Nat->Nat->aj):Nat:=smN (λi=>smN (λr=>rkF (S i r)) 12) n
theorem zq {n:Nat} {S:Nat->Nat->aj}:fmS n S<=n*24:=s6 λi hi=>by
 have:=s6 (f:=λr=>rkF (S i r)) (c:=2) (n:=12) λr hr=>by
  show rkF _<=2
  unfold rkF
  split
  ·omega
  ·split <;> omega
 omega
theorem Bb {n y:Nat} {S:Nat->Nat->aj} {v:Nat->aj} (hy:y<n) (hS:FoF (S y)) (hv:FoF v) (h:∃ r,r<12/\a6 (S y r) (v r)≠S y r):fmS n (up1 S y v)<fmS n S:=by
 obtain ⟨r,hr,hne⟩:=h
 refine yE (λi hi=>yD λk hk=>?_) y hy (yE (λk hk=>?_) r hr ?_)
 ·unfold up1
  split
  ·rename_i e; subst e; exact zp
  ·exact Nat.le_refl _
 ·unfold up1
  rw [if_pos rfl]
  exact zp
 ·unfold up1
  rw [if_pos rfl]
  exact Dd (hS r hr) (hv r hr) hne
theorem oo {f g:Nat->Nat}:∀ {n:Nat},(∀ i,i<n->f i=g i)->smN f n=smN g n
 | 0,_=>rfl
 | n+1,h=>by rw [smN,smN,oo λi hi=>h i (by omega),h n (by omega)]
def fmI (n:Nat) (all:List (Ar aj)):Nat:=fmS n λi r=>(all[i]?.getD λ_=>⟨0,0⟩) r
def AI (n:Nat) (all:List (Ar aj)) (S:Nat->Nat->aj):Prop:=all.length=n/\∀ i,i<n->∃ a,all[i]?=some a/\Fa a (S i)
theorem AI.get {n:Nat} {all:List (Ar aj)} {S:Nat->Nat->aj} (h:AI n all S) {x:Int} (h0:0<=x) (h1:x<n):∃ a,nth all x=some a/\Fa a (S x.toNat):=by
 obtain ⟨l,e,hl⟩:=h.2 x.toNat (by omega)
 exact ⟨l,by unfold nth; rw [if_neg (by omega)]; exact e,hl⟩
theorem AI.set {n:Nat} {all:List (Ar aj)} {S S':Nat->Nat->aj} (h:AI n all S) {y:Int} (h0:0<=y) (h1:y<n) {a:Ar aj} (ha:Fa a (S' y.toNat)) (hS:∀ i,i≠y.toNat->S' i=S i):∃ r,X.upd all y a=some r/\AI n r S':=by
 refine ⟨all.set y.toNat a,by unfold X.upd; rw [if_pos (by rw [h.1]; omega)],by rw [List.length_set]; exact h.1,λi hi=>?_⟩
 by_cases e:i=y.toNat
 ·subst e
  exact ⟨a,List.getElem?_set_self (by rw [h.1]; exact hi),ha⟩
 ·obtain ⟨l,el,hl⟩:=h.2 i hi
  exact ⟨l,by rw [List.getElem?_set_ne (λh=>e h.symm)]; exact el,by rw [hS i e]; exact hl⟩
theorem AI.congr {n:Nat} {all:List (Ar aj)} {S S':Nat->Nat->aj} (h:AI n all S) (he:∀ i,i<n->∀ r,r<12->S i r=S' i r):AI n all S':=⟨h.1,λi hi=>by
 obtain ⟨l,e,hl⟩:=h.2 i hi
 exact ⟨l,e,λr hr=>by rw [hl r hr,he i hi r hr]⟩⟩
theorem AI.fm {n:Nat} {all:List (Ar aj)} {S:Nat->Nat->aj} (h:AI n all S):fmI n all=fmS n S:=oo λi hi=>oo λr hr=>by
 obtain ⟨a,e,ha⟩:=h.2 i hi
 show rkF ((all[i]?.getD λ_=>⟨0,0⟩) r)=_
 rw [e,Option.getD_some,ha r hr]
theorem rY {α:Type} {q:α->α->Bool} {b c:Ar α}:∀ {n:Nat},aeq n q b c=true↔∀ r,r<n->q (b r) (c r)=true
 | 0=>by simp [aeq]
 | n+1=>by
  rw [aeq,Bool.and_eq_true,rY]
  exact ⟨λ⟨h1,h2⟩ r hr=>by
   by_cases e:r=n
   ·subst e; exact h2
   ·exact h1 r (by omega),λh=>⟨λr hr=>h r (by omega),h n (by omega)⟩⟩
theorem zr {x y:aj}:(x.Kind==y.Kind&&(x.N==y.N&&true))=true↔x=y:=by
 simp only [Bool.and_true,Bool.and_eq_true,beq_iff_eq]
 exact ⟨λh=>aj.ext' h.1 h.2,λh=>by subst h; exact ⟨rfl,rfl⟩⟩
theorem CG {b a:Ar aj} {v f:Nat->aj} (hb:Fa b v) (ha:Fa a f):Tot (aO (fN b) (0,a)) λz=>Fa z (λr=>a6 (f r) (v r)):=by
 refine .iter (λs=>0<=s.1/\s.1<=12/\∀ r:Nat,r<12->s.2 r=if (r:Int)<s.1 then a6 (f r) (v r) else f r) (λs=>(12-s.1).toNat) ⟨by simp,by simp,λr hr=>by simp only; rw [if_neg (by omega)]; exact ha r hr⟩ λs hs=>?_
 obtain ⟨i,c⟩:=s
 obtain ⟨g0,g1,g2⟩:=hs
 simp only at g0 g1 g2
 unfold fN
 refine .sel (λhlt=>?_) λhge=>.inr λr hr=>?_
 ·simp only [decide_eq_true_eq] at hlt
  have hrr:Rg i:=by unfold Rg; omega
  have hc:cQ 12 c i=some (f i.toNat):=by
   unfold cQ
   rw [if_pos (by omega),g2 _ (by omega),if_neg (by omega)]
  simp only [hc,ob9,hb.get hrr,Ba,aq g0 (show i<=9223372036854775806 by omega)]
  refine .inl ⟨⟨by simp only; omega,by simp only; omega,λr hr=>?_⟩,by simp only; omega⟩
  simp only
  unfold mE
  by_cases e:r=i.toNat
  ·subst e
   rw [if_pos rfl,if_pos (by omega)]
  ·rw [if_neg e,g2 r hr]
   by_cases e2:(r:Int)<i
   ·rw [if_pos e2,if_pos (by omega)]
   ·rw [if_neg e2,if_neg (by omega)]
 ·simp only [decide_eq_false_iff_not] at hge
  show c r=a6 (f r) (v r)
  rw [g2 r hr,if_pos (by omega)]
structure FW (eQ:List ab) (work:List Int) (S:Nat->Nat->aj):Prop where
 gd:Gd eQ S
 mem:∀ w∈work,0<=w/\w<eQ.length/\(S w.toNat 0).Kind≠0
theorem De {eQ:List ab} (hc:COk eQ) {b:Ar aj} {v:Nat->aj} (hb:Fa b v) {ys:List Int} (hin:∀ y∈ys,0<=y/\y<eQ.length) (hlen:ys.length<=2) (hgv:∀ y∈ys,GV eQ y.toNat v) {work:List Int} {all:List (Ar aj)} {S:Nat->Nat->aj} (hA:AI eQ.length all S) (hW:FW eQ work S) (hbd:fmS eQ.length S+work.length<=14401) :
  Tot (aO (fO b ys) (work,0,all)) λz=>∃ S',AI eQ.length z.2 S'/\FW eQ z.1 S'/\fmS eQ.length S'+z.1.length<=fmS eQ.length S+work.length/\(∀ w∈work,w∈z.1)/\(∀ i:Nat,i<eQ.length->(i:Int)∉z.1->S' i=S i)/\(∀ i,i<eQ.length->iG (S i) (S' i))/\∀ y∈ys,iG v (S' y.toNat):=by
 refine .iter (λs=>0<=s.2.1/\s.2.1<=(ys.length:Int)/\∃ S',AI eQ.length s.2.2 S'/\FW eQ s.1 S'/\fmS eQ.length S'+s.1.length<=fmS eQ.length S+work.length/\(∀ w∈work,w∈s.1)/\(∀ i:Nat,i<eQ.length->(i:Int)∉s.1->S' i=S i)/\(∀ i,i<eQ.length->iG (S i) (S' i))/\∀ y∈ys.take s.2.1.toNat,iG v (S' y.toNat)) (λs=>((ys.length:Int)-s.2.1).toNat)
  ⟨by simp,by simp,S,hA,hW,Nat.le_refl _,λw h=>h,λ_ _ _=>rfl,λi hi r hr=>.refl _,by simp⟩ λs hs=>?_
 obtain ⟨wk,j,a⟩:=s
 obtain ⟨g0,g1,S1,k1,k2,k3,k4,k5,k6,k7⟩:=hs
 simp only at g0 g1 k1 k2 k3 k4 k5 k6 k7
 unfold fO
 dsimp only
 refine .sel (λhlt=>?_) λhge=>.inr ⟨S1,k1,k2,k3,k4,k5,k6,λy hy=>k7 y ?_⟩
 rotate_left
 ·simp only [decide_eq_false_iff_not] at hge
  rw [List.take_of_length_le (by omega)]
  exact hy
 simp only [decide_eq_true_eq] at hlt
 refine .bind (P:=λz:List Int×List (Ar aj)=>∃ S',AI eQ.length z.2 S'/\FW eQ z.1 S'/\fmS eQ.length S'+z.1.length<=fmS eQ.length S+work.length/\(∀ w∈work,w∈z.1)/\(∀ i:Nat,i<eQ.length->(i:Int)∉z.1->S' i=S i)/\(∀ i,i<eQ.length->iG (S i) (S' i))/\∀ y∈ys.take (j+1).toNat,iG v (S' y.toNat)) (.bind (.nth g0 hlt) λy ⟨hy,hym⟩=>?_) λz hz=>.inl ⟨⟨by simp only; rw [aq g0 (by omega)]; omega,by simp only; rw [aq g0 (by omega)]; omega,by simp only; rw [aq g0 (by omega)]; exact hz⟩,by simp only; rw [aq g0 (by omega)]; omega⟩
 obtain ⟨y0,y1⟩:=hin y hym
 have hgy:=hgv y hym
 have hyn:y.toNat<eQ.length:=by omega
 have ht:ys.take (j+1).toNat=ys.take j.toNat++[y]:=by rw [show (j+1).toNat=j.toNat+1 by omega,List.take_add_one,hy]; rfl
 obtain ⟨a1,e1,h1⟩:=k1.get y0 y1
 rw [e1,ob9]
 refine .bind (CG hb h1) λz hz=>?_
 rw [ob9]
 have hmono:∀ i,i<eQ.length->iG (S i) (up1 S1 y.toNat v i):=λi hi r hr=>by
  unfold up1
  split
  ·rename_i e
   subst e
   exact leF.trans (k2.gd.ok _ hi r hr) (k6 _ hi r hr) a6.le1
  ·exact k6 i hi r hr
 refine .sel (λhne=>?_) λhe=>.pure ?_
 ·have hne':∃ r,r<12/\a6 (S1 y.toNat r) (v r)≠S1 y.toNat r:=by
   refine Classical.byContradiction λhno=>?_
   have:aeq 12 (λx y:aj=>(x.Kind==y.Kind&&(x.N==y.N&&true))) z a1=true:=rY.2 λr hr=>zr.2 (by
    rw [hz r hr,h1 r hr]
    exact Classical.byContradiction λhh=>hno ⟨r,hr,hh⟩)
   rw [this] at hne
   cases hne
  have hdec:=Bb hyn (k2.gd.ok _ hyn) hgy.ok hne'
  obtain ⟨r,er,hr⟩:=k1.set (S':=up1 S1 y.toNat v) y0 y1 (a:=z) (by unfold up1; rw [if_pos rfl]; exact hz) λi hi=>by unfold up1; rw [if_neg hi]
  rw [ob9,er,ob9]
  refine .bind (.app (by simp; omega)) λr5 hr5=>.pure ⟨up1 S1 y.toNat v,hr,⟨k2.gd.up hgy,λw hw=>?_⟩,?_,λw hw=>?_,λi hi hn=>?_,hmono,λy' hy'=>?_⟩
  ·subst hr5
   have hnz:∀ i,i<eQ.length->(S1 i 0).Kind≠0->(up1 S1 y.toNat v i 0).Kind≠0:=λi hi hk=>by
    unfold up1
    split
    ·exact gO (hgy.full 0 (by decide))
    ·exact hk
   rcases List.mem_append.1 hw with h' | h'
   ·obtain ⟨m1,m2,m3⟩:=k2.mem w h'
    exact ⟨m1,m2,hnz _ (by omega) m3⟩
   ·rw [List.mem_singleton.1 h']
    refine ⟨y0,y1,?_⟩
    unfold up1
    rw [if_pos rfl]
    exact gO (hgy.full 0 (by decide))
  ·subst hr5
   simp only [List.length_append,List.length_singleton]
   omega
  ·subst hr5
   exact List.mem_append.2 (.inl (k4 w hw))
  ·subst hr5
   simp only [List.mem_append,List.mem_singleton,not_or] at hn
   have hne2:i≠y.toNat:=λe=>hn.2 (by omega)
   unfold up1
   rw [if_neg hne2]
   exact k5 i hi hn.1
  ·rw [ht] at hy'
   rcases List.mem_append.1 hy' with h' | h'
   ·intro r hr
    obtain ⟨b0,b1⟩:=hin y' (List.mem_of_mem_take h')
    unfold up1
    split
    ·rename_i e
     rw [<-e]
     exact leF.trans (k2.gd.ok _ (by omega) r hr) (k7 y' h' r hr) a6.le1
    ·exact k7 y' h' r hr
   ·rw [List.mem_singleton.1 h']
    intro r hr
    unfold up1
    rw [if_pos rfl]
    exact a6.le2
 ·have habs:∀ r,r<12->a6 (S1 y.toNat r) (v r)=S1 y.toNat r:=λr hr=>by
   have:=zr.1 (rY.1 (by simpa using he:aeq 12 (λx y:aj=>(x.Kind==y.Kind&&(x.N==y.N&&true))) z a1=true) r hr)
   rw [hz r hr,h1 r hr] at this
   exact this
  refine ⟨S1,k1,k2,k3,k4,k5,k6,λy' hy'=>?_⟩
  rw [ht] at hy'
  rcases List.mem_append.1 hy' with h' | h'
  ·exact k7 y' h'
  ·rw [List.mem_singleton.1 h']
   exact λr hr=>by rw [<-habs r hr]; exact a6.le2
theorem CH {eQ:List ab} (hc:COk eQ):Tot (eU eQ) λall=>∃ S,AI eQ.length all S/\Gd eQ S/\ClF eQ S:=by
 have hmx:=hc.max
 have h1:=hc.one
 unfold eU
 refine .bind (.mk (by omega) (by omega)) λl hl=>.bind (P:=λs=>AI eQ.length s S0F) (.iter (λs=>0<=s.1/\s.1<=12/\AI eQ.length s.2 (λi r=>if i=0/\(r:Int)<s.1 then ⟨1,0⟩ else ⟨0,0⟩)) (λs=>(12-s.1).toNat) ⟨by simp,by simp,?_⟩ λs hs=>?_) λa1 ha1=>.bind (P:=λall=>∃ S,AI eQ.length all S/\Gd eQ S/\ClF eQ S) (.iter (λs=>∃ S,AI eQ.length s.2 S/\FW eQ s.1 S/\fmS eQ.length S+s.1.length<=14401/\∀ i:Nat,i<eQ.length->(S i 0).Kind≠0->(i:Int)∉s.1->Clo eQ S i) (λs=>fmI eQ.length s.2+s.1.length) ⟨S0F,ha1,⟨gd0 h1,λw hw=>?_⟩,?_,λi hi hk hn=>?_⟩ λs hs=>?_) λz hz=>.pure hz
 ·rw [hl]
  refine ⟨by simp,λi hi=>⟨_,by rw [List.getElem?_replicate,if_pos (by simpa using hi)],λr hr=>?_⟩⟩
  show _=(if i=0/\(r:Int)<0 then (aj.mk 1 0) else aj.mk 0 0)
  rw [if_neg (by omega)]
 ·obtain ⟨i,a⟩:=s
  obtain ⟨g0,g1,g2⟩:=hs
  simp only at g0 g1 g2
  unfold j9
  refine .sel (λhlt=>?_) λhge=>.inr ?_
  ·simp only [decide_eq_true_eq] at hlt
   obtain ⟨b,eb,hb⟩:=g2.get (x:=0) (by decide) (by omega)
   have hrr:Rg i:=by unfold Rg; omega
   have hA1:Fa (mE b i (aj.mk 1 0)) ((λj r=>if j=0/\(r:Int)<i+1 then (aj.mk 1 0) else aj.mk 0 0:Nat->Nat->aj) (0:Int).toNat):=λk hk=>by
    show (if k=i.toNat then (aj.mk 1 0) else b k)=if (0:Int).toNat=0/\(k:Int)<i+1 then (aj.mk 1 0) else aj.mk 0 0
    by_cases e2:k=i.toNat
    ·rw [if_pos e2,if_pos ⟨rfl,by omega⟩]
    ·rw [if_neg e2,hb k hk]
     show (if (0:Int).toNat=0/\(k:Int)<i then (aj.mk 1 0) else aj.mk 0 0)=_
     by_cases e3:(k:Int)<i
     ·rw [if_pos ⟨rfl,e3⟩,if_pos ⟨rfl,by omega⟩]
     ·rw [if_neg (λh=>e3 h.2),if_neg (λh=>by have:=h.2; omega)]
   have hA2:∀ j,j≠(0:Int).toNat->(λj r=>if j=0/\(r:Int)<i+1 then (aj.mk 1 0) else aj.mk 0 0:Nat->Nat->aj) j=(λj r=>if j=0/\(r:Int)<i then (aj.mk 1 0) else aj.mk 0 0:Nat->Nat->aj) j:=λj hj=>by
    have:j≠0:=hj
    funext r
    show (if j=0/\(r:Int)<i+1 then (aj.mk 1 0) else aj.mk 0 0)=if j=0/\(r:Int)<i then (aj.mk 1 0) else aj.mk 0 0
    rw [if_neg (λh=>this h.1),if_neg (λh=>this h.1)]
   obtain ⟨r,er,hr⟩:=g2.set (y:=0) (by decide) (by omega) hA1 hA2
   dsimp only
   rw [eb,ob9,hb.get hrr,ob9,er,ob9,aq g0 (by omega)]
   exact .inl ⟨⟨by simp only; omega,by simp only; omega,hr⟩,by simp only; omega⟩
  ·simp only [decide_eq_false_iff_not] at hge
   refine g2.congr λj hj r hr=>?_
   unfold S0F
   by_cases e:j=0
   ·rw [if_pos ⟨e,by omega⟩,if_pos e]
   ·rw [if_neg (λh=>e h.1),if_neg e]
 ·rw [List.mem_singleton.1 hw]
  refine ⟨by omega,by omega,?_⟩
  show (1:Int)≠0
  decide
 ·have:=@zq eQ.length S0F
  simp only [List.length_singleton]
  omega
 ·exfalso
  simp only at hn
  unfold S0F at hk
  by_cases e:i=0
  ·subst e; simp at hn
  ·rw [if_neg e] at hk; exact hk rfl
 ·obtain ⟨work,a⟩:=s
  obtain ⟨S,hA,hW,hbd,hcl⟩:=hs
  simp only at hA hW hbd hcl
  unfold jo
  dsimp only
  refine .sel (λhlt=>?_) λhge=>.inr ?_
  rotate_left
  ·simp only [gt_iff_lt,decide_eq_false_iff_not] at hge
   have hnil:work=[]:=List.eq_nil_of_length_eq_zero (by omega)
   subst hnil
   exact ⟨S,hA,hW.gd,hW.gd.ok,hW.gd.init,λi q hq hk y hy=>hcl i (bV hq) hk (by simp) q hq hk y hy⟩
  simp only [gt_iff_lt,decide_eq_true_eq] at hlt
  rw [aE (by omega) (by omega)]
  refine .bind (.nth (by omega) (by omega)) λx ⟨hx,hxm⟩=>.bind (.cut ⟨by omega,by omega,by omega⟩) λr3 hr3=>?_
  have hr3':r3=work.dropLast:=by
   rw [hr3,show ((0:Int)).toNat=0 from rfl,List.drop_zero,List.dropLast_eq_take,show ((work.length:Int)-1).toNat=work.length-1 by omega]
  have hsplit:work=r3++[x]:=by
   have hne:work≠[]:=by rintro rfl; simp at hlt
   have hl:=List.dropLast_concat_getLast hne
   have hx2:work.getLast hne=x:=by
    have:work[work.length-1]?=some (work.getLast hne):=by
     rw [List.getLast_eq_getElem]
     exact List.getElem?_eq_getElem (by omega)
    rw [show ((work.length:Int)-1).toNat=work.length-1 by omega] at hx
    exact o9 (this.symm.trans hx)
   rw [hr3',<-hx2]
   exact hl.symm
  have hwlen:work.length=r3.length+1:=by rw [hsplit]; simp
  obtain ⟨x0,x1,xk⟩:=hW.mem x hxm
  have ex:((x.toNat:Nat):Int)=x:=by omega
  obtain ⟨b,eb,hb⟩:=hA.get x0 x1
  obtain ⟨q,hq⟩:∃ q,eQ[x.toNat]?=some q:=⟨_,List.getElem?_eq_getElem (by omega)⟩
  have hqm:=List.mem_of_getElem? hq
  have hqok:=hc.q q hqm
  have hlo:=hW.gd.ok x.toNat (by omega)
  have hnq:nth eQ x=some q:=by unfold nth; rw [if_neg (by omega)]; exact hq
  rw [eb,ob9,hnq,ob9]
  refine .bind (Dy hqok hb hlo) λv hv=>?_
  rw [ob9,ob9,Dc hc hb x0 hq,ob9]
  have hin:∀ y∈fk q x (S x.toNat),0<=y/\y<eQ.length:=λy hy=>fk.in hc hq y (by rw [ex]; exact hy)
  have hgv:∀ y∈fk q x (S x.toNat),GV eQ y.toNat (ly q (S x.toNat)):=λy hy=>Cf hc hW.gd hq xk (by rw [ex]; exact hy)
  refine .bind (De hc hv hin (@xK eQ q x _) hgv (work:=r3) hA ⟨hW.gd,λw hw=>hW.mem w (by rw [hsplit]; simp [hw])⟩ (by omega)) λz hz=>.inl ?_
  obtain ⟨S',z1,z2,z3,z4,z5,z6,z7⟩:=hz
  refine ⟨⟨S',z1,z2,by simp only; omega,λi hi hk hn=>?_⟩,?_⟩
  ·simp only at hn
   have he:=z5 i hi hn
   intro q' hq' hk' y hy
   rw [he] at hy hk' ⊢
   by_cases e:i=x.toNat
   ·subst e
    obtain rfl:=o9 (hq.symm.trans hq')
    rw [ex] at hy
    exact z7 y hy
   ·have hnw:(i:Int)∉work:=by
     rw [hsplit]
     simp only [List.mem_append,List.mem_singleton,not_or]
     exact ⟨λh=>hn (z4 _ h),λh=>e (by omega)⟩
    have hq'':=hc.q q' (List.mem_of_getElem? hq')
    obtain ⟨b0,b1⟩:=fk.in hc hq' y hy
    have h2:=hcl i hi hk' hnw q' hq' hk' y hy
    exact λr hr=>leF.trans (hW.gd.ok _ (by omega) r hr) (h2 r hr) (z6 _ (by omega) r hr)
  ·simp only
   rw [z1.fm,hA.fm]
   omega
theorem Bc {eQ:List ab} (hc:COk eQ):∃ all all' S,eU eQ=some all/\fU eQ=some all'/\AI eQ.length all S/\AS eQ.length all' S/\∀ i,i<eQ.length->FoF (S i):=by
 obtain ⟨a,ea,S,h1,h2,h3⟩:=CH hc
 obtain ⟨a',ea',S',h1',h2',h3'⟩:=CF hc
 exact ⟨a,a',S,ea,ea',h1,h1'.congr λi hi r hr=>leF.anti (h2'.ok i hi r hr) (h2.ok i hi r hr) (h2'.min S h3 i hi r hr) (h2.min S' h3' i hi r hr),h2.ok⟩
end
noncomputable section
theorem w5 (n:Int) (l:List Int) (hl:l.length<=1000):fV n l=some (l.contains n):=Tot.eq (zh n l hl)
theorem yF {q:ab} {x y:aj} (hN:1<=q.N/\q.N<=12) (hx:FOk x) (hy:FOk y):cw q x y=some (if x.Kind=1/\y.Kind=1 then ⟨1,ap q.N x.N y.N⟩ else ⟨2,0⟩):=by
 refine Tot.eq ?_
 unfold FOk at hx hy
 unfold cw
 refine .sel (λh=>.pure ?_) λh=>?_
 ·rw [if_neg]
  rintro ⟨h1,h2⟩
  simp [h1,h2] at h
 ·simp only [Bool.or_eq_false_iff,bne_eq_false_iff_eq] at h
  obtain ⟨v,hv,h1,h2⟩:=ol (a:=x.N) (b:=y.N) hN (by rcases hx with h | h | h <;> first | exact h.2 | omega) (by rcases hy with h | h | h <;> first | exact h.2 | omega)
  rw [h2,ob9,if_pos ⟨h.1,h.2⟩]
  refine .pure ?_
  unfold ap
  rw [h1]
  rfl
theorem BU {q:ab} {x y:aj} (hN:1<=q.N/\q.N<=12) (hx:FOk x) (hy:FOk y):lK q x y=jw q x y:=by
 unfold jw
 rw [yF hN hx hy,ob9]
 simp only [zg,ob9,w5 _ _ (show [(1:Int),2,6,7,8,9].length<=1000 by decide),w5 _ _ (show [(10:Int),11].length<=1000 by decide),w5 _ _ (show [(1:Int),2,8].length<=1000 by decide),w5 _ _ (show [(3:Int),10].length<=1000 by decide)]
 unfold lK
 by_cases hk:x.Kind=1/\y.Kind=1
 ·rw [dX (by simp [hk.1,hk.2]),if_pos hk]
  show _=sel true _ _
  rw [dX rfl]
  unfold FOk at hx hy
  obtain ⟨v,hv,h1,h2⟩:=ol (a:=x.N) (b:=y.N) hN (by rcases hx with h | h | h <;> first | exact h.2 | omega) (by rcases hy with h | h | h <;> first | exact h.2 | omega)
  unfold ap
  rw [h1]
  rfl
 ·rw [bD (by simp only [Bool.and_eq_false_iff,beq_eq_false_iff_ne]; exact (Decidable.not_and_iff_or_not.1 hk)),if_neg hk]
  show _=sel false _ _
  rw [bD (b:=false) rfl]
  unfold cf cX
  generalize (x.Kind==1&&x.N==0)=r0
  generalize (x.Kind==1&&x.N==1)=r1
  generalize (y.Kind==1&&y.N==0)=p0
  generalize (y.Kind==1&&y.N==1)=p1
  obtain ⟨o,d,a,b,n⟩:=q
  simp only at hN ⊢
  rcases (by omega:n=1\/n=2\/n=3\/n=4\/n=5\/n=6\/n=7\/n=8\/n=9\/n=10\/n=11\/n=12) with rfl | rfl | rfl | rfl | rfl | rfl | rfl | rfl | rfl | rfl | rfl | rfl <;> cases r0 <;> cases r1 <;> cases p0 <;> cases p1 <;> rfl
theorem Bd {q:ab} {m:Int} (hq:QOk m q) {a:Ar aj} {l:List aj} {f:Nat->aj} (ha:Fa a f) (hl:Fs l f) (hf:FoF f) (i:Int) (hk:(f 0).Kind≠0):kq q i a=ew q l i:=by
 obtain ⟨r1,r2,r3,_,r5⟩:=gN hq
 have h0:nth l 0=some (f 0):=hl.get (x:=0) (by unfold Rg; decide)
 unfold kq ew
 rw [h0,ob9,bD (b:=(f 0).Kind==0) (by simpa using hk)]
 by_cases e2:q.Op=2
 ·simp only [e2,(ha.get (r2 e2).2),(hl.get (r2 e2).2),ob9]
  cases ((f q.A.toNat).Kind==1) <;> rfl
 ·by_cases e3:q.Op=3
  ·obtain ⟨hD,hA,hB,hN⟩:=r3 e3
   unfold Rg at hA hB
   simp only [e3,ha.get hA,ha.get hB,hl.get hA,hl.get hB,ob9,BU hN (hf q.A.toNat (by omega)) (hf q.B.toNat (by omega))]
   rfl
  ·by_cases e5:q.Op=5
   ·have hA:=r5 e5
    unfold cf
    simp only [e5,ha.get hA,hl.get hA,ob9,zg]
    cases ((f q.A.toNat).Kind==1) <;> cases ((f q.A.toNat).N==0) <;> rfl
   ·rw [bD (b:=q.Op==2) (by simpa using e2),bD (b:=q.Op==3) (by simpa using e3),bD (b:=q.Op==5) (by simpa using e5),bD (b:=q.Op==2) (by simpa using e2),bD (b:=q.Op==5) (by simpa using e5),bD (b:=q.Op==5) (by simpa using e5)]
    simp only [ob9,bD (b:=q.Op==3) (by simpa using e3),bD (b:=q.Op==5) (by simpa using e5)]
    rfl
theorem Fs.uniq {l l':List aj} {f:Nat->aj} (h:Fs l f) (h':Fs l' f):l=l':=List.ext_getElem? λi=>by
 rcases Nat.lt_or_ge i 12 with hi | hi
 ·rw [h.2 i hi,h'.2 i hi]
 ·rw [List.getElem?_eq_none (by rw [h.1]; exact hi),List.getElem?_eq_none (by rw [h'.1]; exact hi)]
def PF (eQ:List ab) (S:Nat->Nat->aj) (i:Nat) (q':ab):Prop:=∃ q l,eQ[i]?=some q/\Fs l (S i)/\ew q l i=some q'
theorem PF.inj {eQ:List ab} {S:Nat->Nat->aj} (i:Nat) (q q':ab) (h:PF eQ S i q) (h':PF eQ S i q'):q=q':=by
 obtain ⟨a,l,h1,h2,h3⟩:=h
 obtain ⟨a',l',h1',h2',h3'⟩:=h'
 obtain rfl:=o9 (h1.symm.trans h1')
 obtain rfl:=h2.uniq h2'
 exact o9 (h3.symm.trans h3')
theorem BV:my kr gg:=my.of xy λ{eQ} hc=>by
 have hmx:=hc.max
 obtain ⟨all,all',S,ea,es,hA,hS,hf⟩:=Bc hc
 have A:Tot (aO (gC eQ all) (0,eQ)) λout=>out.length=eQ.length/\∀ i q',out[i]?=some q'->PF eQ S i q':=by
  refine pB (PF eQ S) hmx (λi out q h0 h1 h2 hq ho=>?_) λout=>?_
  ·unfold gC
   dsimp only
   have hqm:q∈eQ:=List.mem_of_getElem? hq
   have ei:((i.toNat:Nat):Int)=i:=by omega
   obtain ⟨a,e1,k1⟩:=hA.get h0 h1
   obtain ⟨l,e2,_,k2⟩:=hS.get h0 h1
   have hfi:=hf i.toNat (by omega)
   obtain ⟨q',eq',_⟩:=vl hc h0 hq (k2.fsok hfi)
   have hnq:nth eQ i=some q:=by unfold nth; rw [if_neg (by omega)]; exact hq
   refine .st (by rw [hA.1]; simpa using h1) (.bind (P:=λz=>∃ q',z=out.set i.toNat q'/\PF eQ S i.toNat q') ?_ λz ⟨q',hz,hp⟩=>.inl ⟨q',by rw [aq h0 (by omega),hz],hp⟩)
   rw [e1,ob9,k1.get (x:=0) (by unfold Rg; decide),ob9]
   refine .sel (λh=>?_) λh=>.pure ⟨q,?_,q,l,hq,k2,?_⟩
   ·have hk:(S i.toNat 0).Kind≠0:=by simpa using h
    rw [hnq,ob9,Bd (hc.q q hqm) k1 k2 hfi i hk,eq',ob9]
    refine .bind (.nth h0 (by rw [h2]; exact h1)) λ_ _=>.bind (.upd h0 (by rw [h2]; exact h1)) λr hr=>.pure ⟨q',hr,q,l,hq,k2,by rw [ei]; exact eq'⟩
   ·exact (List.ext_getElem? λj=>by
     by_cases e:j=i.toNat
     ·subst e
      rw [List.getElem?_set_self (by omega),ho]
     ·rw [List.getElem?_set_ne (λh=>e h.symm)])
   ·have hk:(S i.toNat 0).Kind=0:=by simpa using h
    unfold ew
    rw [k2.get (x:=0) (by unfold Rg; decide),ob9]
    exact dX (by simpa using hk)
  ·unfold gC; rw [aM (by rw [hA.1]; simp)]
 have B:Tot (aO (dv eQ all') ([],0)) λout=>out.length=eQ.length/\∀ i q',out[i]?=some q'->PF eQ S i q':=by
  refine lX (n:=eQ.length) (PF eQ S) hmx (λi out h0 h1 h2=>?_) λout=>?_
  ·unfold dv
   dsimp only
   obtain ⟨q,hq⟩:∃ q,eQ[i.toNat]?=some q:=⟨_,List.getElem?_eq_getElem (by omega)⟩
   have ei:((i.toNat:Nat):Int)=i:=by omega
   obtain ⟨l,e2,_,k2⟩:=hS.get h0 h1
   obtain ⟨q',eq',_⟩:=vl hc h0 hq (k2.fsok (hf i.toNat (by omega)))
   have hnq:nth eQ i=some q:=by unfold nth; rw [if_neg (by omega)]; exact hq
   refine .st (by simpa using h1) ?_
   rw [e2,ob9,hnq,ob9,eq',ob9]
   exact .bind (.app (by simp; omega)) λr hr=>.inl ⟨q',by rw [aq h0 (by omega),hr],q,l,hq,k2,by rw [ei]; exact eq'⟩
  ·unfold dv; rw [aM (by simp)]
 obtain ⟨a,ea',ha⟩:=A
 obtain ⟨b,eb',hb⟩:=B
 refine ⟨a,?_,(b,true),?_,oe ha hb PF.inj⟩
 ·unfold kr
  rw [lY hc,ob9,bD (show (!true)=false from rfl),oh eQ hmx,ob9,ea,ob9,ea']
  rfl
 ·unfold gg
  rw [aU hc,ob9,bD (show (!true)=false from rfl),es,ob9,eb']
  rfl
end
noncomputable section
def CO (r:Nat) (a:aj):Prop:=(a.Kind=0/\a.N=0)\/(a.Kind=1/\Rg a.N/\a.N≠r)\/(a.Kind=2/\a.N=0)
def dec (r:Nat) (a:aj):Int:=if a.Kind=1 then a.N else r
def enc (r:Nat) (c:Int):aj:=if c=r then ⟨2,0⟩ else ⟨1,c⟩
theorem CO.fok {r:Nat} {a:aj} (h:CO r a):FOk a:=by
 rcases h with h | h | h
 ·exact .inl h
 ·refine .inr (.inl ⟨h.1,?_⟩)
  have:=h.2.1
  unfold Rg at this
  unfold Wd
  omega
 ·exact .inr (.inr h)
theorem CO.inj {r:Nat} {a b:aj} (ha:CO r a) (hb:CO r b) (ka:a.Kind≠0) (kb:b.Kind≠0) (h:dec r a=dec r b):a=b:=by
 unfold dec at h
 unfold CO at ha hb
 apply aj.ext'
 ·split at h <;> split at h <;> omega
 ·split at h <;> split at h <;> omega
theorem CI {r:Nat} (hr:r<12) {a:aj} (h:CO r a):Rg (dec r a):=by
 unfold dec
 unfold CO at h
 split
 ·have:a.Kind=1:=by assumption
  have h':Rg a.N:=by rcases h with h | h | h <;> first | omega | exact h.2.1
  exact h'
 ·unfold Rg; omega
theorem CO.join {r:Nat} {a b:aj} (ha:CO r a) (hb:CO r b):CO r (a6 a b):=by
 unfold a6
 split
 ·exact hb
 ·split
  ·exact ha
  ·exact .inr (.inr ⟨rfl,rfl⟩)
theorem vw {r:Nat} {a b:aj} (ha:CO r a) (hb:CO r b) (ka:a.Kind≠0) (kb:b.Kind≠0):dec r (a6 a b)=if dec r a=dec r b then dec r a else r:=by
 unfold a6
 rw [if_neg ka]
 by_cases h:a=b
 ·rw [if_pos (.inr h),h,if_pos rfl]
 ·rw [if_neg (λh'=>h'.elim kb h),if_neg (λh'=>h (ha.inj hb ka kb h'))]
  rfl
theorem zU {r:Nat} {a b:aj} (ha:CO r a) (hb:CO r b) (ka:a.Kind≠0) (kb:b.Kind≠0) (h:dec r a=dec r b\/dec r a=r):a6 a b=a:=by
 refine (ha.join hb).inj ha (gO kb) ka ?_
 rw [vw ha hb ka kb]
 split
 ·rfl
 ·rename_i hn
  exact (h.resolve_left hn).symm
abbrev FoC (f:Nat->aj):Prop:=∀ r,r<12->CO r (f r)
def lf (q:ab) (f:Nat->aj) (r:Nat):aj:=if 0<=aH q then (if r=(aH q).toNat then (if q.Op=2 then enc r q.A else ⟨2,0⟩) else if dec r (f r)=aH q then ⟨2,0⟩ else f r) else f r
theorem CJ {r:Nat} {c:Int} (h:Rg c):CO r (enc r c):=by
 unfold enc
 split
 ·exact .inr (.inr ⟨rfl,rfl⟩)
 ·exact .inr (.inl ⟨rfl,h,by assumption⟩)
theorem Be {r:Nat} {c:Int}:(enc r c).Kind≠0:=by
 unfold enc
 split
 ·show (2:Int)≠0; decide
 ·show (1:Int)≠0; decide
theorem zt {r:Nat} {c:Int}:dec r (enc r c)=c:=by
 unfold enc
 split
 ·rename_i h; exact h.symm
 ·rfl
theorem lf.ok {q:ab} {m:Int} (h:QOk m q) {f:Nat->aj} (hf:FoC f):FoC (lf q f):=λr hr=>by
 obtain ⟨_,r2,_⟩:=gN h
 unfold lf
 split
 ·split
  ·split
   ·rename_i e; exact CJ (r2 e).2
   ·exact .inr (.inr ⟨rfl,rfl⟩)
  ·split
   ·exact .inr (.inr ⟨rfl,rfl⟩)
   ·exact hf r hr
 ·exact hf r hr
theorem lf.full {q:ab} {f:Nat->aj} (hf:ri f):ri (lf q f):=λr hr=>by
 unfold lf
 split
 ·split
  ·split
   ·exact Be
   ·show (2:Int)≠0; decide
  ·split
   ·show (2:Int)≠0; decide
   ·exact hf r hr
 ·exact hf r hr
theorem lf.mono {q:ab} {f g:Nat->aj} (hf:ri f) (h:iG f g):iG (lf q f) (lf q g):=λr hr=>by
 unfold lf
 split
 ·split
  ·exact .refl _
  ·rename_i hne
   rcases h r hr with h1 | h1 | h1
   ·exact absurd h1 (hf r hr)
   ·rw [h1]; exact .refl _
   ·right; right
    split
    ·rfl
    ·exact h1
 ·exact h r hr
def cC:Nat->aj:=λ_=>⟨2,0⟩
structure ClC (eQ:List ab) (X:Nat->Nat->aj):Prop where
 ok:∀ i,i<eQ.length->FoC (X i)
 init:iG cC (X 0)
 step:∀ (i:Nat) q,eQ[i]?=some q->(X i 0).Kind≠0->∀ y∈nx q i,iG (lf q (X i)) (X y.toNat)
structure GdC (eQ:List ab) (S:Nat->Nat->aj):Prop where
 ok:∀ i,i<eQ.length->FoC (S i)
 full:∀ i,i<eQ.length->(S i 0).Kind≠0->ri (S i)
 zero:∀ i,i<eQ.length->(S i 0).Kind=0->∀ r,r<12->(S i r).Kind=0
 init:iG cC (S 0)
 min:∀ X,ClC eQ X->∀ i,i<eQ.length->iG (S i) (X i)
structure GVC (eQ:List ab) (y:Nat) (v:Nat->aj):Prop where
 ok:FoC v
 full:ri v
 le:∀ X,ClC eQ X->iG v (X y)
theorem Bf {eQ:List ab} (hc:COk eQ) {S:Nat->Nat->aj} (h:GdC eQ S) {i:Nat} {q:ab} (hi:eQ[i]?=some q) (hk:(S i 0).Kind≠0) {y:Int} (hy:y∈nx q i):GVC eQ y.toNat (lf q (S i)):=by
 have hlt:=bV hi
 have hq:=hc.q q (List.mem_of_getElem? hi)
 have hf:=h.full i hlt hk
 refine ⟨lf.ok hq (h.ok i hlt),lf.full hf,λX hX=>?_⟩
 have hle:=h.min X hX i hlt
 have hX0:=zo hf hle 0 (by decide)
 have h1:=hX.step i q hi hX0 y hy
 have h2:=lf.mono (q:=q) hf hle
 exact λr hr=>leF.trans (lf.ok hq (hX.ok i hlt) r hr).fok (h2 r hr) (h1 r hr)
theorem GdC.up {eQ:List ab} {S:Nat->Nat->aj} (h:GdC eQ S) {y:Nat} {v:Nat->aj} (hv:GVC eQ y v):GdC eQ (up1 S y v):=by
 refine ⟨λi hi=>?_,λi hi hk=>?_,λi hi hk=>?_,λr hr=>?_,λX hX i hi=>?_⟩
 ·unfold up1
  split
  ·rename_i e
   subst e
   exact λr hr=>(h.ok _ hi r hr).join (hv.ok r hr)
  ·exact h.ok i hi
 ·unfold up1 at hk ⊢
  split
  ·exact λr hr=>gO (hv.full r hr)
  ·rename_i e
   rw [if_neg e] at hk
   exact h.full i hi hk
 ·unfold up1 at hk ⊢
  split
  ·rename_i e
   rw [if_pos e] at hk
   exact absurd hk (gO (hv.full 0 (by decide)))
  ·rename_i e
   rw [if_neg e] at hk
   exact h.zero i hi hk
 ·unfold up1
  split
  ·rename_i e
   subst e
   rcases h.init r hr with h1 | h1 | h1
   ·exact absurd h1 (by show (2:Int)≠0; decide)
   ·rw [h1]; exact a6.le1
   ·rcases @a6.le1 (S 0 r) (v r) with h2 | h2 | h2
    ·rw [h1] at h2; cases h2
    ·right; right; show (a6 (S 0 r) (v r)).Kind=2; rw [<-h2]; exact h1
    ·exact .inr (.inr h2)
  ·exact h.init r hr
 ·unfold up1
  split
  ·rename_i e
   subst e
   exact λr hr=>a6.lub (h.min X hX _ hi r hr) (hv.le X hX r hr)
  ·exact h.min X hX i hi
def Cs (l:List Int) (f:Nat->aj):Prop:=l.length=12/\∀ r,r<12->l[r]?=some (dec r (f r))
theorem Cs.get {l:List Int} {f:Nat->aj} (h:Cs l f) {x:Int} (hx:Rg x):nth l x=some (dec x.toNat (f x.toNat)):=by
 unfold Rg at hx
 unfold nth
 rw [if_neg (by omega),h.2 x.toNat (by omega)]
def AC (n:Nat) (all:List (List Int)) (S:Nat->Nat->aj):Prop:=all.length=n/\∀ i,i<n->∃ l,all[i]?=some l/\((S i 0).Kind=0->l=[])/\((S i 0).Kind≠0->Cs l (S i))
theorem Cs.congr {l:List Int} {f g:Nat->aj} (h:Cs l f) (he:∀ r,r<12->f r=g r):Cs l g:=⟨h.1,λr hr=>by rw [h.2 r hr,he r hr]⟩
theorem AC.congr {n:Nat} {all:List (List Int)} {S S':Nat->Nat->aj} (h:AC n all S) (he:∀ i,i<n->∀ r,r<12->S i r=S' i r):AC n all S':=⟨h.1,λi hi=>by
 obtain ⟨l,e,h1,h2⟩:=h.2 i hi
 have h0:=he i hi 0 (by decide)
 exact ⟨l,e,λhk=>h1 (by rw [h0]; exact hk),λhk=>(h2 (by rw [h0]; exact hk)).congr (he i hi)⟩⟩
theorem AC.get {n:Nat} {all:List (List Int)} {S:Nat->Nat->aj} (h:AC n all S) {x:Int} (h0:0<=x) (h1:x<n):∃ l,nth all x=some l/\all[x.toNat]?=some l/\((S x.toNat 0).Kind=0->l=[])/\((S x.toNat 0).Kind≠0->Cs l (S x.toNat)):=by
 obtain ⟨l,e,hl⟩:=h.2 x.toNat (by omega)
 exact ⟨l,by unfold nth; rw [if_neg (by omega)]; exact e,e,hl⟩
theorem Cs.rsok {l:List Int} {f:Nat->aj} (h:Cs l f) (hf:FoC f):ma l:=⟨h.1,λx hx=>by
 obtain ⟨i,hi,e⟩:=List.mem_iff_getElem.1 hx
 have h1:=h.1
 have h2:=h.2 i (by omega)
 rw [List.getElem?_eq_getElem hi,e] at h2
 rw [o9 h2]
 exact CI (by omega) (hf i (by omega))⟩
theorem AC.csok {eQ:List ab} {all:List (List Int)} {S:Nat->Nat->aj} (h:AC eQ.length all S) (hg:GdC eQ S):nc eQ.length all:=⟨h.1,λl hl=>by
 obtain ⟨i,hi,e⟩:=List.mem_iff_getElem.1 hl
 have hl1:=h.1
 obtain ⟨l',e',k1,k2⟩:=h.2 i (by omega)
 rw [List.getElem?_eq_getElem hi,e] at e'
 obtain rfl:=o9 e'
 by_cases hk:(S i 0).Kind=0
 ·exact .inl (k1 hk)
 ·exact .inr ((k2 hk).rsok (hg.ok i (by omega)))⟩
theorem AC.set {n:Nat} {all:List (List Int)} {S S':Nat->Nat->aj} (h:AC n all S) {y:Int} (h0:0<=y) (h1:y<n) {l:List Int} (hk:(S' y.toNat 0).Kind≠0) (hl:Cs l (S' y.toNat)) (hS:∀ i,i≠y.toNat->S' i=S i):AC n (all.set y.toNat l) S':=by
 refine ⟨by rw [List.length_set]; exact h.1,λi hi=>?_⟩
 by_cases e:i=y.toNat
 ·subst e
  exact ⟨l,List.getElem?_set_self (by rw [h.1]; exact hi),λh=>absurd h hk,λ_=>hl⟩
 ·obtain ⟨l',el,hl'⟩:=h.2 i hi
  exact ⟨l',by rw [List.getElem?_set_ne (λh=>e h.symm)]; exact el,by rw [hS i e]; exact hl'⟩
theorem Cg:Tot fW λl=>Cs l cC:=by
 unfold fW
 refine .bind (P:=λl=>Cs l cC) (.iter (λs=>0<=s.2/\s.2<=12/\s.1.length=s.2.toNat/\∀ r:Nat,(r:Int)<s.2->s.1[r]?=some (r:Int)) (λs=>(12-s.2).toNat) ⟨by simp,by simp,by simp,λr hr=>by simp only at hr; omega⟩ λs hs=>?_) λr hr=>.pure hr
 obtain ⟨l,i⟩:=s
 obtain ⟨g0,g1,g2,g3⟩:=hs
 simp only at g0 g1 g2 g3
 unfold kN
 refine .sel (λh=>?_) λh=>.inr (show Cs l cC from ?_)
 ·simp only [decide_eq_true_eq] at h
  refine .bind (.app (by simp [g2]; omega)) λr hr=>.inl ?_
  subst hr
  rw [aq g0 (by omega)]
  refine ⟨⟨by simp only; omega,by simp only; omega,by simp [g2]; omega,λk hk=>?_⟩,by simp only; omega⟩
  simp only at hk ⊢
  by_cases e:(k:Int)<i
  ·rw [List.getElem?_append_left (by omega)]; exact g3 k e
  ·rw [List.getElem?_append_right (by omega),show k-l.length=0 by omega,List.getElem?_cons_zero]
   congr 1
   omega
 ·simp only [decide_eq_false_iff_not] at h
  exact ⟨by omega,λr hr=>by rw [g3 r (by omega)]; rfl⟩
theorem CK {q:ab} {m:Int} (hq:QOk m q) (hm:m<=600) {l:List Int} {f:Nat->aj} (hl:Cs l f):Tot (gh q l) λl'=>Cs l' (lf q f):=by
 obtain ⟨_,r2,_⟩:=gN hq
 unfold gh
 refine .bind (.app (by simp [hl.1])) λr hr=>?_
 rw [List.nil_append] at hr
 subst hr
 rw [wO q hq hm,ob9]
 show Tot (sel (decide (aH q<0)) _ _) _
 rcases mJ hq with hs | hd'
 ·refine .st (by rw [hs]; decide) (.pure (hl.congr λr hr=>?_))
  unfold lf
  rw [hs,if_neg (by omega)]
 have hd0:=hd'
 unfold Rg at hd0
 refine .sf (by simp; omega) (.bind (P:=λl2:List Int=>l2.length=12/\∀ r,r<12->l2[r]?=some (if dec r (f r)=aH q then (r:Int) else dec r (f r))) (.iter (λs=>0<=s.1/\s.1<=12/\s.2.length=12/\∀ r:Nat,r<12->s.2[r]?=some (if (r:Int)<s.1/\dec r (f r)=aH q then (r:Int) else dec r (f r))) (λs=>(12-s.1).toNat) ⟨by simp,by simp,hl.1,λr hr=>?_⟩ λs hs=>?_) λl2 h2=>?_)
 ·rw [hl.2 r hr,if_neg (λh=>by have:=h.1; simp only at this; omega)]
 ·obtain ⟨i,l'⟩:=s
  obtain ⟨g0,g1,g2,g3⟩:=hs
  simp only at g0 g1 g2 g3
  unfold jP
  refine .sel (λh=>?_) λh=>.inr ⟨g2,λr hr=>?_⟩
  ·simp only [decide_eq_true_eq] at h
   have hi:0<=i/\i<l'.length:=by rw [g2]; omega
   refine .bind (P:=λz=>z.length=12/\∀ r:Nat,r<12->z[r]?=some (if (r:Int)<i+1/\dec r (f r)=aH q then (r:Int) else dec r (f r))) (.bind (.nth hi.1 hi.2) λx ⟨hx,_⟩=>?_) λr hr=>.inl ?_
   ·have hx':x=dec i.toNat (f i.toNat):=by
     rw [g3 i.toNat (by omega),if_neg (λh=>by have:=h.1; omega)] at hx
     exact (o9 hx).symm
    refine .sel (λhe=>.bind (.nth hi.1 hi.2) λ_ _=>.bind (.upd hi.1 hi.2) λr hr=>.pure ?_) λhe=>.pure ⟨g2,λr hr=>?_⟩
    ·have he':x=aH q:=by simpa [aH] using he
     subst hr
     refine ⟨by rw [List.length_set]; exact g2,λr hr=>?_⟩
     by_cases e:r=i.toNat
     ·subst e
      have hcc:((i.toNat:Nat):Int)<i+1/\dec i.toNat (f i.toNat)=aH q:=⟨by omega,by rw [<-hx']; exact he'⟩
      rw [List.getElem?_set_self (show i.toNat<l'.length by omega),if_pos hcc]
      congr 1
      omega
     ·rw [List.getElem?_set_ne (λh=>e h.symm),g3 r hr]
      congr 1
      by_cases e2:dec r (f r)=aH q
      ·by_cases e3:(r:Int)<i
       ·rw [if_pos ⟨e3,e2⟩,if_pos ⟨by omega,e2⟩]
       ·rw [if_neg (λh=>e3 h.1),if_neg (λh=>by have:=h.1; omega)]
      ·rw [if_neg (λh=>e2 h.2),if_neg (λh=>e2 h.2)]
    ·have he':x≠aH q:=by simpa [aH] using he
     rw [g3 r hr]
     congr 1
     by_cases e2:dec r (f r)=aH q
     ·have e3:r≠i.toNat:=by
       rintro rfl
       exact he' (by rw [hx']; exact e2)
      by_cases e4:(r:Int)<i
      ·rw [if_pos ⟨e4,e2⟩,if_pos ⟨by omega,e2⟩]
      ·rw [if_neg (λh=>e4 h.1),if_neg (λh=>by have:=h.1; omega)]
     ·rw [if_neg (λh=>e2 h.2),if_neg (λh=>e2 h.2)]
   ·rw [aq g0 (by omega)]; exact ⟨⟨by simp only; omega,by simp only; omega,hr⟩,by simp only; omega⟩
  ·simp only [decide_eq_false_iff_not] at h
   rw [g3 r hr]
   congr 1
   by_cases e2:dec r (f r)=aH q
   ·rw [if_pos ⟨by omega,e2⟩,if_pos e2]
   ·rw [if_neg (λh=>e2 h.2),if_neg e2]
 ·show Tot ((nth l2 (aH q)).bind λx3=>(X.upd l2 (aH q) (aH q)).bind λr3=>sel (q.Op==2) ((nth r3 (aH q)).bind λx4=>(X.upd r3 (aH q) q.A).bind λr4=>some r4) <| some r3) _
  refine .bind (.nth (by omega) (by rw [h2.1]; omega)) λ_ _=>.bind (.upd (by omega) (by rw [h2.1]; omega)) λl3 h3=>?_
  have hb:∀ r,lf q f r=if r=(aH q).toNat then (if q.Op=2 then enc r q.A else ⟨2,0⟩) else if dec r (f r)=aH q then ⟨2,0⟩ else f r:=λr=>by
   unfold lf
   rw [if_pos hd0.1]
  have h3l:l3.length=12:=by rw [h3,List.length_set]; exact h2.1
  have h3g:∀ r,r<12->r≠(aH q).toNat->l3[r]?=some (dec r (lf q f r)):=λr hr e=>by
   rw [h3,List.getElem?_set_ne (λh=>e h.symm),h2.2 r hr,hb,if_neg e]
   split <;> rfl
  refine .sel (λh=>?_) λh=>.pure ⟨h3l,λr hr=>?_⟩
  ·have h2':q.Op=2:=by simpa using h
   refine .bind (.nth (by omega) (by rw [h3l]; omega)) λ_ _=>.bind (.upd (by omega) (by rw [h3l]; omega)) λr hr=>.pure ?_
   subst hr
   refine ⟨by rw [List.length_set]; exact h3l,λr hr=>?_⟩
   by_cases e:r=(aH q).toNat
   ·subst e
    rw [List.getElem?_set_self (by omega),hb,if_pos rfl,if_pos h2',zt]
   ·rw [List.getElem?_set_ne (λh=>e h.symm)]
    exact h3g r hr e
  ·have h2':q.Op≠2:=by simpa using h
   by_cases e:r=(aH q).toNat
   ·subst e
    have h2l:=h2.1
    rw [h3,List.getElem?_set_self (by omega),hb,if_pos rfl,if_neg h2']
    show some (aH q)=some (((aH q).toNat:Nat):Int)
    congr 1
    omega
   ·exact h3g r hr e
theorem BW {eQ:List ab} {all:List (List Int)} {S:Nat->Nat->aj} (h:AC eQ.length all S) (hg:GdC eQ S) {i:Int} (h0:0<=i) (h1:i<eQ.length) {cs:List Int} {v:Nat->aj} (hv:Cs cs v) (hgv:GVC eQ i.toNat v):Tot (gi all i cs) λz=>AC eQ.length z.2 (up1 S i.toNat v)/\(z.1=false->∀ r,r<12->a6 (S i.toNat r) (v r)=S i.toNat r):=by
 obtain ⟨l0,e0,e1,k0,k1⟩:=h.get h0 h1
 have hn:=h.1
 have hin:i.toNat<eQ.length:=by omega
 have hSo:=hg.ok i.toNat hin
 have hup:up1 S i.toNat v i.toNat=λr=>a6 (S i.toNat r) (v r):=by unfold up1; rw [if_pos rfl]
 have hupk:(up1 S i.toNat v i.toNat 0).Kind≠0:=by rw [hup]; exact gO (hgv.full 0 (by decide))
 have hne:∀ j,j≠i.toNat->up1 S i.toNat v j=S j:=λj hj=>by unfold up1; rw [if_neg hj]
 unfold gi
 rw [e0,ob9]
 by_cases hk:(S i.toNat 0).Kind=0
 ·have hl0:=k0 hk
  subst hl0
  refine .st (by simp) (.bind (.app (by simp [hv.1])) λr hr=>.pure ⟨?_,λhf=>by cases hf⟩)
  rw [List.nil_append] at hr
  subst hr
  exact h.set h0 h1 hupk (by rw [hup]; exact hv.congr λr hr=>by show v r=a6 _ _; unfold a6; rw [if_pos (hg.zero _ hin hk r hr)]) hne
 have hC:=k1 hk
 have hfull:=hg.full _ hin hk
 refine .sf (by have:=hC.1; simp; rintro rfl; simp at this) ?_
 refine .bind (P:=λz:Bool×List (List Int)=>AC eQ.length z.2 (up1 S i.toNat v)/\(z.1=false->∀ r,r<12->a6 (S i.toNat r) (v r)=S i.toNat r)) (.iter (λs=>0<=s.2.1/\s.2.1<=12/\(∃ l:List Int,s.2.2=all.set i.toNat l/\l.length=12/\∀ k:Nat,k<12->l[k]?=some (dec k (if (k:Int)<s.2.1 then a6 (S i.toNat k) (v k) else S i.toNat k)))/\(s.1=false->∀ k:Nat,(k:Int)<s.2.1->a6 (S i.toNat k) (v k)=S i.toNat k)) (λs=>(12-s.2.1).toNat)
  ⟨by simp,by simp,⟨l0,?_,hC.1,λk hk=>by rw [hC.2 k hk,if_neg (by simp only; omega)]⟩,λ_ k hk=>by simp only at hk; omega⟩ λs hs=>?_) λz hz=>.pure hz
 ·exact (List.ext_getElem? λj=>by
   by_cases e:j=i.toNat
   ·subst e
    rw [List.getElem?_set_self (by omega),e1]
   ·rw [List.getElem?_set_ne (λh=>e h.symm)])
 obtain ⟨iU,r,a⟩:=s
 obtain ⟨g0,g1,⟨l,rfl,gl,g3⟩,g4⟩:=hs
 simp only at g0 g1 g3 g4
 have hal:nth (all.set i.toNat l) i=some l:=by
  unfold nth
  rw [if_neg (by omega),List.getElem?_set_self (by omega)]
 unfold jQ
 dsimp only
 refine .sel (λhlt=>?_) λhge=>.inr ?_
 ·simp only [decide_eq_true_eq] at hlt
  have hrr:Rg r:=by unfold Rg; omega
  have hrn:r.toNat<12:=by omega
  have er:((r.toNat:Nat):Int)=r:=by omega
  have hx:nth l r=some (dec r.toNat (S i.toNat r.toNat)):=by
   unfold nth
   rw [if_neg (by omega),g3 r.toNat (by omega),if_neg (by omega)]
  have hdj:=vw (hSo r.toNat hrn) (hgv.ok r.toNat hrn) (hfull _ hrn) (hgv.full _ hrn)
  have hjs:=zU (hSo r.toNat hrn) (hgv.ok r.toNat hrn) (hfull _ hrn) (hgv.full _ hrn)
  simp only [hal,ob9,hx,hv.get hrr,aq g0 (show r<=9223372036854775806 by omega)]
  refine .bind (P:=λz:Bool×List (List Int)=>(∃ l':List Int,z.2=all.set i.toNat l'/\l'.length=12/\∀ k:Nat,k<12->l'[k]?=some (dec k (if (k:Int)<r+1 then a6 (S i.toNat k) (v k) else S i.toNat k)))/\(z.1=false->∀ k:Nat,(k:Int)<r+1->a6 (S i.toNat k) (v k)=S i.toNat k)) (.bind (P:=λb=>b=true↔¬ (dec r.toNat (S i.toNat r.toNat)=r\/dec r.toNat (S i.toNat r.toNat)=dec r.toNat (v r.toNat))) (.sel (λhh=>.pure ?_) λhh=>.pure ?_) λb hb=>.sel (λhne'=>?_) λhe=>.pure ⟨⟨l,rfl,gl,λk hk=>?_⟩,λhf k hk=>?_⟩) λz hz=>.inl ⟨⟨by simp only; omega,by simp only; omega,hz⟩,by simp only; omega⟩
  ·have hh':dec r.toNat (S i.toNat r.toNat)≠r:=by simpa using hh
   simp [hh']
  ·have hh':dec r.toNat (S i.toNat r.toNat)=r:=by simpa using hh
   simp [hh']
  ·have hb':=hb.1 hne'
   refine .bind (P:=λz=>z=l.set r.toNat r) ⟨_,by unfold X.upd; rw [if_pos ⟨g0,by omega⟩],rfl⟩ λz hz=>.pure ⟨⟨z,?_,by rw [hz,List.length_set]; exact gl,λk hk=>?_⟩,λhf=>by cases hf⟩
   ·rw [List.set_set]
   ·rw [hz]
    by_cases e:k=r.toNat
    ·subst e
     rw [List.getElem?_set_self (by omega),if_pos (by omega),hdj,if_neg (λh=>hb' (.inr h)),er]
    ·rw [List.getElem?_set_ne (λh=>e h.symm),g3 k hk]
     by_cases e2:(k:Int)<r
     ·rw [if_pos e2,if_pos (by omega)]
     ·rw [if_neg e2,if_neg (by omega)]
  all_goals
   have heq:a6 (S i.toNat r.toNat) (v r.toNat)=S i.toNat r.toNat:=by
    have:dec r.toNat (S i.toNat r.toNat)=r\/dec r.toNat (S i.toNat r.toNat)=dec r.toNat (v r.toNat):=Classical.byContradiction λhh=>by rw [hb.2 hh] at he; cases he
    exact hjs (by rw [er]; exact this.symm)
  ·rw [g3 k hk]
   by_cases e:k=r.toNat
   ·subst e
    rw [if_neg (by omega),if_pos (by omega),heq]
   ·by_cases e2:(k:Int)<r
    ·rw [if_pos e2,if_pos (by omega)]
    ·rw [if_neg e2,if_neg (by omega)]
  ·by_cases e:k=r.toNat
   ·subst e; exact heq
   ·exact g4 hf k (by omega)
 ·simp only [decide_eq_false_iff_not] at hge
  exact ⟨h.set h0 h1 hupk (by rw [hup]; exact ⟨gl,λk hk=>by rw [g3 k hk,if_pos (by omega)]⟩) hne,λhf k hk=>g4 hf k (by omega)⟩
def Bg (eQ:List ab) (S:Nat->Nat->aj) (i:Nat):Prop:=∀ q,eQ[i]?=some q->(S i 0).Kind≠0->∀ y∈nx q i,iG (lf q (S i)) (S y.toNat)
theorem Bh {q:ab} {i:Int}:(nx q i).length<=2:=by
 unfold nx
 split
 ·simp
 ·split
  ·simp
  ·split
   ·simp
   ·split <;> simp
theorem BX {eQ:List ab} (hc:COk eQ) {all:List (List Int)} {S:Nat->Nat->aj} (h:AC eQ.length all S) (hg:GdC eQ S):Tot (gj eQ all) λz=>∃ S',AC eQ.length z.2 S'/\GdC eQ S'/\(z.1=false->S'=S/\∀ i,i<eQ.length->Bg eQ S i):=by
 have hmx:=hc.max
 unfold gj
 refine .bind (P:=λz:Bool×List (List Int)=>∃ S',AC eQ.length z.2 S'/\GdC eQ S'/\(z.1=false->S'=S/\∀ i,i<eQ.length->Bg eQ S i)) (.iter (λs=>0<=s.2.1/\s.2.1<=(eQ.length:Int)/\∃ S',AC eQ.length s.2.2 S'/\GdC eQ S'/\(s.1=false->S'=S/\∀ i:Nat,(i:Int)<s.2.1->Bg eQ S i)) (λs=>((eQ.length:Int)-s.2.1).toNat) ⟨by simp,by simp,S,h,hg,λ_=>⟨rfl,λi hi=>by simp only at hi; omega⟩⟩ λs hs=>?_) λz hz=>.pure hz
 obtain ⟨iU,i,a⟩:=s
 obtain ⟨g0,g1,S1,hA,hG,hF⟩:=hs
 simp only at g0 g1 hA hG hF
 unfold jS
 dsimp only
 refine .sel (λhlt=>?_) λhge=>.inr ⟨S1,hA,hG,λhf=>⟨(hF hf).1,λj hj=>(hF hf).2 j (by simp only [decide_eq_false_iff_not] at hge; omega)⟩⟩
 simp only [decide_eq_true_eq] at hlt
 obtain ⟨q,hq⟩:∃ q,eQ[i.toNat]?=some q:=⟨_,List.getElem?_eq_getElem (by omega)⟩
 have hqm:=List.mem_of_getElem? hq
 have hqok:=hc.q q hqm
 have ei:((i.toNat:Nat):Int)=i:=by omega
 obtain ⟨l,el,_,kl0,kl1⟩:=hA.get g0 hlt
 refine .bind (P:=λz:Bool×List (List Int)=>∃ S',AC eQ.length z.2 S'/\GdC eQ S'/\(z.1=false->S'=S/\∀ j:Nat,(j:Int)<i+1->Bg eQ S j)) ?_ λz hz=>.inl ⟨⟨by simp only; rw [aq g0 (by omega)]; omega,by simp only; rw [aq g0 (by omega)]; omega,by simp only; rw [aq g0 (by omega)]; exact hz⟩,by simp only; rw [aq g0 (by omega)]; omega⟩
 rw [el,ob9]
 by_cases hk':(S1 i.toNat 0).Kind=0
 ·have:=kl0 hk'
  subst this
  refine .st (by simp) (.pure ⟨S1,hA,hG,λhf=>⟨(hF hf).1,λj hj=>?_⟩⟩)
  by_cases e:(j:Int)<i
  ·exact (hF hf).2 j e
  ·obtain rfl:j=i.toNat:=by omega
   intro q' _ hk''
   rw [<-(hF hf).1] at hk''
   exact absurd hk' hk''
 ·have hl:=kl1 hk'
  have hlo:=hG.ok i.toNat (by omega)
  refine .sf (by have:=hl.1; simp; rintro rfl; simp at this) ?_
  rw [qk g0 hq (by omega),ob9,show nth eQ i=some q by unfold nth; rw [if_neg (by omega)]; exact hq,ob9]
  refine .bind (CK hqok (by omega) hl) λfs hfs=>?_
  have hel:=@Bh q i
  have hgv:∀ y∈nx q i,GVC eQ y.toNat (lf q (S1 i.toNat)):=λy hy=>Bf hc hG hq hk' (by rw [ei]; exact hy)
  have hin:∀ y∈nx q i,0<=y/\y<eQ.length:=λy hy=>rS hc hq y (by rw [ei]; exact hy)
  refine .bind (P:=λz:Bool×List (List Int)=>∃ S',AC eQ.length z.2 S'/\GdC eQ S'/\(z.1=false->iU=false/\S'=S/\∀ y∈nx q i,iG (lf q (S1 i.toNat)) (S y.toNat))) (.iter (λs=>0<=s.2.1/\s.2.1<=((nx q i).length:Int)/\∃ S',AC eQ.length s.2.2 S'/\GdC eQ S'/\(s.1=false->iU=false/\S'=S/\∀ y∈(nx q i).take s.2.1.toNat,iG (lf q (S1 i.toNat)) (S y.toNat))) (λs=>(((nx q i).length:Int)-s.2.1).toNat) ⟨by simp,by simp,S1,hA,hG,λhf=>⟨hf,(hF hf).1,by simp⟩⟩ λs hs=>?_) λz hz=>.pure ?_
  ·obtain ⟨f2,j,a2⟩:=s
   obtain ⟨k0,k1,S2,hA2,hG2,hF2⟩:=hs
   simp only at k0 k1 hA2 hG2 hF2
   unfold jR
   dsimp only
   refine .sel (λhj=>?_) λhj=>.inr ⟨S2,hA2,hG2,λhf=>?_⟩
   ·simp only [decide_eq_true_eq] at hj
    refine .bind (P:=λz:Bool×List (List Int)=>∃ S',AC eQ.length z.2 S'/\GdC eQ S'/\(z.1=false->iU=false/\S'=S/\∀ y∈(nx q i).take (j+1).toNat,iG (lf q (S1 i.toNat)) (S y.toNat))) (.bind (.nth k0 hj) λy ⟨hy,hym⟩=>?_) λz hz=>.inl ⟨⟨by simp only; rw [aq k0 (by omega)]; omega,by simp only; rw [aq k0 (by omega)]; omega,by simp only; rw [aq k0 (by omega)]; exact hz⟩,by simp only; rw [aq k0 (by omega)]; omega⟩
    obtain ⟨y0,y1⟩:=hin y hym
    have hgy:=hgv y hym
    have ht:(nx q i).take (j+1).toNat=(nx q i).take j.toNat++[y]:=by rw [show (j+1).toNat=j.toNat+1 by omega,List.take_add_one,hy]; rfl
    refine .bind (BW hA2 hG2 y0 y1 hfs hgy) λz ⟨z1,z2⟩=>.sel (λhz=>.pure ⟨_,z1,hG2.up hgy,λhf=>by cases hf⟩) λhz=>.pure ?_
    have habs:=z2 hz
    have hcg:AC eQ.length z.2 S2:=z1.congr λm hm r hr=>by
     unfold up1
     split
     ·rename_i e; subst e; exact habs r hr
     ·rfl
    refine ⟨S2,hcg,hG2,λhf=>?_⟩
    obtain ⟨b1,b2,b3⟩:=hF2 hf
    refine ⟨b1,b2,λy' hy'=>?_⟩
    rw [ht] at hy'
    rcases List.mem_append.1 hy' with h' | h'
    ·exact b3 y' h'
    ·rw [List.mem_singleton.1 h',<-b2]
     exact λr hr=>by rw [<-habs r hr]; exact a6.le2
   ·obtain ⟨b1,b2,b3⟩:=hF2 hf
    refine ⟨b1,b2,λy hy=>b3 y ?_⟩
    simp only [decide_eq_false_iff_not] at hj
    rw [List.take_of_length_le (by omega)]
    exact hy
  ·obtain ⟨S3,c1,c2,c3⟩:=hz
   refine ⟨S3,c1,c2,λhf=>?_⟩
   obtain ⟨b1,b2,b3⟩:=c3 hf
   refine ⟨b2,λj hj=>?_⟩
   by_cases e:(j:Int)<i
   ·exact (hF b1).2 j e
   ·obtain rfl:j=i.toNat:=by omega
    intro q' hq' _ y hy
    obtain rfl:=o9 (hq.symm.trans hq')
    rw [(hF b1).1] at b3
    rw [ei] at hy
    exact b3 y hy
def S0C:Nat->Nat->aj:=λi _=>if i=0 then ⟨2,0⟩ else ⟨0,0⟩
theorem Df {eQ:List ab} (h1:1<=eQ.length):GdC eQ S0C:=by
 refine ⟨λi hi r hr=>?_,λi hi hk r hr=>?_,λi hi hk r hr=>?_,λr hr=>?_,λX hX i hi r hr=>?_⟩
 ·unfold S0C
  split
  ·exact .inr (.inr ⟨rfl,rfl⟩)
  ·exact .inl ⟨rfl,rfl⟩
 ·unfold S0C at hk ⊢
  split
  ·show (2:Int)≠0; decide
  ·rename_i e; rw [if_neg e] at hk; exact absurd rfl hk
 ·exact hk
 ·unfold S0C; rw [if_pos rfl]; exact .refl _
 ·unfold S0C
  split
  ·rename_i e; subst e; exact hX.init r hr
  ·exact .inl rfl
def AE (n:Nat) (all:List (List Int)) (S:Nat->Nat->aj):Prop:=all.length=n/\∀ i,i<n->∃ l,all[i]?=some l/\Cs l (S i)
theorem AE.get {n:Nat} {all:List (List Int)} {S:Nat->Nat->aj} (h:AE n all S) {x:Int} (h0:0<=x) (h1:x<n):∃ l,nth all x=some l/\Cs l (S x.toNat):=by
 obtain ⟨l,e,hl⟩:=h.2 x.toNat (by omega)
 exact ⟨l,by unfold nth; rw [if_neg (by omega)]; exact e,hl⟩
theorem BZ {eQ:List ab} (hc:COk eQ):Tot (eN eQ) λall=>∃ S,AE eQ.length all S/\GdC eQ S/\ClC eQ S:=by
 have hmx:=hc.max
 have h1:=hc.one
 unfold eN
 rw [aU hc,ob9]
 refine .sf rfl (.bind (P:=λs=>s=List.replicate eQ.length []) (.iter (λs=>0<=s.2/\s.2<=(eQ.length:Int)/\s.1=List.replicate s.2.toNat []) (λs=>((eQ.length:Int)-s.2).toNat) ⟨by simp,by simp,by simp⟩ λs hs=>?_) λa0 ha0=>.bind Cg λsf hsf=>.bind (.nth (by omega) (by rw [ha0]; simp; omega)) λ_ _ =>
  .bind (P:=λall=>∃ S,AC eQ.length all S/\GdC eQ S/\ClC eQ S) (.iter (λs=>∃ S,AC eQ.length s S/\GdC eQ S) cam ⟨S0C,?_,Df h1⟩ λs hs=>?_) λa1 ⟨S,hA,hG,hCl⟩=>.bind (P:=λall=>AE eQ.length all S) (.iter (λs=>0<=s.1/\s.1<=(eQ.length:Int)/\s.2.length=eQ.length/\(∀ j:Nat,(j:Int)<s.1->∃ l,s.2[j]?=some l/\Cs l (S j))/\∀ j:Nat,s.1<=(j:Int)->s.2[j]?=a1[j]?) (λs=>((eQ.length:Int)-s.1).toNat) ⟨by simp,by simp,hA.1,λj h=>by simp only at h; omega,λ_ _=>rfl⟩ λs hs=>?_) λr hr=>.pure ⟨S,hr,hG,hCl⟩)
 ·obtain ⟨a,i⟩:=s
  obtain ⟨g0,g1,g2⟩:=hs
  simp only at g0 g1 g2
  unfold jT
  refine .sel (λhlt=>?_) λhlt=>.inr ?_
  ·simp only [decide_eq_true_eq] at hlt
   refine .bind (.app (by simp [g2]; omega)) λr hr=>.inl ?_
   subst hr g2
   rw [aq g0 (by omega)]
   refine ⟨⟨by simp only; omega,by simp only; omega,?_⟩,by simp only; omega⟩
   simp only
   rw [show (i+1).toNat=i.toNat+1 by omega]
   rw [List.replicate_succ' (n:=i.toNat)]
  ·simp only [decide_eq_false_iff_not] at hlt
   rw [g2,show i.toNat=eQ.length by omega]
 ·rw [ha0]
  refine ⟨by simp,λi hi=>?_⟩
  by_cases e:i=0
  ·subst e
   refine ⟨sf,by rw [show (0:Int).toNat=0 from rfl,List.getElem?_set_self (by simp; omega)],λh=>?_,λ_=>hsf.congr λr hr=>?_⟩
   ·unfold S0C at h
    rw [if_pos rfl] at h
    cases h
   ·unfold S0C
    rw [if_pos rfl]
    rfl
  ·refine ⟨[],?_,λ_=>rfl,λh=>?_⟩
   ·rw [show (0:Int).toNat=0 from rfl,List.getElem?_set_ne (λh=>e h.symm),List.getElem?_replicate,if_pos hi]
   ·unfold S0C at h
    rw [if_neg e] at h
    exact absurd rfl h
 ·obtain ⟨S,hA,hG⟩:=hs
  unfold jU
  refine .bind (.and (vn hc (hA.csok hG)) (BX hc hA hG)) λz ⟨⟨_,_,z3⟩,S',z4,z5,z6⟩=>.sel (λh=>.inl ⟨⟨S',z4,z5⟩,z3 h⟩) λh=>.inr ?_
  obtain ⟨e,hcl⟩:=z6 h
  subst e
  exact ⟨S',z4,z5,z5.ok,z5.init,λi q hq hk y hy=>hcl i (bV hq) q hq hk y hy⟩
 ·obtain ⟨i,a⟩:=s
  obtain ⟨g0,g1,g2,g3,g4⟩:=hs
  simp only at g0 g1 g2 g3 g4
  unfold jV
  refine .sel (λhlt=>?_) λhlt=>.inr ⟨g2,λj hj=>g3 j (by simp only [decide_eq_false_iff_not] at hlt; omega)⟩
  simp only [decide_eq_true_eq] at hlt
  have hia:i<a.length:=by rw [g2]; exact hlt
  have hil:i.toNat<a.length:=by omega
  obtain ⟨l1,_,el1,k0,k1⟩:=hA.get g0 hlt
  refine .bind (P:=λz:List (List Int)=>z.length=eQ.length/\(∀ j:Nat,(j:Int)<i+1->∃ l,z[j]?=some l/\Cs l (S j))/\∀ j:Nat,i+1<=(j:Int)->z[j]?=a1[j]?) (.bind (.nth g0 hia) λl ⟨hl',_⟩=>?_) λz hz=>.inl ?_
  ·rw [g4 i.toNat (by omega),el1] at hl'
   obtain rfl:=o9 hl'
   refine .sel (λhe=>.bind Cg λsf2 hsf2=>.pure ⟨by rw [List.length_set]; exact g2,λj hj=>?_,λj hj=>?_⟩) λhne=>.pure ⟨g2,λj hj=>?_,λj hj=>g4 j (by omega)⟩
   ·by_cases e:j=i.toNat
    ·subst e
     have hk:(S i.toNat 0).Kind=0:=Classical.byContradiction λhk=>by
      have h12:=(k1 hk).1
      simp at he
      subst he
      simp at h12
     refine ⟨sf2,List.getElem?_set_self (by rw [g2]; omega),hsf2.1,λr hr=>?_⟩
     rw [hsf2.2 r hr]
     have:=hG.zero _ (by omega) hk r hr
     show some (dec r (cC r))=_
     unfold dec
     rw [this]
     rfl
    ·rw [List.getElem?_set_ne (λh=>e h.symm)]
     exact g3 j (by omega)
   ·rw [List.getElem?_set_ne (by omega)]
    exact g4 j (by omega)
   ·by_cases e:j=i.toNat
    ·subst e
     have hk:(S i.toNat 0).Kind≠0:=λhk=>by
      have:=k0 hk
      subst this
      simp at hne
     exact ⟨l1,by rw [g4 _ (by omega)]; exact el1,k1 hk⟩
    ·exact g3 j (by omega)
  ·rw [aq g0 (by omega)]
   exact ⟨⟨by simp only; omega,by simp only; omega,hz⟩,by simp only; omega⟩
end
noncomputable section
def Ka (a:Ar Int) (f:Nat->aj):Prop:=∀ r,r<12->a r=dec r (f r)
theorem Ka.get {a:Ar Int} {f:Nat->aj} (h:Ka a f) {x:Int} (hx:Rg x):cQ 12 a x=some (dec x.toNat (f x.toNat)):=by
 unfold Rg at hx
 unfold cQ
 rw [if_pos (by omega),h x.toNat (by omega)]
theorem B0 {r:Nat} {a:aj} (h:CO r a) (hk:a.Kind≠0):enc r (dec r a)=a:=by
 unfold CO at h
 unfold enc dec
 by_cases h1:a.Kind=1
 ·rw [if_pos h1,if_neg (by omega)]
  exact aj.ext' h1.symm rfl
 ·rw [if_neg h1,if_pos rfl]
  exact aj.ext' (by show (2:Int)=_; omega) (by show (0:Int)=_; omega)
structure AIc (n:Nat) (known:List Bool) (all:List (Ar Int)) (S:Nat->Nat->aj):Prop where
 klen:known.length=n
 len:all.length=n
 kn:∀ i,i<n->known[i]?=some (decide ((S i 0).Kind≠0))
 at_:∀ i,i<n->∃ a,all[i]?=some a/\Ka a (S i)
theorem AIc.get {n:Nat} {known:List Bool} {all:List (Ar Int)} {S:Nat->Nat->aj} (h:AIc n known all S) {x:Int} (h0:0<=x) (h1:x<n):∃ a,nth known x=some (decide ((S x.toNat 0).Kind≠0))/\nth all x=some a/\Ka a (S x.toNat):=by
 obtain ⟨a,e,ha⟩:=h.at_ x.toNat (by omega)
 refine ⟨a,?_,?_,ha⟩
 ·unfold nth; rw [if_neg (by omega)]; exact h.kn _ (by omega)
 ·unfold nth; rw [if_neg (by omega)]; exact e
theorem AIc.set {n:Nat} {known:List Bool} {all:List (Ar Int)} {S S':Nat->Nat->aj} (h:AIc n known all S) {y:Int} (h0:0<=y) (h1:y<n) {a:Ar Int} (ha:Ka a (S' y.toNat)) (hk:(S' y.toNat 0).Kind≠0) (hS:∀ i,i≠y.toNat->S' i=S i):∃ k r,X.upd known y true=some k/\X.upd all y a=some r/\AIc n k r S':=by
 have hkl:=h.klen
 have hal:=h.len
 refine ⟨known.set y.toNat true,all.set y.toNat a,by unfold X.upd; rw [if_pos (by omega)],by unfold X.upd; rw [if_pos (by omega)],by rw [List.length_set]; exact hkl,by rw [List.length_set]; exact hal,λi hi=>?_,λi hi=>?_⟩
 ·by_cases e:i=y.toNat
  ·subst e
   rw [List.getElem?_set_self (by omega),decide_eq_true hk]
  ·rw [List.getElem?_set_ne (λh=>e h.symm),hS i e]
   exact h.kn i hi
 ·by_cases e:i=y.toNat
  ·subst e
   exact ⟨a,List.getElem?_set_self (by omega),ha⟩
  ·obtain ⟨l,el,hl⟩:=h.at_ i hi
   exact ⟨l,by rw [List.getElem?_set_ne (λh=>e h.symm)]; exact el,by rw [hS i e]; exact hl⟩
def fmC (n:Nat) (known:List Bool) (all:List (Ar Int)):Nat:=fmS n λi r=>if known[i]?.getD false then enc r ((all[i]?.getD λ_=>0) r) else ⟨0,0⟩
theorem AIc.fm {eQ:List ab} {known:List Bool} {all:List (Ar Int)} {S:Nat->Nat->aj} (h:AIc eQ.length known all S) (hg:GdC eQ S):fmC eQ.length known all=fmS eQ.length S:=oo λi hi=>oo λr hr=>by
 obtain ⟨a,e,ha⟩:=h.at_ i hi
 show rkF (if known[i]?.getD false then enc r ((all[i]?.getD λ_=>0) r) else ⟨0,0⟩)=_
 rw [h.kn i hi,e,Option.getD_some,Option.getD_some,ha r hr]
 by_cases hk:(S i 0).Kind=0
 ·rw [if_neg (by simpa using hk)]
  have:=hg.zero i hi hk r hr
  unfold rkF
  rw [if_pos this]
  rfl
 ·rw [if_pos (by simpa using hk),B0 (hg.ok i hi r hr) (hg.full i hi hk r hr)]
theorem zV:Tot kt λa=>Ka a cC:=by
 unfold kt
 refine .bind (P:=λa=>Ka a cC) (.iter (λs=>0<=s.1/\s.1<=12/\∀ r:Nat,(r:Int)<s.1->s.2 r=(r:Int)) (λs=>(12-s.1).toNat) ⟨by simp,by simp,λr hr=>by simp only at hr; omega⟩ λs hs=>?_) λz hz=>.pure hz
 obtain ⟨i,a⟩:=s
 obtain ⟨g0,g1,g2⟩:=hs
 simp only at g0 g1 g2
 unfold mm
 refine .sel (λh=>?_) λh=>.inr (show Ka a cC from λr hr=>?_)
 ·simp only [decide_eq_true_eq] at h
  dsimp only
  rw [show cQ 12 a i=some (a i.toNat) by unfold cQ; rw [if_pos (by omega)],ob9,aq g0 (by omega)]
  refine .inl ⟨⟨by simp only; omega,by simp only; omega,λr hr=>?_⟩,by simp only; omega⟩
  simp only at hr ⊢
  unfold mE
  by_cases e:r=i.toNat
  ·rw [if_pos e]; omega
  ·rw [if_neg e]; exact g2 r (by omega)
 ·simp only [decide_eq_false_iff_not] at h
  rw [g2 r (by omega)]
  rfl
theorem Dg {q:ab} {m:Int} (hq:QOk m q) {a:Ar Int} {f:Nat->aj} (ha:Ka a f):Tot (fb a q) λa'=>Ka a' (lf q f):=by
 unfold fb
 rw [pz,ob9]
 rcases mJ hq with hs | hd'
 ·refine .st (by rw [hs]; decide) (.pure λr hr=>?_)
  unfold lf
  rw [hs,if_neg (by omega)]
  exact ha r hr
 have hd0:=hd'
 unfold Rg at hd0
 have hb:∀ r,lf q f r=if r=(aH q).toNat then (if q.Op=2 then enc r q.A else ⟨2,0⟩) else if dec r (f r)=aH q then ⟨2,0⟩ else f r:=λr=>by
  unfold lf
  rw [if_pos hd0.1]
 refine .sf (by simp; omega) (.bind (P:=λl2:Ar Int=>∀ r,r<12->l2 r=if (r:Int)=aH q\/dec r (f r)=aH q then (r:Int) else dec r (f r)) (.iter (λs=>0<=s.1/\s.1<=12/\∀ r:Nat,r<12->s.2 r=if (r:Int)<s.1/\((r:Int)=aH q\/dec r (f r)=aH q) then (r:Int) else dec r (f r)) (λs=>(12-s.1).toNat) ⟨by simp,by simp,λr hr=>?_⟩ λs hs=>?_) λl2 h2=>?_)
 ·rw [if_neg (λh=>by have:=h.1; simp only at this; omega)]
  exact ha r hr
 ·obtain ⟨i,c⟩:=s
  obtain ⟨g0,g1,g3⟩:=hs
  simp only at g0 g1 g3
  unfold iR
  refine .sel (λh=>?_) λh=>.inr λr hr=>?_
  ·simp only [decide_eq_true_eq] at h
   have hx:cQ 12 c i=some (dec i.toNat (f i.toNat)):=by
    unfold cQ
    rw [if_pos (by omega),g3 _ (by omega),if_neg (λh=>by have:=h.1; omega)]
   dsimp only
   rw [hx,ob9,aq g0 (by omega)]
   refine .bind (P:=λz:Ar Int=>∀ r:Nat,r<12->z r=if (r:Int)<i+1/\((r:Int)=aH q\/dec r (f r)=aH q) then (r:Int) else dec r (f r)) (.bind (P:=λb=>b=true↔(i=aH q\/dec i.toNat (f i.toNat)=aH q)) (.sel (λhh=>.pure ?_) λhh=>.pure ?_) λb hbb=>.sel (λhe=>?_) λhe=>.pure λr hr=>?_) λz hz=>.inl ⟨⟨by simp only; omega,by simp only; omega,hz⟩,by simp only; omega⟩
   ·have:i=aH q:=by simpa using hh
    simp [this]
   ·have:i≠aH q:=by simpa using hh
    simp [this]
   ·rw [ob9]
    refine .pure λr hr=>?_
    unfold mE
    by_cases e:r=i.toNat
    ·have hcc:(r:Int)<i+1/\((r:Int)=aH q\/dec r (f r)=aH q):=⟨by omega,(hbb.1 he).imp (λh=>by omega) λh=>by rw [e]; exact h⟩
     rw [if_pos e,if_pos hcc]
     omega
    ·rw [if_neg e,g3 r hr]
     by_cases e2:(r:Int)=aH q\/dec r (f r)=aH q
     ·by_cases e3:(r:Int)<i
      ·rw [if_pos ⟨e3,e2⟩,if_pos ⟨by omega,e2⟩]
      ·rw [if_neg (λh=>e3 h.1),if_neg (λh=>by have:=h.1; omega)]
     ·rw [if_neg (λh=>e2 h.2),if_neg (λh=>e2 h.2)]
   ·rw [g3 r hr]
    by_cases e2:(r:Int)=aH q\/dec r (f r)=aH q
    ·have e3:r≠i.toNat:=by
      rintro rfl
      rw [hbb.2 (e2.imp (λh=>by omega) id)] at he
      cases he
     by_cases e4:(r:Int)<i
     ·rw [if_pos ⟨e4,e2⟩,if_pos ⟨by omega,e2⟩]
     ·rw [if_neg (λh=>e4 h.1),if_neg (λh=>by have:=h.1; omega)]
    ·rw [if_neg (λh=>e2 h.2),if_neg (λh=>e2 h.2)]
  ·simp only [decide_eq_false_iff_not] at h
   show c r=_
   rw [g3 r hr]
   by_cases e2:(r:Int)=aH q\/dec r (f r)=aH q
   ·rw [if_pos ⟨by omega,e2⟩,if_pos e2]
   ·rw [if_neg (λh=>e2 h.2),if_neg e2]
 ·have hg:cQ 12 l2 (aH q)=some (l2 (aH q).toNat):=by unfold cQ; rw [if_pos (by omega)]
  rw [hg,ob9]
  refine .sel (λh=>.pure λr hr=>?_) λh=>.pure λr hr=>?_
  ·have h2':q.Op=2:=by simpa using h
   rw [hb]
   unfold mE
   by_cases e:r=(aH q).toNat
   ·rw [if_pos e,if_pos e,if_pos h2',zt]
   ·rw [if_neg e,if_neg e,h2 r hr]
    by_cases e2:dec r (f r)=aH q
    ·rw [if_pos (.inr e2),if_pos e2]; rfl
    ·rw [if_neg (λh=>h.elim (λh=>e (by omega)) e2),if_neg e2]
  ·have h2':q.Op≠2:=by simpa using h
   rw [hb,h2 r hr]
   by_cases e:r=(aH q).toNat
   ·rw [if_pos e,if_neg h2',if_pos (.inl (by omega))]; rfl
   ·rw [if_neg e]
    by_cases e2:dec r (f r)=aH q
    ·rw [if_pos (.inr e2),if_pos e2]; rfl
    ·rw [if_neg (λh=>h.elim (λh=>e (by omega)) e2),if_neg e2]
theorem CM {a b:Ar Int} {f v:Nat->aj} (ha:Ka a f) (hb:Ka b v) (hf:FoC f) (hv:FoC v) (kf:ri f) (kv:ri v):Tot (gD a b) λz=>Ka z λr=>a6 (f r) (v r):=by
 unfold gD
 refine .bind (P:=λz=>Ka z λr=>a6 (f r) (v r)) (.iter (λs=>0<=s.1/\s.1<=12/\∀ r:Nat,r<12->s.2 r=if (r:Int)<s.1 then dec r (a6 (f r) (v r)) else dec r (f r)) (λs=>(12-s.1).toNat) ⟨by simp,by simp,λr hr=>by simp only; rw [if_neg (by omega)]; exact ha r hr⟩ λs hs=>?_) λz hz=>.pure hz
 obtain ⟨i,c⟩:=s
 obtain ⟨g0,g1,g2⟩:=hs
 simp only at g0 g1 g2
 unfold kc
 refine .sel (λhlt=>?_) λhge=>.inr (show Ka c _ from λr hr=>?_)
 ·simp only [decide_eq_true_eq] at hlt
  have hrr:Rg i:=by unfold Rg; omega
  have hi:i.toNat<12:=by omega
  have hc:cQ 12 c i=some (dec i.toNat (f i.toNat)):=by
   unfold cQ
   rw [if_pos (by omega),g2 _ (by omega),if_neg (by omega)]
  have hdj:=vw (hf i.toNat hi) (hv i.toNat hi) (kf _ hi) (kv _ hi)
  simp only [hc,ob9,hb.get hrr,aq g0 (show i<=9223372036854775806 by omega)]
  refine .bind (P:=λz:Ar Int=>∀ r:Nat,r<12->z r=if (r:Int)<i+1 then dec r (a6 (f r) (v r)) else dec r (f r)) (.sel (λh=>.pure λr hr=>?_) λh=>.pure λr hr=>?_) λz hz=>.inl ⟨⟨by simp only; omega,by simp only; omega,hz⟩,by simp only; omega⟩
  ·unfold mE
   by_cases e:r=i.toNat
   ·rw [if_pos e,if_pos (by omega),e,hdj,if_neg (by simpa using h)]
    omega
   ·rw [if_neg e,g2 r hr]
    by_cases e2:(r:Int)<i
    ·rw [if_pos e2,if_pos (by omega)]
    ·rw [if_neg e2,if_neg (by omega)]
  ·rw [g2 r hr]
   by_cases e:r=i.toNat
   ·rw [if_neg (by omega),if_pos (by omega),e,hdj,if_pos (by simpa using h)]
   ·by_cases e2:(r:Int)<i
    ·rw [if_pos e2,if_pos (by omega)]
    ·rw [if_neg e2,if_neg (by omega)]
 ·simp only [decide_eq_false_iff_not] at hge
  rw [g2 r hr,if_pos (by omega)]
structure CW (eQ:List ab) (work:List Int) (S:Nat->Nat->aj):Prop where
 gd:GdC eQ S
 mem:∀ w∈work,0<=w/\w<eQ.length/\(S w.toNat 0).Kind≠0
theorem CN {eQ:List ab} (hc:COk eQ) {b:Ar Int} {v:Nat->aj} (hb:Ka b v) {ys:List Int} (hin:∀ y∈ys,0<=y/\y<eQ.length) (hlen:ys.length<=2) (hgv:∀ y∈ys,GVC eQ y.toNat v) {work:List Int} {known:List Bool} {all:List (Ar Int)} {S:Nat->Nat->aj} (hA:AIc eQ.length known all S) (hW:CW eQ work S) (hbd:fmS eQ.length S+work.length<=14401) :
  Tot (aO (fP b ys) (work,0,known,all)) λz=>∃ S',AIc eQ.length z.2.1 z.2.2 S'/\CW eQ z.1 S'/\fmS eQ.length S'+z.1.length<=fmS eQ.length S+work.length/\(∀ w∈work,w∈z.1)/\(∀ i:Nat,i<eQ.length->(i:Int)∉z.1->S' i=S i)/\(∀ i,i<eQ.length->iG (S i) (S' i))/\∀ y∈ys,iG v (S' y.toNat):=by
 refine .iter (λs=>0<=s.2.1/\s.2.1<=(ys.length:Int)/\∃ S',AIc eQ.length s.2.2.1 s.2.2.2 S'/\CW eQ s.1 S'/\fmS eQ.length S'+s.1.length<=fmS eQ.length S+work.length/\(∀ w∈work,w∈s.1)/\(∀ i:Nat,i<eQ.length->(i:Int)∉s.1->S' i=S i)/\(∀ i,i<eQ.length->iG (S i) (S' i))/\∀ y∈ys.take s.2.1.toNat,iG v (S' y.toNat)) (λs=>((ys.length:Int)-s.2.1).toNat)
  ⟨by simp,by simp,S,hA,hW,Nat.le_refl _,λw h=>h,λ_ _ _=>rfl,λi hi r hr=>.refl _,by simp⟩ λs hs=>?_
 obtain ⟨wk,j,kn,a⟩:=s
 obtain ⟨g0,g1,S1,k1,k2,k3,k4,k5,k6,k7⟩:=hs
 simp only at g0 g1 k1 k2 k3 k4 k5 k6 k7
 unfold fP
 dsimp only
 refine .sel (λhlt=>?_) λhge=>.inr ⟨S1,k1,k2,k3,k4,k5,k6,λy hy=>k7 y ?_⟩
 rotate_left
 ·simp only [decide_eq_false_iff_not] at hge
  rw [List.take_of_length_le (by omega)]
  exact hy
 simp only [decide_eq_true_eq] at hlt
 refine .bind (P:=λz:List Int×List Bool×List (Ar Int)=>∃ S',AIc eQ.length z.2.1 z.2.2 S'/\CW eQ z.1 S'/\fmS eQ.length S'+z.1.length<=fmS eQ.length S+work.length/\(∀ w∈work,w∈z.1)/\(∀ i:Nat,i<eQ.length->(i:Int)∉z.1->S' i=S i)/\(∀ i,i<eQ.length->iG (S i) (S' i))/\∀ y∈ys.take (j+1).toNat,iG v (S' y.toNat)) (.bind (.nth g0 hlt) λy ⟨hy,hym⟩=>?_) λz hz=>.inl ⟨⟨by simp only; rw [aq g0 (by omega)]; omega,by simp only; rw [aq g0 (by omega)]; omega,by simp only; rw [aq g0 (by omega)]; exact hz⟩,by simp only; rw [aq g0 (by omega)]; omega⟩
 obtain ⟨y0,y1⟩:=hin y hym
 have hgy:=hgv y hym
 have hyn:y.toNat<eQ.length:=by omega
 have ht:ys.take (j+1).toNat=ys.take j.toNat++[y]:=by rw [show (j+1).toNat=j.toNat+1 by omega,List.take_add_one,hy]; rfl
 obtain ⟨a1,e0,e1,h1⟩:=k1.get y0 y1
 have hSy:=k2.gd.ok _ hyn
 have hup:up1 S1 y.toNat v y.toNat=λr=>a6 (S1 y.toNat r) (v r):=by unfold up1; rw [if_pos rfl]
 have hupk:(up1 S1 y.toNat v y.toNat 0).Kind≠0:=by rw [hup]; exact gO (hgy.full 0 (by decide))
 have hmono:∀ i,i<eQ.length->iG (S i) (up1 S1 y.toNat v i):=λi hi r hr=>by
  unfold up1
  split
  ·rename_i e
   subst e
   exact leF.trans (k2.gd.ok _ hi r hr).fok (k6 _ hi r hr) a6.le1
  ·exact k6 i hi r hr
 rw [e0,ob9,e1]
 refine .bind (P:=λz=>Ka z (up1 S1 y.toNat v y.toNat)) (.sel (λhk=>?_) λhk=>.pure ?_) λz hz=>?_
 ·have hk':(S1 y.toNat 0).Kind≠0:=by simpa using hk
  rw [ob9,hup]
  exact .bind (CM h1 hb hSy hgy.ok (k2.gd.full _ hyn hk') hgy.full) λz hz=>.pure hz
 ·have hk':(S1 y.toNat 0).Kind=0:=by simpa using hk
  rw [hup]
  intro r hr
  show b r=dec r (a6 _ _)
  unfold a6
  rw [if_pos (k2.gd.zero _ hyn hk' r hr)]
  exact hb r hr
 rw [ob9,ob9,ob9]
 refine .bind (P:=λt=>(t=true->∃ r,r<12/\a6 (S1 y.toNat r) (v r)≠S1 y.toNat r)/\(t=false->∀ r,r<12->a6 (S1 y.toNat r) (v r)=S1 y.toNat r)) (.sel (λhk=>.pure ⟨λ_=>⟨0,by decide,λh=>?_⟩,λh=>by cases h⟩) λhk=>.pure ⟨λhne=>?_,λhe r hr=>?_⟩) λt htt=>?_
 ·have hk':(S1 y.toNat 0).Kind=0:=by simpa using hk
  have:=gO (a:=S1 y.toNat 0) (hgy.full 0 (by decide))
  rw [h] at this
  exact this hk'
 ·refine Classical.byContradiction λhno=>?_
  have:aeq 12 (λ(x y:Int)=>x==y) z a1=true:=rY.2 λr hr=>by
   rw [hz r hr,h1 r hr,hup]
   have:a6 (S1 y.toNat r) (v r)=S1 y.toNat r:=Classical.byContradiction λhh=>hno ⟨r,hr,hh⟩
   show (dec r (a6 (S1 y.toNat r) (v r))==_)=true
   rw [this]
   simp
  rw [this] at hne
  cases hne
 ·have hk':(S1 y.toNat 0).Kind≠0:=by simpa using hk
  have hfu:=k2.gd.full _ hyn hk'
  have h2:=rY.1 (by simpa using he:aeq 12 (λ(x y:Int)=>x==y) z a1=true) r hr
  rw [hz r hr,h1 r hr,hup] at h2
  exact ((hSy r hr).join (hgy.ok r hr)).inj (hSy r hr) (gO (hgy.full r hr)) (hfu r hr) (by simpa using h2)
 refine .sel (λhne=>?_) λhe=>.pure ?_
 ·have hdec:=Bb hyn (λr hr=>(hSy r hr).fok) (λr hr=>(hgy.ok r hr).fok) (htt.1 hne)
  obtain ⟨kk,r,ek,er,hr⟩:=k1.set (S':=up1 S1 y.toNat v) y0 y1 hz hupk λi hi=>by unfold up1; rw [if_neg hi]
  rw [ek,ob9,ob9,er,ob9]
  refine .bind (.app (by simp; omega)) λr5 hr5=>.pure ⟨up1 S1 y.toNat v,hr,⟨k2.gd.up hgy,λw hw=>?_⟩,?_,λw hw=>?_,λi hi hn=>?_,hmono,λy' hy'=>?_⟩
  ·subst hr5
   have hnz:∀ i,i<eQ.length->(S1 i 0).Kind≠0->(up1 S1 y.toNat v i 0).Kind≠0:=λi hi hk=>by
    unfold up1
    split
    ·exact gO (hgy.full 0 (by decide))
    ·exact hk
   rcases List.mem_append.1 hw with h' | h'
   ·obtain ⟨m1,m2,m3⟩:=k2.mem w h'
    exact ⟨m1,m2,hnz _ (by omega) m3⟩
   ·rw [List.mem_singleton.1 h']
    exact ⟨y0,y1,hupk⟩
  ·subst hr5
   simp only [List.length_append,List.length_singleton]
   omega
  ·subst hr5
   exact List.mem_append.2 (.inl (k4 w hw))
  ·subst hr5
   simp only [List.mem_append,List.mem_singleton,not_or] at hn
   have hne2:i≠y.toNat:=λe=>hn.2 (by omega)
   unfold up1
   rw [if_neg hne2]
   exact k5 i hi hn.1
  ·rw [ht] at hy'
   rcases List.mem_append.1 hy' with h' | h'
   ·intro r hr
    obtain ⟨b0,b1⟩:=hin y' (List.mem_of_mem_take h')
    unfold up1
    split
    ·rename_i e
     rw [<-e]
     exact leF.trans (k2.gd.ok _ (by omega) r hr).fok (k7 y' h' r hr) a6.le1
    ·exact k7 y' h' r hr
   ·rw [List.mem_singleton.1 h']
    intro r hr
    rw [hup]
    exact a6.le2
 ·have habs:=htt.2 he
  refine ⟨S1,k1,k2,k3,k4,k5,k6,λy' hy'=>?_⟩
  rw [ht] at hy'
  rcases List.mem_append.1 hy' with h' | h'
  ·exact k7 y' h'
  ·rw [List.mem_singleton.1 h']
   exact λr hr=>by rw [<-habs r hr]; exact a6.le2
theorem B1 {eQ:List ab} (hc:COk eQ):Tot (dM eQ) λall=>∃ S,(all.length=eQ.length/\∀ i,i<eQ.length->∃ a,all[i]?=some a/\Ka a (S i))/\GdC eQ S/\ClC eQ S:=by
 have hmx:=hc.max
 have h1:=hc.one
 unfold dM
 refine .bind (.mk (by omega) (by omega)) λl hl=>.bind (.mk (by omega) (by omega)) λl2 hl2=>?_
 have hll:l.length=eQ.length:=by rw [hl]; simp
 have hll2:l2.length=eQ.length:=by rw [hl2]; simp
 refine .bind (P:=λs:List (Ar Int)=>s.length=eQ.length/\∀ i:Nat,i<eQ.length->∃ a,s[i]?=some a/\Ka a cC) (.iter (λs=>0<=s.1/\s.1<=(eQ.length:Int)/\s.2.length=eQ.length/\∀ i:Nat,(i:Int)<s.1->∃ a,s.2[i]?=some a/\Ka a cC) (λs=>((eQ.length:Int)-s.1).toNat) ⟨by simp,by simp,hll,λi hi=>by simp only at hi; omega⟩ λs hs=>?_) λl3 ⟨g1,g2⟩=>.bind (.nth (by omega) (by omega)) λ_ _=>.bind (.upd (by omega) (by omega)) λl4 hl4=>?_
 ·obtain ⟨i,a⟩:=s
  obtain ⟨g0,g1,g2,g3⟩:=hs
  simp only at g0 g1 g2 g3
  unfold jp
  refine .sel (λhlt=>?_) λhge=>.inr ⟨g2,λj hj=>g3 j (by simp only [decide_eq_false_iff_not,hll] at hge; omega)⟩
  simp only [decide_eq_true_eq,hll] at hlt
  refine .bind zV λz hz=>.bind (.nth g0 (by rw [g2]; exact hlt)) λ_ _=>.bind (.upd g0 (by rw [g2]; exact hlt)) λr hr=>.inl ?_
  subst hr
  rw [aq g0 (by omega)]
  refine ⟨⟨by simp only; omega,by simp only; omega,by simp only; rw [List.length_set]; exact g2,λj hj=>?_⟩,by simp only; omega⟩
  simp only at hj ⊢
  by_cases e:j=i.toNat
  ·subst e
   exact ⟨z,List.getElem?_set_self (by omega),hz⟩
  ·rw [List.getElem?_set_ne (λh=>e h.symm)]
   exact g3 j (by omega)
 have hA0:AIc eQ.length l4 l3 S0C:=by
  refine ⟨by rw [hl4,List.length_set]; exact hll2,g1,λi hi=>?_,λi hi=>?_⟩
  ·rw [hl4]
   unfold S0C
   by_cases e:i=0
   ·subst e
    rw [show (0:Int).toNat=0 from rfl,List.getElem?_set_self (by omega),if_pos rfl]
    rfl
   ·rw [show (0:Int).toNat=0 from rfl,List.getElem?_set_ne (λh=>e h.symm),if_neg e,hl2,List.getElem?_replicate,if_pos (by simpa using hi)]
    rfl
  ·obtain ⟨a,ea,ha⟩:=g2 i hi
   refine ⟨a,ea,λr hr=>?_⟩
   rw [ha r hr]
   unfold S0C
   split <;> rfl
 refine .bind (P:=λz:List Bool×List (Ar Int)=>∃ S,AIc eQ.length z.1 z.2 S/\GdC eQ S/\ClC eQ S) (.iter (λs=>∃ S,AIc eQ.length s.2.1 s.2.2 S/\CW eQ s.1 S/\fmS eQ.length S+s.1.length<=14401/\∀ i:Nat,i<eQ.length->(S i 0).Kind≠0->(i:Int)∉s.1->Bg eQ S i) (λs=>fmC eQ.length s.2.1 s.2.2+s.1.length) ⟨S0C,hA0,⟨Df h1,λw hw=>?_⟩,?_,λi hi hk hn=>?_⟩ λs hs=>?_) λz ⟨S,z1,z2,z3⟩=>.pure ⟨S,⟨z1.len,z1.at_⟩,z2,z3⟩
 ·rw [List.mem_singleton.1 hw]
  refine ⟨by omega,by omega,?_⟩
  show (2:Int)≠0
  decide
 ·have:=@zq eQ.length S0C
  simp only [List.length_singleton]
  omega
 ·exfalso
  simp only at hn
  unfold S0C at hk
  by_cases e:i=0
  ·subst e; simp at hn
  ·rw [if_neg e] at hk; exact hk rfl
 ·obtain ⟨work,kn,a⟩:=s
  obtain ⟨S,hA,hW,hbd,hcl⟩:=hs
  simp only at hA hW hbd hcl
  unfold jq
  dsimp only
  refine .sel (λhlt=>?_) λhge=>.inr ?_
  rotate_left
  ·simp only [gt_iff_lt,decide_eq_false_iff_not] at hge
   have hnil:work=[]:=List.eq_nil_of_length_eq_zero (by omega)
   subst hnil
   exact ⟨S,hA,hW.gd,hW.gd.ok,hW.gd.init,λi q hq hk y hy=>hcl i (bV hq) hk (by simp) q hq hk y hy⟩
  simp only [gt_iff_lt,decide_eq_true_eq] at hlt
  rw [aE (by omega) (by omega)]
  refine .bind (.nth (by omega) (by omega)) λx ⟨hx,hxm⟩=>.bind (.cut ⟨by omega,by omega,by omega⟩) λr3 hr3=>?_
  have hr3':r3=work.dropLast:=by
   rw [hr3,show ((0:Int)).toNat=0 from rfl,List.drop_zero,List.dropLast_eq_take,show ((work.length:Int)-1).toNat=work.length-1 by omega]
  have hsplit:work=r3++[x]:=by
   have hne:work≠[]:=by rintro rfl; simp at hlt
   have hl:=List.dropLast_concat_getLast hne
   have hx2:work.getLast hne=x:=by
    have:work[work.length-1]?=some (work.getLast hne):=by
     rw [List.getLast_eq_getElem]
     exact List.getElem?_eq_getElem (by omega)
    rw [show ((work.length:Int)-1).toNat=work.length-1 by omega] at hx
    exact o9 (this.symm.trans hx)
   rw [hr3',<-hx2]
   exact hl.symm
  have hwlen:work.length=r3.length+1:=by rw [hsplit]; simp
  obtain ⟨x0,x1,xk⟩:=hW.mem x hxm
  have ex:((x.toNat:Nat):Int)=x:=by omega
  obtain ⟨b,_,eb,hb⟩:=hA.get x0 x1
  obtain ⟨q,hq⟩:∃ q,eQ[x.toNat]?=some q:=⟨_,List.getElem?_eq_getElem (by omega)⟩
  have hqm:=List.mem_of_getElem? hq
  have hqok:=hc.q q hqm
  have hnq:nth eQ x=some q:=by unfold nth; rw [if_neg (by omega)]; exact hq
  rw [eb,ob9,hnq,ob9]
  refine .bind (Dg hqok hb) λv hv=>?_
  rw [ob9,rX x0 (by omega),ob9]
  have hin:∀ y∈nx q x,0<=y/\y<eQ.length:=λy hy=>rS hc hq y (by rw [ex]; exact hy)
  have hgv:∀ y∈nx q x,GVC eQ y.toNat (lf q (S x.toNat)):=λy hy=>Bf hc hW.gd hq xk (by rw [ex]; exact hy)
  refine .bind (CN hc hv hin (@Bh q x) hgv (work:=r3) hA ⟨hW.gd,λw hw=>hW.mem w (by rw [hsplit]; simp [hw])⟩ (by omega)) λz hz=>.inl ?_
  obtain ⟨S',z1,z2,z3,z4,z5,z6,z7⟩:=hz
  refine ⟨⟨S',z1,z2,by simp only; omega,λi hi hk hn=>?_⟩,?_⟩
  ·simp only at hn
   have he:=z5 i hi hn
   intro q' hq' hk' y hy
   rw [he] at hk' ⊢
   by_cases e:i=x.toNat
   ·subst e
    obtain rfl:=o9 (hq.symm.trans hq')
    rw [ex] at hy
    exact z7 y hy
   ·have hnw:(i:Int)∉work:=by
     rw [hsplit]
     simp only [List.mem_append,List.mem_singleton,not_or]
     exact ⟨λh=>hn (z4 _ h),λh=>e (by omega)⟩
    obtain ⟨b0,b1⟩:=rS hc hq' y hy
    have h2:=hcl i hi hk' hnw q' hq' hk' y hy
    exact λr hr=>leF.trans (hW.gd.ok _ (by omega) r hr).fok (h2 r hr) (z6 _ (by omega) r hr)
  ·simp only
   rw [z1.fm z2.gd,hA.fm hW.gd]
   omega
theorem zW {eQ:List ab} (hc:COk eQ):∃ all all' S,dM eQ=some all/\eN eQ=some all'/\(all.length=eQ.length/\∀ i,i<eQ.length->∃ a,all[i]?=some a/\Ka a (S i))/\AE eQ.length all' S/\∀ i,i<eQ.length->FoC (S i):=by
 obtain ⟨a,ea,S,h1,h2,h3⟩:=B1 hc
 obtain ⟨a',ea',S',h1',h2',h3'⟩:=BZ hc
 refine ⟨a,a',S,ea,ea',h1,⟨h1'.1,λi hi=>?_⟩,h2.ok⟩
 obtain ⟨l,e,hl⟩:=h1'.2 i hi
 exact ⟨l,e,hl.congr λr hr=>leF.anti (h2'.ok i hi r hr).fok (h2.ok i hi r hr).fok (h2'.min S h3 i hi r hr) (h2.min S' h3' i hi r hr)⟩
def rdQ (q:ab) (f:Nat->aj):ab:=if q.Op=2\/q.Op=5\/q.Op=6\/q.Op=9 then ⟨q.Op,q.Dst,dec q.A.toNat (f q.A.toNat),q.B,q.N⟩ else if q.Op=3 then ⟨q.Op,q.Dst,dec q.A.toNat (f q.A.toNat),dec q.B.toNat (f q.B.toNat),q.N⟩ else q
theorem Dh {q:ab} {m:Int} (hq:QOk m q) {l:List Int} {f:Nat->aj} (hl:Cs l f):ik q l=some (rdQ q f):=by
 refine Tot.eq ?_
 unfold ik rdQ
 refine .bind (P:=λb=>b=true↔(q.Op=2\/q.Op=5\/q.Op=6\/q.Op=9)) (.sel (λh=>.pure ?_) λh=>.sel (λh'=>.pure ?_) λh'=>.sel (λh''=>.pure ?_) λh''=>.pure ?_) λb hb=>.sel (λhbt=>?_) λhbf=>.sel (λh=>?_) λh=>.pure ?_
 ·simp only [beq_iff_eq] at *; simp [h]
 ·simp only [beq_iff_eq] at *; simp [h']
 ·simp only [beq_iff_eq] at *; simp [h'']
 ·simp only [beq_eq_false_iff_ne,ne_eq] at *; simp [h,h',h'']
 ·rw [hl.get (pA hq (hb.1 hbt)),ob9,if_pos (hb.1 hbt)]
  exact .pure rfl
 ·have h3:q.Op=3:=by simpa using h
  obtain ⟨rA,rB⟩:=oc hq h3
  rw [hl.get rA,ob9,hl.get rB,ob9,if_neg (by omega),if_pos h3]
  exact .pure rfl
 ·have h3:q.Op≠3:=by simpa using h
  rw [if_neg (λhh=>by rw [hb.2 hh] at hbf; cases hbf),if_neg h3]
def PC (eQ:List ab) (S:Nat->Nat->aj) (i:Nat) (q':ab):Prop:=∃ q,eQ[i]?=some q/\q'=rdQ q (S i)
theorem PC.inj {eQ:List ab} {S:Nat->Nat->aj} (i:Nat) (q q':ab) (h:PC eQ S i q) (h':PC eQ S i q'):q=q':=by
 obtain ⟨a,h1,h2⟩:=h
 obtain ⟨a',h1',h2'⟩:=h'
 obtain rfl:=o9 (h1.symm.trans h1')
 rw [h2,h2']
theorem B2 {q:ab} {m:Int} (h:QOk m q):Tot (jr q) λu=>u≠0↔(q.Op=2\/q.Op=5\/q.Op=6\/q.Op=9\/q.Op=3):=(Cd h).mono λu ⟨hu,hb⟩=>by
 have h0:u=0->∀ r:Nat,(gM q).contains (r:Int)=false:=λe r=>by
  rw [<-hb,e]
  unfold bt
  simp
 constructor
 ·intro hne
  refine Classical.byContradiction λhno=>hne (hu.ext ⟨by decide,by decide⟩ λr hr=>?_)
  rw [hb]
  unfold gM
  rw [if_neg (by omega),if_neg (by omega)]
  unfold bt
  simp
 ·intro ho e
  have hr:Rg q.A/\(gM q).contains q.A=true:=by
   by_cases h4:q.Op=2\/q.Op=5\/q.Op=6\/q.Op=9
   ·refine ⟨pA h h4,?_⟩
    unfold gM
    rw [if_pos h4]
    simp
   ·have h3:q.Op=3:=by omega
    refine ⟨(oc h h3).1,?_⟩
    unfold gM
    rw [if_neg h4,if_pos h3]
    split
    ·simp
    ·rcases Int.le_total q.A q.B with hh | hh
     ·rw [Int.min_eq_left hh]; simp
     ·rw [Int.max_eq_left hh]; simp
  have:=h0 e q.A.toNat
  have h5:=hr.1
  unfold Rg at h5
  rw [show ((q.A.toNat:Nat):Int)=q.A by omega,hr.2] at this
  cases this
theorem B3:my ku gk:=my.of xB λ{eQ} hc=>by
 have hmx:=hc.max
 obtain ⟨all,all',S,ea,es,hA,hS,hf⟩:=zW hc
 have hal:=hA.1
 have A:Tot (aO (gF eQ all) (0,eQ)) λout=>out.length=eQ.length/\∀ i q',out[i]?=some q'->PC eQ S i q':=by
  refine pB (PC eQ S) hmx (λi out q h0 h1 h2 hq ho=>?_) λout=>?_
  ·unfold gF
   dsimp only
   have hqm:q∈eQ:=List.mem_of_getElem? hq
   obtain ⟨a,e1,k1⟩:=hA.2 i.toNat (by omega)
   have e1':nth all i=some a:=by unfold nth; rw [if_neg (by omega)]; exact e1
   have hnq:nth eQ i=some q:=by unfold nth; rw [if_neg (by omega)]; exact hq
   have hno:nth out i=some q:=by unfold nth; rw [if_neg (by omega)]; exact ho
   refine .st (by rw [hal]; simpa using h1) (.bind (P:=λz=>∃ q',z=out.set i.toNat q'/\PC eQ S i.toNat q') ?_ λz ⟨q',hz,hp⟩=>.inl ⟨q',by rw [aq h0 (by omega),hz],hp⟩)
   rw [e1',ob9,hnq,ob9]
   refine .bind (B2 (hc.q q hqm)) λu hu=>?_
   have hself:out=out.set i.toNat q:=(List.ext_getElem? λj=>by
    by_cases e:j=i.toNat
    ·subst e
     rw [List.getElem?_set_self (by omega),ho]
    ·rw [List.getElem?_set_ne (λh=>e h.symm)])
   refine .bind (P:=λz=>z=out.set i.toNat (if u≠0 then ab.mk q.Op q.Dst (dec q.A.toNat (S i.toNat q.A.toNat)) q.B q.N else q)) (.sel (λhn=>?_) λhn=>.pure ?_) λz hz=>?_
   ·have hn':u≠0:=by simpa using hn
    have hrA:Rg q.A:=by
     by_cases h4:q.Op=2\/q.Op=5\/q.Op=6\/q.Op=9
     ·exact pA (hc.q q hqm) h4
     ·exact (oc (hc.q q hqm) (by have:=hu.1 hn'; omega)).1
    rw [ob9,k1.get hrA,ob9,hno,ob9,if_pos hn']
    exact .bind (.upd h0 (by rw [h2]; exact h1)) λr hr=>.pure hr
   ·have hn':u=0:=by simpa using hn
    rw [if_neg (λh=>h hn')]
    exact hself
   ·rw [ob9]
    have hzn:nth z i=some (if u≠0 then ab.mk q.Op q.Dst (dec q.A.toNat (S i.toNat q.A.toNat)) q.B q.N else q):=by
     unfold nth
     rw [if_neg (by omega),hz,List.getElem?_set_self (by omega)]
    refine .sel (λh3=>?_) λh3=>.pure ⟨_,hz,q,hq,?_⟩
    ·have h3':q.Op=3:=by simpa using h3
     have hu':=hu.2 (by omega)
     rw [ob9,k1.get (oc (hc.q q hqm) h3').2,ob9,hzn,ob9,if_pos hu']
     refine .bind (.upd h0 (by rw [hz,List.length_set,h2]; exact h1)) λr hr=>.pure ⟨ab.mk q.Op q.Dst (dec q.A.toNat (S i.toNat q.A.toNat)) (dec q.B.toNat (S i.toNat q.B.toNat)) q.N,by rw [hr,hz,List.set_set],q,hq,?_⟩
     unfold rdQ
     rw [if_neg (by omega),if_pos h3']
    ·have h3':q.Op≠3:=by simpa using h3
     unfold rdQ
     by_cases h4:q.Op=2\/q.Op=5\/q.Op=6\/q.Op=9
     ·rw [if_pos (hu.2 (by omega)),if_pos h4]
     ·rw [if_neg h4,if_neg h3',if_neg (λh=>by have:=hu.1 h; omega)]
  ·unfold gF; rw [aM (by rw [hal]; simp)]
 have B:Tot (aO (dw eQ all') ([],0)) λout=>out.length=eQ.length/\∀ i q',out[i]?=some q'->PC eQ S i q':=by
  refine lX (n:=eQ.length) (PC eQ S) hmx (λi out h0 h1 h2=>?_) λout=>?_
  ·unfold dw
   dsimp only
   obtain ⟨q,hq⟩:∃ q,eQ[i.toNat]?=some q:=⟨_,List.getElem?_eq_getElem (by omega)⟩
   obtain ⟨l,e2,k2⟩:=hS.get h0 h1
   have hnq:nth eQ i=some q:=by unfold nth; rw [if_neg (by omega)]; exact hq
   refine .st (by simpa using h1) ?_
   rw [e2,ob9,hnq,ob9,Dh (hc.q q (List.mem_of_getElem? hq)) k2,ob9]
   exact .bind (.app (by simp; omega)) λr hr=>.inl ⟨_,by rw [aq h0 (by omega),hr],q,hq,rfl⟩
  ·unfold dw; rw [aM (by simp)]
 obtain ⟨a,ea',ha⟩:=A
 obtain ⟨b,eb',hb⟩:=B
 refine ⟨a,?_,(b,true),?_,oe ha hb PC.inj⟩
 ·unfold ku
  rw [lY hc,ob9,bD (show (!true)=false from rfl),oh eQ hmx,ob9,ea,ob9,ea']
  rfl
 ·unfold gk
  rw [aU hc,ob9,bD (show (!true)=false from rfl),es,ob9,eb']
  rfl
end
noncomputable section
def Clh (q:ab) (g:Nat->Bool) (r s:Nat):Prop:=aH q=(r:Int)/\g s=true/\¬ (q.Op=2/\q.A=(s:Int))
def MT (eQ:List ab) (l:List (List Bool)) (k r s:Nat):Prop:=r≠s/\∃ (i:Nat) (q:ab),i<k/\eQ[i]?=some q/\(Clh q (fj l q i) r s\/Clh q (fj l q i) s r)
theorem MT.symm {eQ:List ab} {l:List (List Bool)} {k r s:Nat} (h:MT eQ l k r s):MT eQ l k s r:=⟨h.1.symm,by
 obtain ⟨i,q,h1,h2,h3⟩:=h.2
 exact ⟨i,q,h1,h2,h3.symm⟩⟩
theorem MT.succ {eQ:List ab} {l:List (List Bool)} {k r s:Nat} {q:ab} (hq:eQ[k]?=some q):MT eQ l (k+1) r s↔MT eQ l k r s\/(r≠s/\(Clh q (fj l q k) r s\/Clh q (fj l q k) s r)):=by
 constructor
 ·rintro ⟨h,i,q',h1,h2,h3⟩
  by_cases e:i=k
  ·subst e
   obtain rfl:=o9 (hq.symm.trans h2)
   exact .inr ⟨h,h3⟩
  ·exact .inl ⟨h,i,q',by omega,h2,h3⟩
 ·rintro (⟨h,i,q',h1,h2,h3⟩ | ⟨h,h3⟩)
  ·exact ⟨h,i,q',by omega,h2,h3⟩
  ·exact ⟨h,k,q,by omega,hq,h3⟩
theorem Di {u:Int} (hu:Bs u):Tot (gJ u) λL=>L.length<=12/\∀ x:Int,x∈L↔Rg x/\bt u x.toNat=true:=by
 unfold gJ
 refine .bind (P:=λL:List Int=>L.length<=12/\∀ x:Int,x∈L↔Rg x/\bt u x.toNat=true) (.iter (λs=>0<=s.2/\s.2<=12/\(s.1.length:Int)<=s.2/\∀ x:Int,x∈s.1↔0<=x/\x<s.2/\bt u x.toNat=true) (λs=>(12-s.2).toNat) ⟨by simp,by simp,by simp,λx=>⟨λh=>by simp at h,λh=>by have:=h.1; have:=h.2.1; simp only at this; omega⟩⟩ λs hs=>?_) λz hz=>.pure hz
 obtain ⟨L,i⟩:=s
 obtain ⟨g0,g1,g2,g3⟩:=hs
 simp only at g0 g1 g2 g3
 unfold ke
 refine .sel (λh=>?_) λh=>.inr ⟨(by show L.length<=12; omega),λx=>?_⟩
 ·simp only [decide_eq_true_eq] at h
  dsimp only
  have hi:Rg i:=by unfold Rg; omega
  rw [wW hu hi,ob9,aq g0 (by omega)]
  refine .bind (P:=λz:List Int=>(z.length:Int)<=i+1/\∀ x:Int,x∈z↔0<=x/\x<i+1/\bt u x.toNat=true) (.sel (λhb=>.bind (.app (by simp; omega)) λr hr=>.pure ?_) λhb=>.pure ⟨by omega,λx=>?_⟩) λz hz=>.inl ⟨⟨by simp only; omega,by simp only; omega,hz⟩,by simp only; omega⟩
  ·subst hr
   refine ⟨by simp only [List.length_append,List.length_singleton]; omega,λx=>?_⟩
   simp only [List.mem_append,List.mem_singleton]
   constructor
   ·rintro (h' | rfl)
    ·have:=(g3 x).1 h'; exact ⟨this.1,by omega,this.2.2⟩
    ·exact ⟨g0,by omega,hb⟩
   ·rintro ⟨h1,h2,h3⟩
    by_cases e:x=i
    ·exact .inr e
    ·exact .inl ((g3 x).2 ⟨h1,by omega,h3⟩)
  ·rw [g3 x]
   constructor
   ·rintro ⟨h1,h2,h3⟩; exact ⟨h1,by omega,h3⟩
   ·rintro ⟨h1,h2,h3⟩
    refine ⟨h1,?_,h3⟩
    by_cases e:x=i
    ·subst e; rw [hb] at h3; cases h3
    ·omega
 ·simp only [decide_eq_false_iff_not] at h
  show x∈L↔_
  rw [g3 x]
  unfold Rg
  constructor
  ·rintro ⟨h1,h2,h3⟩; exact ⟨by omega,h3⟩
  ·rintro ⟨h1,h3⟩; exact ⟨h1.1,by omega,h3⟩
theorem CP {d:Int} (hd:Rg d) {L:List Int} (hL:∀ x∈L,Rg x) (hlen:L.length<=12) {m:Ar Int} (hm:∀ r,r<12->Bs (m r)):Tot (aO (jK d L) (0,m)) λz=>∀ r:Nat,r<12->Bs (z r)/\∀ s:Nat,bt (z r) s=(bt (m r) s||(L.contains (r:Int)&&((s:Int)==d))):=by
 obtain ⟨D,eD,D1,D2⟩:=py hd
 refine .iter (λt=>0<=t.1/\t.1<=(L.length:Int)/\∀ r:Nat,r<12->Bs (t.2 r)/\∀ s:Nat,bt (t.2 r) s=(bt (m r) s||((L.take t.1.toNat).contains (r:Int)&&((s:Int)==d)))) (λt=>((L.length:Int)-t.1).toNat) ⟨by simp,by simp,λr hr=>⟨hm r hr,λs=>by simp⟩⟩ λt ht=>?_
 obtain ⟨j,c⟩:=t
 obtain ⟨g0,g1,g2⟩:=ht
 simp only at g0 g1 g2
 unfold jK
 refine .sel (λh=>?_) λh=>.inr λr hr=>?_
 ·simp only [decide_eq_true_eq] at h
  dsimp only
  refine .bind (.nth g0 h) λx ⟨hx,hxm⟩=>?_
  have hxr:=hL x hxm
  have hxr':=hxr
  unfold Rg at hxr'
  have hg:cQ 12 c x=some (c x.toNat):=by unfold cQ; rw [if_pos (by omega)]
  have ht:L.take (j+1).toNat=L.take j.toNat++[x]:=by rw [show (j+1).toNat=j.toNat+1 by omega,List.take_add_one,hx]; rfl
  rw [hg,ob9,eD,ob9,ob9,aq g0 (by omega)]
  refine .inl ⟨⟨by simp only; omega,by simp only; omega,λr hr=>?_⟩,by simp only; omega⟩
  simp only
  obtain ⟨k1,k2⟩:=g2 r hr
  unfold mE
  rw [ht]
  by_cases e:r=x.toNat
  ·subst e
   rw [if_pos rfl]
   obtain ⟨o1,o2⟩:=wy k1 D1
   refine ⟨o1,λs=>?_⟩
   have ec:((L.take j.toNat)++[x]).contains (((x.toNat:Nat)):Int)=true:=by
    rw [show (((x.toNat:Nat)):Int)=x by omega]
    simp
   rw [o2,k2,D2,ec]
   cases bt (m x.toNat) s <;> cases ((L.take j.toNat).contains (((x.toNat:Nat)):Int)) <;> cases ((s:Int)==d) <;> rfl
  ·rw [if_neg e]
   refine ⟨k1,λs=>?_⟩
   have ec:((L.take j.toNat)++[x]).contains (r:Int)=(L.take j.toNat).contains (r:Int):=by
    rw [Bool.eq_iff_iff]
    simp only [List.contains_iff_mem,List.mem_append,List.mem_singleton]
    exact ⟨λh=>h.resolve_right λh=>e (by omega),.inl⟩
   rw [k2,ec]
 ·simp only [decide_eq_false_iff_not] at h
  obtain ⟨k1,k2⟩:=g2 r hr
  refine ⟨k1,λs=>?_⟩
  show bt (c r) s=_
  rw [k2,List.take_of_length_le (by omega)]
def Ms (m:Ar Int) (M:Nat->Nat->Prop):Prop:=∀ r,r<12->Bs (m r)/\∀ s,s<12->(bt (m r) s=true↔M r s)
theorem zX {eQ:List ab} (hc:COk eQ) {b:List Int} {l:List (List Bool)} (hb:dT eQ=some b) (hL:LR eQ.length b l):Tot (iK eQ) λm=>Ms m (MT eQ l eQ.length):=by
 have hmx:=hc.max
 unfold iK
 rw [hb,ob9]
 refine .bind (P:=λm=>Ms m (MT eQ l eQ.length)) (.iter (λt=>0<=t.1/\t.1<=(eQ.length:Int)/\Ms t.2 (MT eQ l t.1.toNat)) (λt=>((eQ.length:Int)-t.1).toNat) ⟨by simp,by simp,λr hr=>⟨(show Bs 0 from ⟨by decide,by decide⟩),λs hs=>⟨λh=>?_,λh=>?_⟩⟩⟩ λt ht=>?_) λz hz=>.pure hz
 ·simp only at h
  unfold bt at h
  simp at h
 ·obtain ⟨_,i,q,h1,_⟩:=h
  simp at h1
 obtain ⟨i,m⟩:=t
 obtain ⟨g0,g1,g2⟩:=ht
 simp only at g0 g1 g2
 unfold mn
 refine .sel (λh=>?_) λh=>.inr ?_
 ·simp only [decide_eq_true_eq] at h
  dsimp only
  obtain ⟨q,hq⟩:∃ q,eQ[i.toNat]?=some q:=⟨_,List.getElem?_eq_getElem (by omega)⟩
  have hqok:=hc.q q (List.mem_of_getElem? hq)
  have ei:((i.toNat:Nat):Int)=i:=by omega
  rw [show nth eQ i=some q by unfold nth; rw [if_neg (by omega)]; exact hq,ob9,pz,ob9,aq g0 (by omega)]
  refine .bind (P:=λz=>Ms z (MT eQ l (i.toNat+1))) ?_ λz hz=>.inl ⟨⟨by simp only; omega,by simp only; omega,by simp only; rw [show (i+1).toNat=i.toNat+1 by omega]; exact hz⟩,by simp only; omega⟩
  rcases mJ hqok with hs | hd
  ·refine .st (by rw [hs]; decide) (.pure λr hr=>⟨(g2 r hr).1,λs hs'=>?_⟩)
   rw [(g2 r hr).2 s hs',MT.succ hq]
   refine ⟨.inl,λh=>h.resolve_right ?_⟩
   rintro ⟨_,h | h⟩ <;> (have:=h.1; rw [hs] at this; omega)
  ·have hd0:=hd
   unfold Rg at hd0
   obtain ⟨D,eD,D1,D2⟩:=py hd
   refine .sf (by simp; omega) ?_
   rw [eD,ob9]
   refine .bind (wX hc hL g0 hq) λy ⟨y1,y2⟩=>?_
   obtain ⟨n1,n2⟩:=s5 y1 D1
   refine .bind (P:=λu=>Bs u/\∀ s:Nat,s<12->(bt u s=true↔(fj l q i s=true/\(s:Int)≠aH q/\¬ (q.Op=2/\q.A=(s:Int))))) (.sel (λh2=>?_) λh2=>.pure ⟨n1,λs hs=>?_⟩) λu ⟨u1,u2⟩=>?_
   ·have h2':q.Op=2:=by simpa using h2
    obtain ⟨D',eD',D1',D2'⟩:=py (pA hqok (.inl h2'))
    rw [eD',ob9]
    obtain ⟨o1,o2⟩:=s5 n1 D1'
    refine .pure ⟨o1,λs hs=>?_⟩
    rw [o2,n2,y2 s hs,D2,D2']
    simp only [Bool.and_eq_true,Bool.not_eq_true',beq_eq_false_iff_ne,ne_eq,and_assoc]
    refine and_congr_right λ_=>and_congr_right λ_=>⟨λh hh=>h hh.2.symm,λh hh=>h ⟨h2',hh.symm⟩⟩
   ·have h2':q.Op≠2:=by simpa using h2
    rw [n2,y2 s hs,D2]
    simp only [Bool.and_eq_true,Bool.not_eq_true',beq_eq_false_iff_ne,ne_eq]
    exact ⟨λh=>⟨h.1,h.2,λhh=>h2' hh.1⟩,λh=>⟨h.1,h.2.1⟩⟩
   ·have hg:cQ 12 m (aH q)=some (m (aH q).toNat):=by unfold cQ; rw [if_pos (by omega)]
    rw [hg,ob9,ob9]
    refine .bind (Di u1) λL ⟨L1,L2⟩=>?_
    obtain ⟨o1,o2⟩:=wy (g2 (aH q).toNat (by omega)).1 u1
    have hM:∀ r,r<12->Bs (mE m (aH q) (bA .or .u16 (m (aH q).toNat) u) r):=λr hr=>by
     unfold mE
     split
     ·exact o1
     ·exact (g2 r hr).1
    refine .bind (CP hd (λx hx=>((L2 x).1 hx).1) L1 hM) λz hz=>.pure λr hr=>⟨(hz r hr).1,λs hs=>?_⟩
    rw [(hz r hr).2 s,MT.succ hq,ei,<-(g2 r hr).2 s hs]
    have hc1:L.contains (r:Int)=true↔(fj l q i r=true/\(r:Int)≠aH q/\¬ (q.Op=2/\q.A=(r:Int))):=by
     rw [List.contains_iff_mem,L2,show ((r:Nat):Int).toNat=r by omega,u2 r hr]
     exact ⟨λh=>h.2,λh=>⟨by unfold Rg; omega,h⟩⟩
    have hc2:bt (mE m (aH q) (bA .or .u16 (m (aH q).toNat) u) r) s=true↔bt (m r) s=true\/((r:Int)=aH q/\bt u s=true):=by
     unfold mE
     by_cases e:r=(aH q).toNat
     ·subst e
      rw [if_pos rfl,o2,Bool.or_eq_true]
      exact or_congr_right ⟨λh=>⟨by omega,h⟩,λh=>h.2⟩
     ·rw [if_neg e]
      exact ⟨.inl,λh=>h.resolve_right λh=>e (by omega)⟩
    rw [Bool.or_eq_true,Bool.and_eq_true,hc1,hc2,u2 s hs,beq_iff_eq]
    unfold Clh
    constructor
    ·rintro ((h | ⟨h1,h2,h3,h4⟩) | ⟨⟨h1,h2,h3⟩,h4⟩)
     ·exact .inl h
     ·exact .inr ⟨λe=>h3 (by rw [<-e]; exact h1),.inl ⟨h1.symm,h2,h4⟩⟩
     ·exact .inr ⟨λe=>h2 (by rw [e]; exact h4),.inr ⟨h4.symm,h1,h3⟩⟩
    ·rintro (h | ⟨hne,⟨h1,h2,h3⟩ | ⟨h1,h2,h3⟩⟩)
     ·exact .inl (.inl h)
     ·exact .inl (.inr ⟨h1.symm,h2,by rw [h1]; omega,h3⟩)
     ·exact .inr ⟨⟨h2,by rw [h1]; omega,h3⟩,h1.symm⟩
 ·simp only [decide_eq_false_iff_not] at h
  rw [show i.toNat=eQ.length by omega] at g2
  exact g2
def PLs (M:Nat->Nat->Prop) (p:Nat->Int) (k:Nat):Prop:=∀ m,m<k->0<=p m/\p m<=m/\(∀ s,s<m->M s m->p s≠p m)/\∀ x:Int,0<=x->x<p m->∃ s,s<m/\M s m/\p s=x
theorem PLs.uniq {M:Nat->Nat->Prop} {p p':Nat->Int}:∀ {k:Nat},PLs M p k->PLs M p' k->∀ m,m<k->p m=p' m
 | 0,_,_,m,hm=>by omega
 | k+1,h,h',m,hm=>by
  have ih:∀ m,m<k->p m=p' m:=PLs.uniq (λm hm=>h m (by omega)) (λm hm=>h' m (by omega))
  by_cases e:m=k
  ·subst e
   obtain ⟨a1,a2,a3,a4⟩:=h m hm
   obtain ⟨b1,b2,b3,b4⟩:=h' m hm
   rcases Int.lt_trichotomy (p m) (p' m) with hl | hl | hl
   ·obtain ⟨s,s1,s2,s3⟩:=b4 (p m) a1 hl
    exact absurd (by rw [ih s s1]; exact s3) (a3 s s1 s2)
   ·exact hl
   ·obtain ⟨s,s1,s2,s3⟩:=a4 (p' m) b1 hl
    exact absurd (by rw [<-ih s s1]; exact s3) (b3 s s1 s2)
  ·exact ih m (by omega)
theorem PLs.congr {M:Nat->Nat->Prop} {p p':Nat->Int} {k:Nat} (h:PLs M p k) (he:∀ m,m<k->p m=p' m):PLs M p' k:=λm hm=>by
 obtain ⟨a1,a2,a3,a4⟩:=h m hm
 refine ⟨by rw [<-he m hm]; exact a1,by rw [<-he m hm]; exact a2,λs hs hM=>by rw [<-he s (by omega),<-he m hm]; exact a3 s hs hM,λx h0 h1=>?_⟩
 obtain ⟨s,s1,s2,s3⟩:=a4 x h0 (by rw [he m hm]; exact h1)
 exact ⟨s,s1,s2,by rw [<-he s (by omega)]; exact s3⟩
def gl (l:List Int) (r:Nat):Int:=(l[r]?).getD 0
theorem vx {l:List Int} {x:Int} (h0:0<=x) (h1:x<l.length):nth l x=some (gl l x.toNat):=by
 unfold nth gl
 rw [if_neg (by omega),List.getElem?_eq_getElem (by omega)]
 rfl
theorem pD {l:List Int} {k r:Nat} {v:Int} (hk:k<l.length):gl (l.set k v) r=if r=k then v else gl l r:=by
 unfold gl
 by_cases e:r=k
 ·subst e; rw [List.getElem?_set_self hk,if_pos rfl]; rfl
 ·rw [List.getElem?_set_ne (λh=>e h.symm),if_neg e]
theorem w6 {l:List Int} {r:Nat} {v:Int}:gl (l++[v]) r=if r=l.length then v else gl l r:=by
 unfold gl
 by_cases e:r=l.length
 ·subst e; rw [List.getElem?_append_right (Nat.le_refl _),if_pos rfl]; simp
 ·rw [if_neg e]
  rcases Nat.lt_or_ge r l.length with h | h
  ·rw [List.getElem?_append_left h]
  ·rw [List.getElem?_eq_none (by simp; omega),List.getElem?_eq_none h]
theorem B4 {eQ:List ab} (hc:COk eQ) {M:Nat->Nat->Prop} (hsy:∀ r s,M r s->M s r) (hm:Tot (iK eQ) λm=>Ms m M):Tot (iL eQ) λl=>l.length=12/\PLs M (gl l) 12:=by
 unfold iL
 refine .bind hm λm hM=>.bind (.mk (by omega) (by decide)) λr1 hr1=>?_
 have hl1:r1.length=12:=by rw [hr1]; rfl
 refine .bind (P:=λl:List Int=>l.length=12/\PLs M (gl l) 12) (.iter (λs=>0<=s.1/\s.1<=12/\s.2.length=12/\PLs M (gl s.2) s.1.toNat/\∀ k:Nat,s.1<=(k:Int)->gl s.2 k=0) (λs=>(12-s.1).toNat) ⟨by simp,by simp,hl1,λm hm=>by simp at hm,λk _=>?_⟩ λs hs=>?_) λz hz=>.pure hz
 ·simp only
  rw [hr1]
  unfold gl
  rw [List.getElem?_replicate]
  split <;> rfl
 obtain ⟨i,l⟩:=s
 obtain ⟨g0,g1,g2,g3,g4⟩:=hs
 simp only at g0 g1 g2 g3 g4
 unfold mq
 refine .sel (λh=>?_) λh=>.inr ?_
 rotate_left
 ·simp only [decide_eq_false_iff_not,hl1] at h
  rw [show i.toNat=12 by omega] at g3
  exact ⟨g2,g3⟩
 simp only [decide_eq_true_eq,hl1] at h
 have hin:i.toNat<12:=by omega
 have ei:((i.toNat:Nat):Int)=i:=by omega
 have hMi:=hM i.toNat hin
 have hg:cQ 12 m i=some (m i.toNat):=by unfold cQ; rw [if_pos (by omega)]
 refine .bind (P:=λu=>Bs u/\∀ r:Nat,r<12->(bt u r=true↔∃ s,s<i.toNat/\M i.toNat s/\gl l s=(r:Int))) (.iter (λt=>0<=t.2/\t.2<=i/\Bs t.1/\∀ r:Nat,r<12->(bt t.1 r=true↔∃ s:Nat,(s:Int)<t.2/\M i.toNat s/\gl l s=(r:Int))) (λt=>(i-t.2).toNat) ⟨by simp,by simp only; omega,⟨by decide,by decide⟩,λr hr=>⟨λh=>by unfold bt at h; simp at h,λ⟨s,h1,_⟩=>by simp only at h1; omega⟩⟩ λt ht=>?_) λu ⟨u1,u2⟩=>?_
 ·obtain ⟨u,j⟩:=t
  obtain ⟨k0,k1,k2,k3⟩:=ht
  simp only at k0 k1 k2 k3
  unfold mo
  refine .sel (λhj=>?_) λhj=>.inr ⟨k2,λr hr=>?_⟩
  ·simp only [decide_eq_true_eq] at hj
   dsimp only
   have hjr:Rg j:=by unfold Rg; omega
   have ej:((j.toNat:Nat):Int)=j:=by omega
   obtain ⟨p1,p2,_⟩:=g3 j.toNat (by omega)
   have hpr:Rg (gl l j.toNat):=by unfold Rg; omega
   rw [hg,ob9,wW hMi.1 hjr,ob9,aq k0 (by omega)]
   refine .bind (P:=λv=>Bs v/\∀ r:Nat,r<12->(bt v r=true↔∃ s:Nat,(s:Int)<j+1/\M i.toNat s/\gl l s=(r:Int))) (.sel (λhh=>?_) λhh=>.pure ⟨k2,λr hr=>?_⟩) λv hv=>.inl ⟨⟨by simp only; omega,by simp only; omega,hv⟩,by simp only; omega⟩
   ·have hMj:=(hMi.2 j.toNat (by omega)).1 hh
    obtain ⟨D,eD,D1,D2⟩:=py hpr
    rw [vx k0 (by rw [g2]; omega),ob9,eD,ob9]
    obtain ⟨o1,o2⟩:=wy k2 D1
    refine .pure ⟨o1,λr hr=>?_⟩
    rw [o2,Bool.or_eq_true,k3 r hr,D2,beq_iff_eq]
    constructor
    ·rintro (⟨s,h1,h2,h3⟩ | h1)
     ·exact ⟨s,by omega,h2,h3⟩
     ·exact ⟨j.toNat,by omega,hMj,h1.symm⟩
    ·rintro ⟨s,h1,h2,h3⟩
     by_cases e:s=j.toNat
     ·subst e; exact .inr h3.symm
     ·exact .inl ⟨s,by omega,h2,h3⟩
   ·have hMj:¬ M i.toNat j.toNat:=λhm=>by rw [(hMi.2 j.toNat (by omega)).2 hm] at hh; cases hh
    rw [k3 r hr]
    constructor
    ·rintro ⟨s,h1,h2,h3⟩; exact ⟨s,by omega,h2,h3⟩
    ·rintro ⟨s,h1,h2,h3⟩
     by_cases e:s=j.toNat
     ·subst e; exact absurd h2 hMj
     ·exact ⟨s,by omega,h2,h3⟩
  ·simp only [decide_eq_false_iff_not] at hj
   show bt u r=true↔_
   rw [k3 r hr]
   constructor
   ·rintro ⟨s,h1,h2,h3⟩; exact ⟨s,by omega,h2,h3⟩
   ·rintro ⟨s,h1,h2,h3⟩; exact ⟨s,by omega,h2,h3⟩
 ·have hfree:bt u i.toNat=false:=by
   cases hb:bt u i.toNat
   ·rfl
   ·obtain ⟨s,s1,s2,s3⟩:=(u2 i.toNat hin).1 hb
    have:=(g3 s s1).2.1
    omega
  refine .bind (P:=λz:List Int=>∃ p:Int,0<=p/\p<=i/\z=l.set i.toNat p/\bt u p.toNat=false/\∀ x:Nat,(x:Int)<p->bt u x=true) (.iter (λt=>∃ p:Int,0<=p/\p<=i/\t=l.set i.toNat p/\∀ x:Nat,(x:Int)<p->bt u x=true) (λt=>(12-gl t i.toNat).toNat) ⟨0,by omega,g0,?_,λx hx=>by omega⟩ λt ht=>?_) λz hz=>?_
  ·exact List.ext_getElem? λj=>by
    by_cases e:j=i.toNat
    ·subst e
     have h4:=g4 i.toNat (by omega)
     unfold gl at h4
     rw [List.getElem?_set_self (by omega)]
     rw [List.getElem?_eq_getElem (show i.toNat<l.length by omega),Option.getD_some] at h4
     rw [List.getElem?_eq_getElem (show i.toNat<l.length by omega),h4]
    ·rw [List.getElem?_set_ne (λh=>e h.symm)]
  ·obtain ⟨p,p0,p1,rfl,p2⟩:=ht
   have hil:i.toNat<l.length:=by omega
   have hgi:nth (l.set i.toNat p) i=some p:=by
    rw [vx g0 (by rw [List.length_set]; omega),pD hil,if_pos rfl]
   unfold mp
   dsimp only
   have hpr:Rg p:=by unfold Rg; omega
   rw [hgi,ob9,wW u1 hpr,ob9]
   refine .sel (λhh=>?_) λhh=>.inr ⟨p,p0,p1,rfl,hh,p2⟩
   have hpi:p≠i:=λe=>by rw [e,hfree] at hh; cases hh
   rw [ob9,ob9,aq p0 (by omega)]
   refine .bind (.upd g0 (by rw [List.length_set]; omega)) λr2 hr2=>.inl ⟨⟨p+1,by omega,by omega,by rw [hr2,List.set_set],λx hx=>?_⟩,?_⟩
   ·by_cases e:(x:Int)=p
    ·rw [show p.toNat=x by omega] at hh; exact hh
    ·exact p2 x (by omega)
   ·rw [hr2,List.set_set,pD hil,if_pos rfl,pD hil,if_pos rfl]
    omega
  ·obtain ⟨p,p0,p1,rfl,p2,p3⟩:=hz
   have hil:i.toNat<l.length:=by omega
   rw [aq g0 (by omega)]
   refine .inl ⟨⟨by simp only; omega,by simp only; omega,by simp only; rw [List.length_set]; exact g2,?_,λk hk=>?_⟩,by simp only; omega⟩
   ·simp only
    rw [show (i+1).toNat=i.toNat+1 by omega]
    intro m' hm'
    by_cases e:m'=i.toNat
    ·subst e
     rw [pD hil,if_pos rfl]
     refine ⟨p0,by omega,λs hs hMs=>?_,λx hx0 hx1=>?_⟩
     ·rw [pD hil,if_neg (by omega)]
      intro he
      rw [(u2 p.toNat (by omega)).2 ⟨s,hs,hsy _ _ hMs,by omega⟩] at p2
      cases p2
     ·obtain ⟨s,s1,s2,s3⟩:=(u2 x.toNat (by omega)).1 (p3 x.toNat (by omega))
      exact ⟨s,s1,hsy _ _ s2,by rw [pD hil,if_neg (by omega)]; omega⟩
    ·have hlt:m'<i.toNat:=by omega
     have:=(g3.congr (p':=gl (l.set i.toNat p)) λk hk=>by rw [pD hil,if_neg (by omega)]) m' hlt
     exact this
   ·simp only at hk ⊢
    rw [pD hil,if_neg (by omega)]
    exact g4 k (by omega)
theorem Bi {q:ab} {m:Int} (hq:QOk m q) (hm:m<=600) {l:List Bool} {g:Nat->Bool} (hl:Fn l g) {r s:Nat} (hs:s<12):Tot (iO q l r s) λb=>b=true↔Clh q g r s:=by
 unfold iO Clh
 rw [vo hq hm,ob9,show nth l (s:Int)=some (g s) by unfold nth; rw [if_neg (by omega),show ((s:Nat):Int).toNat=s by omega]; exact hl.2 s hs,ob9]
 refine .bind (P:=λb=>b=false↔(aH q=(r:Int)/\g s=true)) (.sel (λh=>.pure ?_) λh=>.pure ?_) λb hb=>.sel (λh=>.pure ?_) λh=>.pure ?_
 ·have:aH q≠(r:Int):=by simpa using h
  simp [this]
 ·have:aH q=(r:Int):=by simpa using h
  simp [this]
 ·refine ⟨λh=>(by cases h),λhh=>?_⟩
  rw [hb.2 ⟨hh.1,hh.2.1⟩] at h
  cases h
 ·have hb':=hb.1 h
  simp only [Bool.or_eq_true,bne_iff_ne,ne_eq]
  refine ⟨λh=>⟨hb'.1,hb'.2,λhh=>h.elim (λh=>h hh.1) λh=>h hh.2⟩,λh=>?_⟩
  by_cases e:q.Op=2
  ·exact .inr λe2=>h.2.2 ⟨e,e2⟩
  ·exact .inl e
def AF (eQ:List ab) (l:List (List Bool)) (af:List (List Bool)):Prop:=af.length=eQ.length/\∀ (i:Nat) q,eQ[i]?=some q->∃ f,af[i]?=some f/\Fn f (fj l q i)
theorem B5 {eQ:List ab} (hc:COk eQ) {l:List (List Bool)} (hl:eO eQ=some l) (hB:rT eQ.length l):Tot (kD eQ) λaf=>AF eQ l af:=by
 have hmx:=hc.max
 unfold kD
 rw [hl,ob9]
 refine .bind (P:=λaf=>AF eQ l af) (.iter (λs=>0<=s.2/\s.2<=(eQ.length:Int)/\s.1.length=s.2.toNat/\∀ (i:Nat) q,(i:Int)<s.2->eQ[i]?=some q->∃ f,s.1[i]?=some f/\Fn f (fj l q i)) (λs=>((eQ.length:Int)-s.2).toNat) ⟨by simp,by simp,by simp,λi q hi=>by simp only at hi; omega⟩ λs hs=>?_) λz hz=>.pure hz
 obtain ⟨af,i⟩:=s
 obtain ⟨g0,g1,g2,g3⟩:=hs
 simp only at g0 g1 g2 g3
 unfold mv
 refine .sel (λh=>?_) λh=>.inr ⟨?_,λj q hj=>g3 j q ?_ hj⟩
 ·simp only [decide_eq_true_eq] at h
  obtain ⟨q,hq⟩:∃ q,eQ[i.toNat]?=some q:=⟨_,List.getElem?_eq_getElem (by omega)⟩
  refine .bind (ny hc hB g0 hq) λf hf=>.bind (.app (by simp; omega)) λr hr=>.inl ?_
  rw [aq g0 (by omega)]
  subst hr
  refine ⟨⟨by simp only; omega,by simp only; omega,by simp only [List.length_append,List.length_singleton]; omega,λj q' hj hq'=>?_⟩,by simp only; omega⟩
  simp only at hj ⊢
  by_cases e:(j:Int)<i
  ·rw [List.getElem?_append_left (by omega)]
   exact g3 j q' e hq'
  ·obtain rfl:j=i.toNat:=by omega
   obtain rfl:=o9 (hq.symm.trans hq')
   exact ⟨f,by rw [List.getElem?_append_right (by omega),show i.toNat-af.length=0 by omega]; rfl,by rw [show ((i.toNat:Nat):Int)=i by omega]; exact hf⟩
 ·simp only [decide_eq_false_iff_not] at h
  show af.length=eQ.length
  omega
 ·simp only [decide_eq_false_iff_not] at h
  have:=bV hj
  omega
theorem Dj {eQ:List ab} (hc:COk eQ) {l af:List (List Bool)} (ha:AF eQ l af) {r s:Nat} (hr:r<12) (hs:s<12):Tot (lU eQ af r s) λb=>b=true↔MT eQ l eQ.length r s:=by
 have hmx:=hc.max
 unfold lU
 refine .sel (λh=>.pure ⟨λh=>(by cases h),λhh=>?_⟩) λh=>?_
 ·have:(r:Int)=s:=by simpa using h
  exact absurd (by omega) hh.1
 have hne:r≠s:=by
  have:(r:Int)≠s:=by simpa using h
  omega
 refine .bind (P:=λz:Bool⊕Unit=>match z with | .inl b=>b=true/\MT eQ l eQ.length r s | .inr _=>¬ MT eQ l eQ.length r s) (.iter (λi:Int=>0<=i/\i<=(eQ.length:Int)/\¬ MT eQ l i.toNat r s) (λi=>((eQ.length:Int)-i).toNat) ⟨by omega,by omega,λ⟨_,i,q,h1,_⟩=>by simp at h1⟩ λi ⟨g0,g1,g2⟩=>?_) λz hz=>.both (λb e=>by subst e; exact .pure ⟨λ_=>hz.2,λ_=>hz.1⟩) λu e=>by subst e; exact .pure ⟨λh=>(by cases h),λh=>absurd h hz⟩
 unfold mR
 refine .sel (λh=>?_) λh=>.inr ?_
 ·simp only [decide_eq_true_eq] at h
  obtain ⟨q,hq⟩:∃ q,eQ[i.toNat]?=some q:=⟨_,List.getElem?_eq_getElem (by omega)⟩
  have ei:((i.toNat:Nat):Int)=i:=by omega
  have hqok:=hc.q q (List.mem_of_getElem? hq)
  obtain ⟨f,ef,hf⟩:=ha.2 i.toNat q hq
  have ef':nth af i=some f:=by unfold nth; rw [if_neg (by omega)]; exact ef
  rw [show nth eQ i=some q by unfold nth; rw [if_neg (by omega)]; exact hq,ob9,ef',ob9,aq g0 (by omega)]
  refine .bind (Bi hqok (by omega) hf (r:=r) hs) λb hb=>.bind (P:=λb=>b=true↔(Clh q (fj l q i.toNat) r s\/Clh q (fj l q i.toNat) s r)) (.sel (λh=>.pure ?_) λh=>?_) λb hb=>.sel (λh=>.inr ⟨rfl,hne,i.toNat,q,by omega,hq,hb.1 h⟩) λh=>.inl ⟨⟨by omega,by omega,?_⟩,by omega⟩
  ·exact ⟨λ_=>.inl (hb.1 h),λ_=>rfl⟩
  ·rw [ob9,ob9]
   refine .bind (Bi hqok (by omega) hf (r:=s) hr) λb2 hb2=>.pure ⟨λh2=>.inr (hb2.1 h2),λh2=>hb2.2 (h2.resolve_left λh3=>by rw [hb.2 h3] at h; cases h)⟩
  ·rw [show (i+1).toNat=i.toNat+1 by omega,MT.succ hq]
   exact λhh=>hh.elim g2 λhh=>by rw [hb.2 hh.2] at h; cases h
 ·simp only [decide_eq_false_iff_not] at h
  show ¬ MT eQ l eQ.length r s
  rw [show i.toNat=eQ.length by omega] at g2
  exact g2
theorem CQ {eQ:List ab} (hc:COk eQ) {l af:List (List Bool)} (ha:AF eQ l af) {pl:List Int} (hp:PLs (MT eQ l eQ.length) (gl pl) pl.length) (hl:pl.length<12):Tot (kE eQ af pl) λp=>0<=p/\p<=pl.length/\(∀ s,s<pl.length->MT eQ l eQ.length s pl.length->gl pl s≠p)/\∀ x:Int,0<=x->x<p->∃ s,s<pl.length/\MT eQ l eQ.length s pl.length/\gl pl s=x:=by
 have key:∀ p:Int,0<=p->Tot (aO (jW eQ af pl p) (true,0)) λb=>b=true↔∀ s,s<pl.length->MT eQ l eQ.length s pl.length->gl pl s≠p:=λp p0=>by
  refine .iter (λt=>0<=t.2/\t.2<=(pl.length:Int)/\(t.1=true↔∀ s:Nat,(s:Int)<t.2->MT eQ l eQ.length s pl.length->gl pl s≠p)) (λt=>((pl.length:Int)-t.2).toNat) ⟨by simp,by simp,λ_ s hs=>by simp only at hs; omega,λ_=>rfl⟩ λt ht=>?_
  obtain ⟨b,j⟩:=t
  obtain ⟨g0,g1,g2⟩:=ht
  simp only at g0 g1 g2
  unfold jW
  refine .sel (λh=>?_) λh=>.inr ?_
  ·simp only [decide_eq_true_eq] at h
   have ej:((j.toNat:Nat):Int)=j:=by omega
   rw [vx g0 h,ob9,aq g0 (by omega)]
   refine .bind (P:=λz=>z=true↔∀ s:Nat,(s:Int)<j+1->MT eQ l eQ.length s pl.length->gl pl s≠p) (.bind (P:=λz=>z=true↔(gl pl j.toNat=p/\MT eQ l eQ.length j.toNat pl.length)) (.sel (λhh=>?_) λhh=>.pure ?_) λz hz=>.sel (λhh=>.pure ?_) λhh=>.pure ?_) λz hz=>.inl ⟨⟨by simp only; omega,by simp only; omega,hz⟩,by simp only; omega⟩
   ·have hh':gl pl j.toNat=p:=by simpa using hh
    have:=Dj hc ha (r:=j.toNat) (s:=pl.length) (by omega) hl
    rw [ej] at this
    exact .bind this λz hz=>.pure ⟨λh=>⟨hh',hz.1 h⟩,λh=>hz.2 h.2⟩
   ·have hh':gl pl j.toNat≠p:=by simpa using hh
    exact ⟨λh=>(by cases h),λh=>absurd h.1 hh'⟩
   ·obtain ⟨h1,h2⟩:=hz.1 hh
    exact ⟨λh=>(by cases h),λh=>absurd h1 (h j.toNat (by omega) h2)⟩
   ·simp only
    rw [g2]
    constructor
    ·intro h s hs hM
     by_cases e:s=j.toNat
     ·subst e
      intro he
      rw [hz.2 ⟨he,hM⟩] at hh
      cases hh
     ·exact h s (by omega) hM
    ·exact λh s hs=>h s (by omega)
  ·simp only [decide_eq_false_iff_not] at h
   show b=true↔_
   rw [g2]
   exact ⟨λh s hs=>h s (by omega),λh s hs=>h s (by omega)⟩
 unfold kE
 refine .bind (P:=λz:Int⊕Unit=>match z with | .inl p=>0<=p/\p<=(pl.length:Int)/\(∀ s,s<pl.length->MT eQ l eQ.length s pl.length->gl pl s≠p)/\∀ x:Int,0<=x->x<p->∃ s,s<pl.length/\MT eQ l eQ.length s pl.length/\gl pl s=x | .inr _=>∀ x:Int,0<=x->x<pl.length->∃ s,s<pl.length/\MT eQ l eQ.length s pl.length/\gl pl s=x) (.iter (λp:Int=>0<=p/\p<=(pl.length:Int)/\∀ x:Int,0<=x->x<p->∃ s,s<pl.length/\MT eQ l eQ.length s pl.length/\gl pl s=x) (λp=>((pl.length:Int)-p).toNat) ⟨by omega,by omega,λx h0 h1=>by omega⟩ λp ⟨g0,g1,g2⟩=>?_) λz hz=>.both (λp e=>by subst e; exact .pure hz) λu e=>by subst e; exact .pure ⟨by omega,by omega,λs hs hM=>by have:=(hp s hs).2.1; omega,hz⟩
 unfold mw
 refine .sel (λh=>?_) λh=>.inr λx h0 h1=>g2 x h0 (by simp only [decide_eq_false_iff_not] at h; omega)
 simp only [decide_eq_true_eq] at h
 rw [aq g0 (by omega)]
 refine .bind (key p g0) λb hb=>.sel (λhh=>.inr ⟨g0,by omega,hb.1 hh,g2⟩) λhh=>.inl ⟨⟨by omega,by omega,λx h0 h1=>?_⟩,by omega⟩
 by_cases e:x=p
 ·subst e
  refine Classical.byContradiction λhno=>?_
  rw [hb.2 λs hs hM he=>hno ⟨s,hs,hM,he⟩] at hh
  cases hh
 ·exact g2 x h0 (by omega)
theorem B6 {eQ:List ab} (hc:COk eQ) {l:List (List Bool)} (hl:eO eQ=some l) (hB:rT eQ.length l):Tot (iP eQ) λpl=>pl.length=12/\PLs (MT eQ l eQ.length) (gl pl) 12:=by
 unfold iP
 rw [aU hc,ob9]
 refine .sf rfl (.bind (B5 hc hl hB) λaf ha=>.bind (P:=λpl:List Int=>pl.length=12/\PLs (MT eQ l eQ.length) (gl pl) 12) (.iter (λs=>0<=s.2/\s.2<=12/\(s.1.length:Int)=s.2/\PLs (MT eQ l eQ.length) (gl s.1) s.1.length) (λs=>(12-s.2).toNat) ⟨by simp,by simp,by simp,λm hm=>by simp at hm⟩ λs hs=>?_) λz hz=>.pure hz)
 obtain ⟨pl,i⟩:=s
 obtain ⟨g0,g1,g2,g3⟩:=hs
 simp only at g0 g1 g2 g3
 unfold mx
 refine .sel (λh=>?_) λh=>.inr ?_
 ·simp only [decide_eq_true_eq] at h
  have hlt12:pl.length<12:=by omega
  refine .bind (CQ hc ha g3 hlt12) λp ⟨p0,p1,p2,p3⟩=>.bind (.app (by simp; omega)) λr hr=>.inl ?_
  rw [aq g0 (by omega)]
  subst hr
  refine ⟨⟨by simp only; omega,by simp only; omega,by simp only [List.length_append,List.length_singleton]; omega,?_⟩,by simp only; omega⟩
  simp only [List.length_append,List.length_singleton]
  have hcg:PLs (MT eQ l eQ.length) (gl (pl++[p])) pl.length:=g3.congr λm hm=>by rw [w6,if_neg (by omega)]
  intro m hm
  by_cases e:m=pl.length
  ·subst e
   rw [w6,if_pos rfl]
   refine ⟨p0,p1,λs hs hM=>by rw [w6,if_neg (by omega)]; exact p2 s hs hM,λx h0 h1=>?_⟩
   obtain ⟨s,s1,s2,s3⟩:=p3 x h0 h1
   exact ⟨s,s1,s2,by rw [w6,if_neg (Nat.ne_of_lt s1)]; exact s3⟩
  ·exact hcg m (by omega)
 ·simp only [decide_eq_false_iff_not] at h
  have:pl.length=12:=by omega
  rw [this] at g3
  exact ⟨this,g3⟩
theorem zY {eQ:List ab} (hc:COk eQ):∃ pl,iL eQ=some pl/\iP eQ=some pl/\pl.length=12/\gl pl 0=0/\∀ r,r<12->Rg (gl pl r):=by
 obtain ⟨b,l,eb,el,hL⟩:=Ce hc
 obtain ⟨pl,ep,h1,h2⟩:=B4 hc (λr s h=>MT.symm h) (zX hc eb hL)
 obtain ⟨pl',ep',h1',h2'⟩:=B6 hc el hL.ok
 have hu:=h2.uniq h2'
 have e:pl=pl':=List.ext_getElem? λi=>by
  rcases Nat.lt_or_ge i 12 with hi | hi
  ·have:=hu i hi
   unfold gl at this
   rw [List.getElem?_eq_getElem (by omega),List.getElem?_eq_getElem (by omega)] at this ⊢
   simp only [Option.getD_some] at this
   rw [this]
  ·rw [List.getElem?_eq_none (by omega),List.getElem?_eq_none (by omega)]
 subst e
 refine ⟨pl,ep,ep',h1,?_,λr hr=>?_⟩
 ·have:=h2 0 (by decide)
  omega
 ·have:=h2 r hr
  unfold Rg
  omega
end
noncomputable section
def rnQ (q:ab) (pl:List Int):ab:=⟨q.Op,gl pl q.Dst.toNat,gl pl q.A.toNat,gl pl q.B.toNat,q.N⟩
theorem Ch {q:ab} {m:Int} (h:QOk m q):Rg q.Dst/\Rg q.A/\Rg q.B/\(aH q<0->q.Dst=0)/\(¬ (q.Op=2\/q.Op=5\/q.Op=6\/q.Op=9)->q.Op≠3->q.A=0)/\(q.Op≠3->q.B=0):=by
 unfold QOk at h
 unfold aH
 rcases h with h | h | h | h | h | h | h | h | h
 all_goals
  simp only [Rg] at h ⊢
  refine ⟨by omega,by omega,by omega,?_,by omega,by omega⟩
  split <;> omega
theorem Dk {q:ab} {m:Int} (h:QOk m q) {pl:List Int} (h0:gl pl 0=0) (hp:∀ r,r<12->Rg (gl pl r)):QOk m (rnQ q pl):=by
 have hr:∀ x,Rg x->Rg (gl pl x.toNat):=λx hx=>hp _ (by unfold Rg at hx; omega)
 have hz:∀ x:Int,x=0->gl pl x.toNat=0:=λx hx=>by rw [hx]; exact h0
 unfold QOk at h ⊢
 unfold rnQ
 simp only
 rcases h with h | h | h | h | h | h | h | h | h
 ·exact .inl ⟨h.1,hr _ h.2.1,hz _ h.2.2.1,hz _ h.2.2.2.1,h.2.2.2.2⟩
 ·exact .inr (.inl ⟨h.1,hr _ h.2.1,hr _ h.2.2.1,hz _ h.2.2.2.1,h.2.2.2.2⟩)
 ·exact .inr (.inr (.inl ⟨h.1,hr _ h.2.1,hr _ h.2.2.1,hr _ h.2.2.2.1,h.2.2.2.2⟩))
 ·exact .inr (.inr (.inr (.inl ⟨h.1,hz _ h.2.1,hz _ h.2.2.1,hz _ h.2.2.2.1,h.2.2.2.2⟩)))
 ·exact .inr (.inr (.inr (.inr (.inl ⟨h.1,hz _ h.2.1,hr _ h.2.2.1,hz _ h.2.2.2.1,h.2.2.2.2⟩))))
 ·exact .inr (.inr (.inr (.inr (.inr (.inl ⟨h.1,hz _ h.2.1,hr _ h.2.2.1,hz _ h.2.2.2.1,h.2.2.2.2⟩)))))
 ·exact .inr (.inr (.inr (.inr (.inr (.inr (.inl ⟨h.1,hr _ h.2.1,hz _ h.2.2.1,hz _ h.2.2.2.1,h.2.2.2.2⟩))))))
 ·exact .inr (.inr (.inr (.inr (.inr (.inr (.inr (.inl ⟨h.1,hz _ h.2.1,hr _ h.2.2.1,hz _ h.2.2.2.1,h.2.2.2.2⟩)))))))
 ·exact .inr (.inr (.inr (.inr (.inr (.inr (.inr (.inr ⟨h.1,hz _ h.2.1,hz _ h.2.2.1,hz _ h.2.2.2.1,h.2.2.2.2⟩)))))))
theorem B7 {q:ab} {m:Int} (hq:QOk m q) (hm:m<=600) {pl:List Int} (hl:pl.length=12) (h0:gl pl 0=0):jz q pl=some (rnQ q pl):=by
 obtain ⟨rD,rA,rB,zD,zA,zB⟩:=Ch hq
 have hn:∀ x,Rg x->nth pl x=some (gl pl x.toNat):=λx hx=>by unfold Rg at hx; exact vx (by omega) (by omega)
 have hz:∀ x:Int,x=0->x=gl pl x.toNat:=λx hx=>by rw [hx]; exact h0.symm
 refine Tot.eq ?_
 unfold jz rnQ
 rw [vo hq hm,ob9]
 refine .bind (P:=λz=>z=ab.mk q.Op (gl pl q.Dst.toNat) q.A q.B q.N) (.sel (λh=>?_) λh=>.pure ?_) λz hz'=>?_
 ·rw [hn _ rD,ob9]; exact .pure rfl
 ·rw [<-hz q.Dst (zD (by simpa using h))]
 ·subst hz'
  simp only
  refine .bind (P:=λb=>b=true↔(q.Op=2\/q.Op=5\/q.Op=6\/q.Op=9)) (.sel (λh=>.pure ?_) λh=>.sel (λh'=>.pure ?_) λh'=>.sel (λh''=>.pure ?_) λh''=>.pure ?_) λb hb=>.sel (λhbt=>?_) λhbf=>.sel (λh=>?_) λh=>.pure ?_
  ·simp only [beq_iff_eq] at *; simp [h]
  ·simp only [beq_iff_eq] at *; simp [h']
  ·simp only [beq_iff_eq] at *; simp [h'']
  ·simp only [beq_eq_false_iff_ne,ne_eq] at *; simp [h,h',h'']
  ·have hb':=hb.1 hbt
   rw [hn _ rA,ob9,<-hz q.B (zB (by omega))]
   exact .pure rfl
  ·rw [hn _ rA,ob9,hn _ rB,ob9]
   exact .pure rfl
  ·have h3:q.Op≠3:=by simpa using h
   rw [<-hz q.B (zB h3),<-hz q.A (zA (λhh=>by rw [hb.2 hh] at hbf; cases hbf) h3)]
theorem COk.rn {eQ:List ab} (hc:COk eQ) {pl:List Int} (h0:gl pl 0=0) (hp:∀ r,r<12->Rg (gl pl r)):COk (eQ.map λq=>rnQ q pl):=hc.alike ⟨by simp,λi q' hq'=>by
 rw [List.getElem?_map] at hq'
 cases hq:eQ[i]? with
 | none=>rw [hq] at hq'; cases hq'
 | some q =>
  rw [hq] at hq'
  obtain rfl:=o9 hq'
  exact ⟨q,rfl,Dk (hc.q q (List.mem_of_getElem? hq)) h0 hp,id⟩⟩
theorem Bj:my fc gL:=λ{eQ} hc=>by
 have hmx:=hc.max
 obtain ⟨pl,e1,e2,hl,h0,hp⟩:=zY hc
 have hn:∀ x,Rg x->nth pl x=some (gl pl x.toNat):=λx hx=>by unfold Rg at hx; exact vx (by omega) (by omega)
 have A:Tot (aO (fQ eQ pl) (0,eQ)) λout=>out.length=eQ.length/\∀ (i:Nat) (q':ab),out[i]?=some q'->∃ q,eQ[i]?=some q/\q'=rnQ q pl:=by
  refine pB (λ(i:Nat) (q':ab)=>∃ q,eQ[i]?=some q/\q'=rnQ q pl) hmx (λi out q g0 g1 g2 hq ho=>?_) λout=>?_
  ·unfold fQ
   dsimp only
   obtain ⟨rD,rA,rB,_⟩:=Ch (hc.q q (List.mem_of_getElem? hq))
   have hil:i.toNat<out.length:=by omega
   have up:∀ (v:ab) (o:List ab),o.length=out.length->X.upd o i v=some (o.set i.toNat v):=λv o h=>by unfold X.upd; rw [if_pos (by omega)]
   have nt:∀ (v:ab),nth (out.set i.toNat v) i=some v:=λv=>by unfold nth; rw [if_neg (by omega),List.getElem?_set_self hil]
   refine .st (by simpa using g1) ?_
   rw [show nth eQ i=some q by unfold nth; rw [if_neg (by omega)]; exact hq,ob9,hn _ rD,ob9,hn _ rA,ob9,hn _ rB,ob9,show nth out i=some q by unfold nth; rw [if_neg (by omega)]; exact ho,ob9,up _ _ rfl,ob9,nt,ob9,up _ _ (by rw [List.length_set]),ob9,List.set_set,nt,ob9,up _ _ (by rw [List.length_set]),ob9,List.set_set,aq g0 (by omega)]
   exact .pure ⟨_,rfl,q,hq,rfl⟩
  ·unfold fQ; rw [aM (by simp)]
 have B:Tot (aO (fX eQ pl) ([],0)) λout=>out.length=eQ.length/\∀ (i:Nat) (q':ab),out[i]?=some q'->∃ q,eQ[i]?=some q/\q'=rnQ q pl:=by
  refine lX (n:=eQ.length) (λ(i:Nat) (q':ab)=>∃ q,eQ[i]?=some q/\q'=rnQ q pl) hmx (λi out g0 g1 g2=>?_) λout=>?_
  ·unfold fX
   dsimp only
   obtain ⟨q,hq⟩:∃ q,eQ[i.toNat]?=some q:=⟨_,List.getElem?_eq_getElem (by omega)⟩
   refine .st (by simpa using g1) ?_
   rw [show nth eQ i=some q by unfold nth; rw [if_neg (by omega)]; exact hq,ob9,B7 (hc.q q (List.mem_of_getElem? hq)) (by omega) hl h0,ob9]
   exact .bind (.app (by simp; omega)) λr hr=>.inl ⟨_,by rw [aq g0 (by omega),hr],q,hq,rfl⟩
  ·unfold fX; rw [aM (by simp)]
 obtain ⟨a,ea,ha⟩:=A
 obtain ⟨b,eb,hb⟩:=B
 have hab:=oe ha hb λi q q' ⟨x,hx,h⟩ ⟨x',hx',h'⟩=>by
  obtain rfl:=o9 (hx.symm.trans hx')
  rw [h,h']
 have hm:a=eQ.map λq=>rnQ q pl:=List.ext_getElem? λi=>by
  rw [List.getElem?_map]
  rcases Nat.lt_or_ge i eQ.length with h | h
  ·have h1:a[i]?=some (a[i]'(by rw [ha.1]; exact h)):=List.getElem?_eq_getElem (by rw [ha.1]; exact h)
   obtain ⟨q,hq,e⟩:=ha.2 i _ h1
   rw [h1,hq,e]
   rfl
  ·rw [List.getElem?_eq_none (by rw [ha.1]; exact h),List.getElem?_eq_none h]
   rfl
 refine ⟨a,?_,?_,by rw [hm]; exact hc.rn h0 hp,by rw [ha.1]; exact Nat.le_refl _⟩
 ·unfold fc
  rw [lY hc,ob9,bD (show (!true)=false from rfl),e1,ob9,oh eQ hmx,ob9,ea]
  rfl
 ·unfold gL
  rw [aU hc,ob9,bD (show (!true)=false from rfl),e2,ob9,eb,hab]
  rfl
theorem B8 {eQ:List ab} (hc:COk eQ) (t i:Int) (hi:i<t):∃ r,bL t (eQ,i)=some (.inl (r,w64 (i+1)))/\bM t (eQ,i)=some (.inl (r,w64 (i+1)))/\COk r/\r.length<=eQ.length:=by
 obtain ⟨r1,a1,b1,c1,d1⟩:=BV hc
 obtain ⟨r2,a2,b2,c2,d2⟩:=B3 c1
 obtain ⟨r3,a3,b3,c3,d3⟩:=BS c2
 obtain ⟨r4,a4,b4,c4,d4⟩:=BT c3
 obtain ⟨r5,a5,b5,c5,d5⟩:=yC c4
 refine ⟨r5,?_,?_,c5,by omega⟩
 ·unfold bL
  simp only [a1,a2,a3,a4,a5,ob9]
  rw [dX (by simpa using hi)]
  rfl
 ·unfold bM m9
  simp only [b1,b2,b3,b4,b5,ob9]
  rw [dX (by simpa using hi)]
theorem xL {eQ:List ab} (hc:COk eQ) {t:Int} (h0:0<=t) (h4:t<=4):∃ r,bW eQ t=some (r,true)/\co eQ t=some (r,true)/\COk r/\r.length<=eQ.length:=by
 have hmx:=hc.max
 have A:Tot (aO (bL t) (eQ,0)) λz=>∃ r,z=.inr r/\aO (bM t) (eQ,0)=some r/\COk r/\r.length<=eQ.length:=by
  have key:∀ (k:Nat) (c:List ab) (i:Int),0<=i->i<=t->(t-i).toNat=k->COk c->∃ r,aO (bL t) (c,i)=some (.inr r)/\aO (bM t) (c,i)=some r/\COk r/\r.length<=c.length:=λk=>by
   induction k with
   | zero =>
    intro c i g0 g1 hk hcc
    refine ⟨c,?_,?_,hcc,Nat.le_refl _⟩
    ·rw [dg,show bL t (c,i)=some (.inr (.inr c)) by unfold bL; exact bD (by simp; omega)]
    ·rw [dg,show bM t (c,i)=some (.inr c) by unfold bM; exact bD (by simp; omega)]
   | succ k ih =>
    intro c i g0 g1 hk hcc
    obtain ⟨r,e1,e2,h1,h2⟩:=B8 hcc t i (by omega)
    rw [aq g0 (by omega)] at e1 e2
    obtain ⟨r',f1,f2,f3,f4⟩:=ih r (i+1) (by omega) (by omega) (by omega) h1
    exact ⟨r',by rw [dg,e1]; exact f1,by rw [dg,e2]; exact f2,f3,by omega⟩
  obtain ⟨r,e1,e2,h1,h2⟩:=key t.toNat eQ 0 (by omega) h0 (by simp) hc
  exact ⟨_,e1,r,rfl,e2,h1,h2⟩
 obtain ⟨z,ez,r,rfl,es,h1,h2⟩:=A
 refine ⟨r,?_,?_,h1,h2⟩
 ·unfold bW
  rw [lY hc,ob9,bD (by simp; omega),oh eQ hmx,ob9,ez]
  rfl
 ·unfold co
  rw [aU hc,ob9,bD (show (!true)=false from rfl)]
  have h6:aY t 0 4=some true:=by unfold aY; simp; omega
  rw [h6,ob9,ob9,bD (show (!true)=false from rfl)]
  obtain ⟨r0,e0,hr0⟩:=Tot.app (bytes:=40) (l:=([]:List ab)) (m:=eQ) (by simp; omega)
  rw [List.nil_append] at hr0
  rw [e0,ob9,hr0,es]
  rfl
theorem w7 {eQ:List ab} (hl:eQ.length<=4611686018427387904) {t:Int} (h:¬ COk eQ\/t<0\/4<t):bW eQ t=some ([],false)/\co eQ t=some ([],false):=by
 have hv:∃ b,bn eQ=some b/\aV eQ=some b/\(b=true->COk eQ):=by
  rcases nY eQ hl with ⟨h1,h2,h3⟩ | ⟨h1,h2,h3⟩
  ·exact ⟨true,h2,h3,λ_=>h1⟩
  ·exact ⟨false,h2,h3,λh=>by cases h⟩
 obtain ⟨b,e1,e2,hb⟩:=hv
 have h6:aY t 0 4=some (decide (0<=t)&&decide (t<=4)):=rfl
 constructor
 ·unfold bW
  rw [e1,ob9]
  refine dX ?_
  cases b
  ·rfl
  ·simp only [Bool.not_true,Bool.false_or,Bool.or_eq_true,decide_eq_true_eq]
   rcases h with h | h | h
   ·exact absurd (hb rfl) h
   ·exact .inl h
   ·exact .inr h
 ·unfold co
  rw [e2,ob9]
  cases b
  ·rw [dX (show (!false)=true from rfl),ob9,dX rfl]
  ·rw [bD (show (!true)=false from rfl),h6,ob9,ob9]
   refine dX ?_
   simp only [Bool.not_eq_true',Bool.and_eq_false_iff,decide_eq_false_iff_not]
   rcases h with h | h | h
   ·exact absurd (hb rfl) h
   ·exact .inl (by omega)
   ·exact .inr (by omega)
end
noncomputable section
theorem Dl {α:Type} {l:List α} (h:l.length=2):∃ a b,l=[a,b]:=by
 match l,h with
 | [a,b],_=>exact ⟨a,b,rfl⟩
theorem Ci {d:Nat} {e:Expr} {a b:Expr} (hl:e.Args=[a,b]) (h0:e.Op≠0) (h13:e.Op≠13):EOk (d+1) e↔(1<=e.Op/\e.Op<=12)/\e.N=0/\EOk d a/\EOk d b:=by
 constructor
 ·rintro (h | h | ⟨h1,h2,a',b',h3,h4,h5⟩)
  ·exact absurd h.1 h0
  ·exact absurd h.1 h13
  ·rw [hl] at h3
   injection h3 with h6 h7
   injection h7 with h7 _
   subst h6 h7
   exact ⟨h1,h2,h4,h5⟩
 ·rintro ⟨h1,h2,h4,h5⟩
  exact .inr (.inr ⟨h1,h2,a,b,hl,h4,h5⟩)
theorem vy:∀ (d k:Nat) (e:Expr) (dd:Int),d<k->dd=(d:Int)->d<=1000->Tot (lq k e dd) λb=>b=true↔EOk d e
 | 0,k+1,e,dd,_,hd,_=>by
  show Tot (fR k (lq k) e dd) _
  unfold fR
  exact .st (by simp; omega) (.pure ⟨λh=>(by cases h),λh=>h.elim⟩)
 | d+1,k+1,e,dd,hk,hd,hm=>by
  show Tot (fR k (lq k) e dd) _
  unfold fR
  refine .sf (by simp; omega) (.sel (λh=>?_) λh=>.sel (λh'=>?_) λh'=>?_)
  ·have h0:e.Op=0:=by simpa using h
   rw [m5,ob9]
   refine .pure ⟨λhh=>.inl ?_,λhh=>?_⟩
   ·simp at hh
    exact ⟨h0,by omega,by omega,hh.2⟩
   ·rcases hh with hh | hh | hh
    ·simp [hh.2.2.2]; omega
    ·omega
    ·omega
  ·have h13:e.Op=13:=by simpa using h'
   rw [m5,ob9]
   refine .pure ⟨λhh=>.inr (.inl ?_),λhh=>?_⟩
   ·simp at hh
    exact ⟨h13,by omega,by omega,hh.2⟩
   ·rcases hh with hh | hh | hh
    ·omega
    ·simp [hh.2.2.2]; omega
    ·omega
  ·have h0:e.Op≠0:=by simpa using h
   have h13:e.Op≠13:=by simpa using h'
   rw [oI,ob9,aE (by omega) (by omega)]
   by_cases hg:(1<=e.Op/\e.Op<=12)/\e.N=0/\e.Args.length=2
   ·obtain ⟨a,b,hl⟩:=Dl hg.2.2
    have e1:nth e.Args 0=some a:=by rw [hl]; rfl
    have e2:nth e.Args 1=some b:=by rw [hl]; rfl
    rw [Ci hl h0 h13,dX (by simp [hg.1,hg.2.1,hg.2.2]),e1,e2]
    simp only [ob9,Expr.eta']
    refine .bind (P:=λz=>z=true↔EOk d a) (.bind (vy d k a (dd-1) (by omega) (by omega) (by omega)) λz hz=>.pure hz) λz hz=>.bind (P:=λw=>w=true↔(EOk d a/\EOk d b)) (.sel (λhzt=>.bind (vy d k b (dd-1) (by omega) (by omega) (by omega)) λw hw=>.pure ⟨λh=>⟨hz.1 hzt,hw.1 h⟩,λh=>hw.2 h.2⟩) λhzf=>.pure ⟨λh=>(by cases h),λh=>?_⟩) λw hw=>.pure ⟨λh=>⟨hg.1,hg.2.1,hw.1 h⟩,λh=>hw.2 h.2.2⟩
    rw [hz.2 h.1] at hzf
    cases hzf
   ·rw [bD (by
     simp only [Bool.and_eq_false_iff,beq_eq_false_iff_ne,ne_eq,decide_eq_false_iff_not]
     by_cases a1:(1<=e.Op/\e.Op<=12)
     ·by_cases a2:e.N=0
      ·exact .inr (λa3=>hg ⟨a1,a2,by omega⟩)
      ·exact .inl (.inr a2)
     ·exact .inl (.inl a1)),ob9,bD rfl,ob9]
    refine .pure ⟨λh=>(by cases h),λhh=>?_⟩
    rcases hh with hh | hh | ⟨q1,q2,a,b,q3,_⟩
    ·exact absurd hh.1 h0
    ·exact absurd hh.1 h13
    ·exact absurd ⟨q1,q2,by rw [q3]; rfl⟩ hg
theorem s7:∀ (d k:Nat) (e:Expr) (dd:Int),d<k->dd=(d:Int)->d<=1000->Tot (ji k e dd) λb=>b=true↔EOk d e
 | d,k+1,e,dd,hk,hd,hm=>by
  show Tot (gx k (ji k) e dd) _
  unfold gx
  refine .sel (λh=>.pure ?_) λh=>.sel (λh'=>.pure ?_) λh'=>?_
  ·have h0:e.Op=0:=by simpa using h
   cases d with
   | zero=>simp [EOk]; omega
   | succ d =>
    simp only [Bool.and_eq_true,decide_eq_true_eq,beq_iff_eq]
    refine ⟨λhh=>.inl ⟨h0,by omega,by omega,List.eq_nil_of_length_eq_zero (by omega)⟩,λhh=>?_⟩
    rcases hh with hh | hh | hh
    ·refine ⟨⟨⟨hh.2.1,hh.2.2.1⟩,by simp [hh.2.2.2]⟩,by omega⟩
    ·omega
    ·omega
  ·have h13:e.Op=13:=by simpa using h'
   cases d with
   | zero=>simp [EOk]; omega
   | succ d =>
    simp only [Bool.and_eq_true,decide_eq_true_eq,beq_iff_eq]
    refine ⟨λhh=>.inr (.inl ⟨h13,by omega,by omega,List.eq_nil_of_length_eq_zero (by omega)⟩),λhh=>?_⟩
    rcases hh with hh | hh | hh
    ·omega
    ·refine ⟨⟨⟨hh.2.1,by omega⟩,by simp [hh.2.2.2]⟩,by omega⟩
    ·omega
  ·have h0:e.Op≠0:=by simpa using h
   have h13:e.Op≠13:=by simpa using h'
   rw [AZ,ob9,aE (by omega) (by omega)]
   by_cases hg:((1<=e.Op/\e.Op<=12)/\e.N=0/\e.Args.length=2)/\1<dd
   ·obtain ⟨hg,hdd⟩:=hg
    obtain ⟨d,rfl⟩:∃ j,d=j+1:=⟨d-1,by omega⟩
    obtain ⟨a,b,hl⟩:=Dl hg.2.2
    have e1:nth e.Args 0=some a:=by rw [hl]; rfl
    have e2:nth e.Args 1=some b:=by rw [hl]; rfl
    rw [Ci hl h0 h13,dX (by simp [hg.1,hg.2.1,hg.2.2]; exact hdd),e1,e2]
    simp only [ob9,Expr.eta']
    refine .bind (P:=λz=>z=true↔EOk d a) (.bind (s7 d k a (dd-1) (by omega) (by omega) (by omega)) λz hz=>.pure hz) λz hz=>.bind (P:=λw=>w=true↔(EOk d a/\EOk d b)) (.sel (λhzt=>.bind (s7 d k b (dd-1) (by omega) (by omega) (by omega)) λw hw=>.pure ⟨λh=>⟨hz.1 hzt,hw.1 h⟩,λh=>hw.2 h.2⟩) λhzf=>.pure ⟨λh=>(by cases h),λh=>?_⟩) λw hw=>.pure ⟨λh=>⟨hg.1,hg.2.1,hw.1 h⟩,λh=>hw.2 h.2.2⟩
    rw [hz.2 h.1] at hzf
    cases hzf
   ·rw [bD (by
     simp only [Bool.and_eq_false_iff,beq_eq_false_iff_ne,ne_eq,decide_eq_false_iff_not]
     by_cases a1:(1<=e.Op/\e.Op<=12)
     ·by_cases a2:e.N=0
      ·by_cases a3:e.Args.length=2
       ·exact .inr (λa4=>hg ⟨⟨a1,a2,a3⟩,by omega⟩)
       ·exact .inl (.inr (by omega))
      ·exact .inl (.inl (.inr a2))
     ·exact .inl (.inl (.inl a1))),ob9,bD rfl,ob9]
    refine .pure ⟨λh=>(by cases h),λhh=>?_⟩
    cases d with
    | zero=>exact hh.elim
    | succ d =>
     rcases hh with hh | hh | ⟨q1,q2,a,b,q3,q4,_⟩
     ·exact absurd hh.1 h0
     ·exact absurd hh.1 h13
     ·cases d with
      | zero=>exact q4.elim
      | succ d=>exact absurd ⟨⟨q1,q2,by rw [q3]; rfl⟩,by omega⟩ hg
 | _,0,_,_,hk,_,_=>by omega
theorem w8 {k:Nat} (hk:6<=k) (e:Expr):Tot (cd k e) λb=>b=true↔EOk 5 e:=by
 unfold cd
 rw [Expr.eta']
 exact .bind (vy 5 k e 5 (by omega) rfl (by omega)) λb hb=>.pure hb
theorem CS {k:Nat} (hk:6<=k) (e:Expr):Tot (gz k e) λb=>b=true↔EOk 5 e:=by
 unfold gz
 rw [Expr.eta']
 exact .bind (s7 5 k e 5 (by omega) rfl (by omega)) λb hb=>.pure hb
theorem s8 {e:Expr}:((e.Op==0&&e.N==0)&&((e.Args.length:Int)==0))=true↔e=⟨0,0,[]⟩:=by
 simp only [Bool.and_eq_true,beq_iff_eq]
 constructor
 ·rintro ⟨⟨h1,h2⟩,h3⟩
  have h4:e.Args=[]:=List.eq_nil_of_length_eq_zero (by omega)
  cases e
  simp_all
 ·rintro rfl
  simp
def nf (R:Int) (s:ah):Prop:=s.Body=[]/\s.Else=[]/\((s.Kind=1/\(0<=s.Var/\s.Var<=3)/\s.Box=0/\EOk 5 s.Expr)\/(s.Kind=4/\s.Var=0/\(0<=s.Box/\s.Box<R)/\EOk 5 s.Expr) \/
 (s.Kind=5/\(0<=s.Var/\s.Var<=3)/\(0<=s.Box/\s.Box<R)/\s.Expr=⟨0,0,[]⟩)\/(s.Kind=6/\s.Var=0/\s.Box=0/\s.Expr=⟨0,0,[]⟩)\/(s.Kind=7/\s.Var=0/\s.Box=0/\EOk 5 s.Expr))
def HdR (s:ah):Prop:=(s.Kind=2\/(s.Kind=3/\s.Else=[]))/\s.Var=0/\s.Box=0/\EOk 5 s.Expr
def SR (R:Int):Nat->ah->Prop
 | 0,s=>nf R s
 | n+1,s=>nf R s\/(HdR s/\(∀ x∈s.Body,SR R n x)/\∀ x∈s.Else,SR R n x)
theorem nf.simp {R:Int} (hR:R<=3) {s:ah} (h:nf R s):nK s:=by
 obtain ⟨h1,h2,h3⟩:=h
 refine ⟨h1,h2,?_⟩
 rcases h3 with h | h | h | h | h
 ·exact .inl h
 ·exact .inr (.inl ⟨h.1,h.2.1,⟨h.2.2.1.1,by omega⟩,h.2.2.2⟩)
 ·exact .inr (.inr (.inl ⟨h.1,h.2.1,⟨h.2.2.1.1,by omega⟩,h.2.2.2⟩))
 ·exact .inr (.inr (.inr (.inl h)))
 ·exact .inr (.inr (.inr (.inr h)))
theorem SR.ok {R:Int} (hR:R<=3):∀ {n:Nat} {s:ah},SR R n s->SOk n s
 | 0,s,h=>nf.simp hR h
 | n+1,s,h=>h.imp (nf.simp hR) λ⟨h1,h2,h3⟩=>⟨h1.1,h1.2.1,h1.2.2.1,h1.2.2.2,λx hx=>(h2 x hx).ok hR,λx hx=>(h3 x hx).ok hR⟩
theorem nf.up {R:Int} (hR:R<=3) {s:ah} (h:nf R s):nf 3 s:=by
 obtain ⟨h1,h2,h3⟩:=h
 refine ⟨h1,h2,?_⟩
 rcases h3 with h | h | h | h | h
 ·exact .inl h
 ·exact .inr (.inl ⟨h.1,h.2.1,⟨h.2.2.1.1,by omega⟩,h.2.2.2⟩)
 ·exact .inr (.inr (.inl ⟨h.1,h.2.1,⟨h.2.2.1.1,by omega⟩,h.2.2.2⟩))
 ·exact .inr (.inr (.inr (.inl h)))
 ·exact .inr (.inr (.inr (.inr h)))
theorem SR.up {R:Int} (hR:R<=3):∀ {n:Nat} {s:ah},SR R n s->SR 3 n s
 | 0,s,h=>nf.up hR h
 | n+1,s,h=>h.imp (nf.up hR) λ⟨h1,h2,h3⟩=>⟨h1,λx hx=>(h2 x hx).up hR,λx hx=>(h3 x hx).up hR⟩
theorem nf.kind {R:Int} {s:ah} (h:nf R s):s.Kind≠2/\s.Kind≠3:=by
 obtain ⟨_,_,h⟩:=h
 rcases h with h | h | h | h | h <;> (have:=h.1; omega)
theorem Dm {a b c d e:Prop}:a/\b/\c/\d/\e↔d/\e/\a/\b/\c:=⟨λ⟨h1,h2,h3,h4,h5⟩=>⟨h4,h5,h1,h2,h3⟩,λ⟨h4,h5,h1,h2,h3⟩=>⟨h1,h2,h3,h4,h5⟩⟩
theorem Dn {a b c e:Prop}:a/\b/\c/\e↔e/\a/\b/\c:=⟨λ⟨h1,h2,h3,h5⟩=>⟨h5,h1,h2,h3⟩,λ⟨h5,h1,h2,h3⟩=>⟨h1,h2,h3,h5⟩⟩
def fl (kd:Int):qq⊕Bool:=if kd=1 then .inl (qq.mk true false true false false) else if kd=2 then .inl (qq.mk false false true true true) else if kd=3 then .inl (qq.mk false false true true false) else if kd=4 then .inl (qq.mk false true true false false) else if kd=5 then .inl (qq.mk true true false false false) else if kd=7 then .inl (qq.mk false false true false false) else if kd=6 then .inl (qq.mk false false false false false) else .inr false
theorem zZ {k:Nat} (hk:6<=k) (x:ah) {R:Int}:Tot (jj k x R) λb=>b=true↔(nf R x\/HdR x):=by
 have main:∀ (va bo ex bd el:Bool),Tot ((di x.Var 4 va).bind λy2 =>
   (sel (!y2) (some true) ((di x.Box R bo).bind λb_1=>some (!b_1))).bind λb1 =>
   sel (b1||(bo&&(decide (x.Box>=R)))) (some false) <|
   (sel ex ((gz k (Expr.mk x.Expr.Op x.Expr.N x.Expr.Args)).bind λy4=>some (!y4)) (some false):Option (Bool)).bind λb2 =>
   sel (b2||((!ex)&&(((x.Expr.Op !=0)||(x.Expr.N !=0))||(decide ((x.Expr.Args.length:Int)>0))))) (some false) <|
   some ((bd||((x.Body.length:Int)==0))&&(el||((x.Else.length:Int)==0))))
   λb=>b=true↔((if va then 0<=x.Var/\x.Var<=3 else x.Var=0)/\(if bo then 0<=x.Box/\x.Box<R else x.Box=0)/\(if ex then EOk 5 x.Expr else x.Expr=⟨0,0,[]⟩)/\(bd=true\/x.Body=[])/\(el=true\/x.Else=[])):=λva bo ex bd el=>by
  unfold di
  rw [Expr.eta',ob9]
  refine .bind (P:=λb=>b=false↔((if va then 0<=x.Var/\x.Var<=3 else x.Var=0)/\(x.Box=0\/(bo=true/\0<x.Box/\x.Box<R)))) ?_ λb1 hb1=>.sel (λh=>.pure ⟨λh=>(by cases h),λh2=>?_⟩) λh=>.bind (P:=λb2=>(b2||((!ex)&&(((x.Expr.Op !=0)||(x.Expr.N !=0))||(decide ((x.Expr.Args.length:Int)>0)))))=false↔(if ex then EOk 5 x.Expr else x.Expr=⟨0,0,[]⟩)) ?_ λb2 hb2=>.sel (λh2=>.pure ⟨λh=>(by cases h),λh3=>?_⟩) λh2=>.pure ?_
  ·rw [ob9]
   cases va <;> cases bo <;> refine .sel (λh=>.pure ?_) λh=>.pure ?_
   all_goals
    simp at h ⊢
    try omega
  ·rw [Bool.or_eq_true] at h
   rcases h with h | h
   ·have:b1=false:=hb1.2 ⟨h2.1,by
     have:=h2.2.1
     cases bo
     ·left; simpa using this
     ·simp at this ⊢; omega⟩
    rw [this] at h
    cases h
   ·cases bo
    ·cases h
    ·have:=h2.2.1
     simp at h this
     omega
  ·cases ex
   ·refine .sf rfl (.pure ?_)
    rw [Bool.false_or,Bool.not_false,Bool.true_and]
    rw [if_neg (by decide),<-s8]
    simp
   ·refine .st rfl (.bind (CS hk x.Expr) λy hy=>.pure ?_)
    rw [if_pos rfl,<-hy]
    cases y <;> simp
  ·have:(b2||((!ex)&&(((x.Expr.Op !=0)||(x.Expr.N !=0))||(decide ((x.Expr.Args.length:Int)>0)))))=false:=hb2.2 h3.2.2.1
   rw [this] at h2
   cases h2
  ·have h5:=hb2.1 h2
   rw [Bool.or_eq_false_iff] at h
   have h6:=hb1.1 h.1
   have h7:(if bo then 0<=x.Box/\x.Box<R else x.Box=0):=by
    cases bo
    ·have:=h6.2; simp at this ⊢; exact this
    ·have:=h6.2; have h8:=h.2; simp at this h8 ⊢; omega
   have e1:((x.Body.length:Int)==0)=true↔x.Body=[]:=by simp
   have e2:((x.Else.length:Int)==0)=true↔x.Else=[]:=by simp
   rw [Bool.and_eq_true,Bool.or_eq_true,Bool.or_eq_true,e1,e2]
   exact ⟨λhh=>⟨h6.1,h7,h5,hh⟩,λhh=>hh.2.2.2⟩
 unfold jj
 refine .bind (P:=λy=>y=fl x.Kind) ?_ λy hy=>?_
 ·unfold fl
  refine .sel (λh=>.pure ?_) λh1=>.sel (λh=>.pure ?_) λh2=>.sel (λh=>.pure ?_) λh3=>.sel (λh=>.pure ?_) λh4=>.sel (λh=>.pure ?_) λh5=>.sel (λh=>.pure ?_) λh7=>.sel (λh=>.pure ?_) λh6=>.pure ?_
  all_goals
   simp only [beq_iff_eq,beq_eq_false_iff_ne,ne_eq] at *
   simp [*]
 ·subst hy
  by_cases hkd:x.Kind=1\/x.Kind=2\/x.Kind=3\/x.Kind=4\/x.Kind=5\/x.Kind=6\/x.Kind=7
  ·rcases hkd with h | h | h | h | h | h | h
   all_goals
    rw [h]
    refine (main _ _ _ _ _).mono λb hb=>hb.trans ?_
    unfold nf HdR
    simp [h]
    try first
     | exact Dm
     | exact Dn
  ·have:fl x.Kind=.inr false:=by
    unfold fl
    rw [if_neg (by omega),if_neg (by omega),if_neg (by omega),if_neg (by omega),if_neg (by omega),if_neg (by omega),if_neg (by omega)]
   rw [this]
   refine .pure ⟨λh=>(by cases h),λh=>?_⟩
   rcases h with ⟨_,_,h⟩ | ⟨h,_⟩
   ·omega
   ·omega
theorem SR.head {R:Int} {n:Nat} {s:ah} (h:SR R n s):nf R s\/HdR s:=by
 cases n with
 | zero=>exact .inl h
 | succ n=>exact h.imp id λh=>h.1
theorem SR.iff_simp {R:Int} {n:Nat} {s:ah} (hk:s.Kind≠2/\s.Kind≠3):SR R n s↔nf R s:=by
 cases n with
 | zero=>exact Iff.rfl
 | succ n=>exact ⟨λh=>h.resolve_right λh=>by have:=h.1.1; omega,.inl⟩
def sub:List ah->Nat
 | []=>0
 | x::l=>cts x.Body+cts x.Else+sub l
theorem Bk:∀ l:List ah,l.length+sub l=cts l
 | []=>rfl
 | x::l=>by
  have:=Bk l
  have:=nS x
  simp only [List.length_cons,sub,cts]
  omega
theorem xM:∀ (l:List ah) (i:Nat) (s:ah),l[i]?=some s->sub (l.take (i+1))=sub (l.take i)+cts s.Body+cts s.Else
 | [],_,_,h=>by simp at h
 | x::l,0,s,h=>by
  have:x=s:=by simpa using h
  subst this; simp [sub]
 | x::l,i+1,s,h=>by
  have:=xM l i s (by simpa using h)
  simp only [List.take_succ_cons,sub,this]; omega
theorem ug:∀ (l:List ah) (i:Nat),sub (l.take i)<=sub l
 | [],_=>by simp [sub]
 | x::l,0=>by simp [sub]
 | x::l,i+1=>by have:=ug l i; simp only [List.take_succ_cons,sub]; omega
theorem rj {R:Int}:∀ (n k:Nat) {l:List ah} {dp c:Int},n+8<=k->dp=3-(n:Int)->n<=3->0<=c->c<=16->cts l<=2000000->Tot (fw k l R dp c) λz=>(z.1=true↔((∀ x∈l,SR R n x)/\c+cts l<=16))/\(z.1=true->z.2=c+cts l)
 | n,0,_,_,_,hk,_,_,_,_,_=>by omega
 | n,k+1,l,dp,c,hk,hd,hn,hc,hc16,hcm=>by
  have hsl:=Bk l
  show Tot (fJ k (fw k) l R dp c) _
  unfold fJ
  rw [aE (by omega) (by omega)]
  refine .sel (λh=>.pure ⟨⟨λh=>(by cases h),λhh=>?_⟩,λh=>(by cases h)⟩) λh=>?_
  ·simp only [decide_eq_true_eq] at h
   omega
  simp only [decide_eq_false_iff_not] at h
  have good:Tot (aO (ib l R dp (fw k) k) (0,c+l.length)) λz=>match z with
    | .inl o=>o.1=false/\¬ ((∀ x∈l,SR R n x)/\c+cts l<=16)
    | .inr o=>o=c+cts l/\(∀ x∈l,SR R n x)/\c+cts l<=16:=by
   refine .iter (λs=>0<=s.1/\s.1<=(l.length:Int)/\s.2=c+l.length+sub (l.take s.1.toNat)/\s.2<=16/\∀ (j:Nat) x,(j:Int)<s.1->l[j]?=some x->SR R n x) (λs=>((l.length:Int)-s.1).toNat) ⟨by simp,by simp,by simp [sub],by simp only; omega,λj x hj=>by simp only at hj; omega⟩ λs hs=>?_
   obtain ⟨i,c'⟩:=s
   obtain ⟨g0,g1,g2,g3,g4⟩:=hs
   simp only at g0 g1 g2 g3 g4
   unfold ib
   dsimp only
   refine .sel (λhlt=>?_) λhge=>.inr ?_
   ·simp only [decide_eq_true_eq] at hlt
    refine .bind (P:=λz:Int⊕(Bool×Int)=>match z with
     | .inl o=>o=c+l.length+sub (l.take (i.toNat+1))/\o<=16/\∀ (j:Nat) x,(j:Int)<i+1->l[j]?=some x->SR R n x
     | .inr o=>o.1=false/\¬ ((∀ x∈l,SR R n x)/\c+cts l<=16)) ?_ λz hz=>.both (λo e=>?_) λo e=>by subst e; exact .inr hz
    ·refine .bind (.nth g0 hlt) λx ⟨hx,hxm⟩=>?_
     rw [ah.eta']
     have hst:=xM l i.toNat x hx
     have hsle:=ug l (i.toNat+1)
     have step:SR R n x->∀ (j:Nat) y,(j:Int)<i+1->l[j]?=some y->SR R n y:=λhS j y hj hy=>by
      by_cases e:(j:Int)<i
      ·exact g4 j y e hy
      ·obtain rfl:j=i.toNat:=by omega
       obtain rfl:=o9 (hx.symm.trans hy)
       exact hS
     refine .bind (zZ (by omega) x) λb hb=>.sel (λh1=>.pure ⟨rfl,λhh=>?_⟩) λh1=>?_
     ·have:=hb.2 (hh.1 x hxm).head
      rw [this] at h1
      simp at h1
      omega
     ·simp only [Bool.or_eq_false_iff,Bool.not_eq_false'] at h1
      have hV:=hb.1 h1.1
      refine .sel (λh2=>.pure ?_) λh2=>?_
      ·have hkd:x.Kind≠2/\x.Kind≠3:=by simpa using h2
       have hS:nf R x:=hV.resolve_right λh=>by have:=h.1; omega
       have e1:cts x.Body=0:=by rw [hS.1]; rfl
       have e2:cts x.Else=0:=by rw [hS.2.1]; rfl
       exact ⟨by omega,g3,step ((SR.iff_simp hkd).2 hS)⟩
      ·have hkd:x.Kind=2\/x.Kind=3:=by
        simp at h2
        by_cases e:x.Kind=2
        ·exact .inl e
        ·exact .inr (h2 e)
       have hH:HdR x:=hV.resolve_left λh=>by have:=h.kind; omega
       cases n with
       | zero =>
        rw [dX (b:=decide (dp>=3)) (by simp; omega),ob9,dX rfl,ob9]
        exact .st rfl (.pure ⟨rfl,λhh=>by have:=nf.kind (hh.1 x hxm); omega⟩)
       | succ n =>
        rw [bD (b:=decide (dp>=3)) (by simp; omega),aE (by omega) (by omega)]
        have hlb:=ip x.Body
        have hle:=ip x.Else
        refine .bind (P:=λz:Bool×Int=>(z.1=false↔((∀ y∈x.Body,SR R n y)/\c'+cts x.Body<=16))/\(z.1=false->z.2=c'+cts x.Body)) ?_ λz hz=>.bind (P:=λz:Bool×Int=>(z.1=false↔(((∀ y∈x.Body,SR R n y)/\∀ y∈x.Else,SR R n y)/\c'+cts x.Body+cts x.Else<=16))/\(z.1=false->z.2=c'+cts x.Body+cts x.Else)) ?_ λw hw=>.sel (λh3=>.pure ⟨rfl,λhh=>?_⟩) λh3=>.pure ?_
        ·exact .bind (rj (R:=R) n k (l:=x.Body) (dp:=dp+1) (c:=c') (by omega) (by omega) (by omega) (by omega) (by omega) (by omega)) λz hz=>.pure ⟨by rw [<-hz.1]; cases z.1 <;> simp,λh=>hz.2 (by simpa using h)⟩
        ·refine .sel (λhz1=>.pure ⟨⟨λh=>(by cases h),λhh=>?_⟩,λh=>(by cases h)⟩) λhz1=>?_
         ·rw [hz.1.2 ⟨hh.1.1,by omega⟩] at hz1
          cases hz1
         ·have hz2:=hz.2 hz1
          have hz3:=hz.1.1 hz1
          refine .bind (rj (R:=R) n k (l:=x.Else) (dp:=dp+1) (c:=z.2) (by omega) (by omega) (by omega) (by omega) (by omega) (by omega)) λw hw=>.pure ⟨?_,λh=>by have:=hw.2 (by simpa using h); omega⟩
          have e:((!w.1)=false)↔w.1=true:=by cases w.1 <;> simp
          rw [e,hw.1,hz2]
          exact ⟨λh=>⟨⟨hz3.1,h.1⟩,h.2⟩,λh=>⟨h.1.2,h.2⟩⟩
        ·rcases hh.1 x hxm with h | h
         ·have:=h.kind; omega
         ·have:=hw.1.2 ⟨h.2,by omega⟩
          rw [this] at h3
          cases h3
        ·have hw1:=hw.1.1 h3
         have hw2:=hw.2 h3
         exact ⟨by omega,by omega,step (.inr ⟨hH,hw1.1⟩)⟩
    ·subst e
     rw [aq g0 (by omega)]
     refine .inl ⟨⟨by simp only; omega,by simp only; omega,by simp only; rw [show (i+1).toNat=i.toNat+1 by omega]; exact hz.1,hz.2.1,hz.2.2⟩,by simp only; omega⟩
   ·simp only [decide_eq_false_iff_not] at hge
    show c'=c+cts l/\_
    rw [List.take_of_length_le (by omega)] at g2
    refine ⟨by omega,λx hx=>?_,by omega⟩
    obtain ⟨j,hj,e⟩:=List.mem_iff_getElem.1 hx
    exact g4 j x (by omega) (by rw [List.getElem?_eq_getElem hj,e])
  refine .bind good λz hz=>.both (λo e=>?_) λo e=>?_
  ·subst e
   refine .pure ⟨⟨λh=>?_,λh=>absurd h hz.2⟩,λh=>?_⟩ <;> (rw [hz.1] at h; cases h)
  ·subst e
   exact .pure ⟨⟨λ_=>hz.2,λ_=>rfl⟩,λ_=>hz.1⟩
theorem xN {k:Nat} (hk:6<=k) (x:ah) (hkd:x.Kind≠2/\x.Kind≠3):Tot (dI k x) λb=>b=true↔nf 3 x:=by
 have hp:f6 x.Expr=some ((x.Expr.Op==0&&x.Expr.N==0)&&((x.Expr.Args.length:Int)==0)):=rfl
 have fin:∀ (u v:Bool) (E:Option Bool) (P:Prop),Tot E (λb=>b=true↔P)->Tot ((eK x u).bind λy1 =>
   (sel y1 ((eL x v).bind λy2=>some y2) (some false):Option (Bool)).bind λb1 =>
   (sel b1 (E.bind λy3=>some y3) (some false):Option (Bool)).bind λb2 =>
   some b2) λb=>b=true↔((if u then 0<=x.Var/\x.Var<=3 else x.Var=0)/\(if v then 0<=x.Box/\x.Box<3 else x.Box=0)/\P):=λu v E P hE=>by
  obtain ⟨e,he,hP⟩:=hE
  rw [wT,wU,he]
  have h1:(if u then decide (0<=x.Var)&&decide (x.Var<=3) else x.Var==0)=true↔(if u then 0<=x.Var/\x.Var<=3 else x.Var=0):=by cases u <;> simp
  have h2:(if v then decide (0<=x.Box)&&decide (x.Box<=2) else x.Box==0)=true↔(if v then 0<=x.Box/\x.Box<3 else x.Box=0):=by cases v <;> simp <;> omega
  rw [<-h1,<-h2,<-hP]
  generalize (if u then decide (0<=x.Var)&&decide (x.Var<=3) else x.Var==0)=a
  generalize (if v then decide (0<=x.Box)&&decide (x.Box<=2) else x.Box==0)=b
  cases a <;> cases b <;> cases e <;> exact ⟨_,rfl,by simp⟩
 unfold dI
 simp only [ah.eta',Expr.eta']
 refine .sel (λh=>.pure ⟨λh=>(by cases h),λhh=>?_⟩) λh=>?_
 ·rw [hh.1,hh.2.1] at h
  simp at h
 ·simp at h
  have hb:=h.1
  have he:=h.2
  refine .sel (λh1=>(fin true false _ _ (w8 hk x.Expr)).mono λb hb=>hb.trans ?_) λh1=>.sel (λh4=>(fin false true _ _ (w8 hk x.Expr)).mono λb hb=>hb.trans ?_) λh4=>.sel (λh5=>(fin true true _ _ (by rw [hp]; exact .pure s8)).mono λb hb=>hb.trans ?_) λh5=>.sel (λh6=>(fin false false _ _ (by rw [hp]; exact .pure s8)).mono λb hb=>hb.trans ?_) λh6=>.sel (λh7=>(fin false false _ _ (w8 hk x.Expr)).mono λb hb=>hb.trans ?_) λh7=>.pure ⟨λh=>(by cases h),λhh=>?_⟩
  rotate_right
  ·simp only [beq_eq_false_iff_ne,ne_eq] at h1 h4 h5 h6 h7
   rcases hh.2.2 with h | h | h | h | h <;> (have:=h.1; omega)
  all_goals
   unfold nf
   simp only [beq_iff_eq] at *
   simp [*]
theorem vz:∀ {n k:Nat} {l:List ah},n+2<=k->(∀ x∈l,SOk n x)->cts l<=2000000->Tot (ce k l) λr=>r=(cts l:Int)
 | n,0,_,h,_,_=>by omega
 | n,k+1,l,hk,hl,hc=>by
  show Tot (cA k (ce k) l) _
  unfold cA
  have hlen:=ip l
  refine .bind (P:=λr=>r=(cts l:Int)) (.iter (λs=>0<=s.2/\s.2<=(l.length:Int)/\s.1=(cts (l.take s.2.toNat):Int)) (λs=>((l.length:Int)-s.2).toNat) ⟨by simp,by simp,by simp [cts]⟩ λs hs=>?_) λr hr=>.pure hr
  obtain ⟨c,i⟩:=s
  obtain ⟨g0,g1,g2⟩:=hs
  simp only at g0 g1 g2
  unfold gw
  refine .sel (λhlt=>?_) λhge=>.inr (show c=_ from ?_)
  ·simp only [decide_eq_true_eq] at hlt
   refine .bind (.nth g0 hlt) λx ⟨hx,hxm⟩=>.bind (.nth g0 hlt) λx' ⟨hx',_⟩=>?_
   obtain rfl:x=x':=o9 (hx.symm.trans hx')
   have h1:=ob l i.toNat x hx
   have h2:=g8 l (i.toNat+1)
   have h3:=nS x
   have hb:=(hl x hxm).body
   have sub:∀ bl,(∀ y∈bl,SOk (n-1) y)->(n=0->bl=[])->cts bl<=2000000->Tot (ce k bl) λr=>r=(cts bl:Int):=λbl hbl hn hcb=>by
    cases n with
    | zero=>rw [hn rfl,ww (by omega)]; exact .pure rfl
    | succ n=>exact vz (by omega) hbl hcb
   refine .bind (sub x.Body hb.1 (λh=>(hb.2.2 h).1) (by omega)) λy hy=>.bind (sub x.Else hb.2.1 (λh=>(hb.2.2 h).2) (by omega)) λz hz=>.inl ?_
   subst hy hz
   rw [aE (i:=c+1) (by omega) (by omega),aE (i:=c+1+_) (by omega) (by omega),aE (by omega) (by omega),aq g0 (by omega)]
   refine ⟨⟨by simp only; omega,by simp only; omega,?_⟩,by simp only; omega⟩
   simp only
   rw [show (i+1).toNat=i.toNat+1 by omega,h1,h3,g2]; omega
  ·simp only [decide_eq_false_iff_not] at hge
   rw [g2,List.take_of_length_le (by omega)]
theorem pE:∀ (n k:Nat) {l:List ah},2*n+9<=k->n<=3->cts l<=2000000->Tot (bJ k l n) λb=>b=true↔∀ x∈l,SR 3 n x
 | n,0,_,hk,_,_=>by omega
 | n,1,_,hk,_,_=>by omega
 | n,k+2,l,hk,hn,hc=>by
  have hlen:=ip l
  show Tot (dn (k+1) (bJ (k+1)) (nu (k+1)) l n) _
  unfold dn
  refine .bind (P:=λz:Bool⊕Unit=>match z with | .inl b=>b=false/\¬ ∀ x∈l,SR 3 n x | .inr _=>∀ x∈l,SR 3 n x) (.iter (λi:Int=>0<=i/\i<=l.length/\∀ (j:Nat) x,(j:Int)<i->l[j]?=some x->SR 3 n x) (λi=>(l.length-i).toNat) ⟨by omega,by omega,λj x hj=>by omega⟩ λi ⟨g0,g1,g2⟩=>?_) λz hz=>.both (λb e=>by subst e; refine .pure ⟨λh=>?_,λh=>absurd h hz.2⟩; rw [hz.1] at h; cases h) λu e=>by subst e; exact .pure ⟨λ_=>hz,λ_=>rfl⟩
  unfold i3
  refine .sel (λh=>?_) λh=>.inr λx hx=>?_
  rotate_left
  ·simp only [decide_eq_false_iff_not] at h
   obtain ⟨j,hj,e⟩:=List.mem_iff_getElem.1 hx
   exact g2 j x (by omega) (by rw [List.getElem?_eq_getElem hj,e])
  simp only [decide_eq_true_eq] at h
  refine .bind (.nth g0 h) λx ⟨hx,hm⟩=>?_
  rw [ah.eta']
  have hcx:=vt hm
  have hce:=nS x
  refine .bind (P:=λb=>b=true↔SR 3 n x) ?_ λb hb=>.sel (λhf=>.inr ⟨rfl,λhh=>by rw [hb.2 (hh x hm)] at hf; cases hf⟩) λhf=>.inl ?_
  ·show Tot (ic k (bJ k) (nu k) x n) _
   unfold ic
   simp only [ah.eta',Expr.eta',wT,wU]
   refine .sel (λh2=>?_) λh2=>?_
   ·have hkd:x.Kind≠2/\x.Kind≠3:=by simpa using h2
    rw [SR.iff_simp hkd]
    exact .bind (xN (by omega) x hkd) λb hb=>.pure hb
   ·have hkd:x.Kind=2\/x.Kind=3:=by
     simp at h2
     by_cases e:x.Kind=2
     ·exact .inl e
     ·exact .inr (h2 e)
    have hns:¬ nf 3 x:=λh=>by have:=h.kind; omega
    refine .sel (λh3=>.pure ⟨λh=>(by cases h),λhh=>?_⟩) λh3=>?_
    ·cases n with
     | zero=>exact absurd hh hns
     | succ n =>
      have hH:=(hh.resolve_left hns).1
      simp at h3
      rcases h3 with h3 | h3
      ·omega
      ·rcases hH.1 with h | h
       ·omega
       ·have h4:=h3.2
        rw [h.2] at h4
        simp at h4
    ·simp only [Bool.or_eq_false_iff,decide_eq_false_iff_not] at h3
     cases n with
     | zero=>exact absurd (show ((0:Nat):Int)<1 by omega) h3.1
     | succ n =>
      have hEl:x.Kind=2\/(x.Kind=3/\x.Else=[]):=by
       rcases hkd with h | h
       ·exact .inl h
       ·right
        refine ⟨h,?_⟩
        have:=h3.2
        simp [h] at this
        exact this
      rw [aE (by omega) (by omega),show ((n+1:Nat):Int)-1=(n:Int) by omega]
      have hsr:SR 3 (n+1) x↔(x.Var=0/\x.Box=0/\EOk 5 x.Expr)/\(∀ y∈x.Body,SR 3 n y)/\∀ y∈x.Else,SR 3 n y:=⟨λh=>by
       obtain ⟨h1,h2,h3⟩:=h.resolve_left hns
       exact ⟨h1.2,h2,h3⟩,λ⟨h1,h2,h3⟩=>.inr ⟨⟨hEl,h1⟩,h2,h3⟩⟩
      rw [hsr]
      obtain ⟨e,he,hE⟩:=w8 (k:=k) (by omega) x.Expr
      obtain ⟨e1,he1,hE1⟩:=pE n k (l:=x.Body) (by omega) (by omega) (by omega)
      obtain ⟨e2,he2,hE2⟩:=pE n k (l:=x.Else) (by omega) (by omega) (by omega)
      rw [he,he1,he2,<-hE,<-hE1,<-hE2]
      have hv:x.Var=0↔(x.Var==0)=true:=by simp
      have hb:x.Box=0↔(x.Box==0)=true:=by simp
      rw [hv,hb]
      rw [if_neg (by decide),if_neg (by decide)]
      generalize (x.Var==0)=a
      generalize (x.Box==0)=b
      cases a <;> cases b <;> cases e <;> cases e1 <;> cases e2 <;> exact ⟨_,rfl,by simp⟩
  ·rw [aq g0 (by omega)]
   refine ⟨⟨by omega,by omega,λj y hj hy=>?_⟩,by omega⟩
   by_cases e:(j:Int)<i
   ·exact g2 j y e hy
   ·obtain rfl:j=i.toNat:=by omega
    obtain rfl:=o9 (hx.symm.trans hy)
    exact hb.1 (by simpa using hf)
theorem rl {R:Int} (hR:R<=3):∀ (n k:Nat) {l:List ah},n+2<=k->cts l<=2000000->(∀ x∈l,SR 3 n x)->Tot (eM k l R) λb=>b=true↔∀ x∈l,SR R n x
 | n,0,_,hk,_,_=>by omega
 | n,k+1,l,hk,hc,hl=>by
  have hlen:=ip l
  show Tot (dV k (eM k) l R) _
  unfold dV
  refine .bind (P:=λz:Bool⊕Unit=>match z with | .inl b=>b=false/\¬ ∀ x∈l,SR R n x | .inr _=>∀ x∈l,SR R n x) (.iter (λi:Int=>0<=i/\i<=l.length/\∀ (j:Nat) x,(j:Int)<i->l[j]?=some x->SR R n x) (λi=>(l.length-i).toNat) ⟨by omega,by omega,λj x hj=>by omega⟩ λi ⟨g0,g1,g2⟩=>?_) λz hz=>.both (λb e=>by subst e; refine .pure ⟨λh=>?_,λh=>absurd h hz.2⟩; rw [hz.1] at h; cases h) λu e=>by subst e; exact .pure ⟨λ_=>hz,λ_=>rfl⟩
  unfold mr
  refine .sel (λh=>?_) λh=>.inr λx hx=>?_
  rotate_left
  ·simp only [decide_eq_false_iff_not] at h
   obtain ⟨j,hj,e⟩:=List.mem_iff_getElem.1 hx
   exact g2 j x (by omega) (by rw [List.getElem?_eq_getElem hj,e])
  simp only [decide_eq_true_eq] at h
  refine .bind (.nth g0 h) λx ⟨hx,hm⟩=>?_
  have hS:=hl x hm
  have hcx:=vt hm
  have hce:=nS x
  have step:SR R n x->∀ (j:Nat) y,(j:Int)<i+1->l[j]?=some y->SR R n y:=λhS j y hj hy=>by
   by_cases e:(j:Int)<i
   ·exact g2 j y e hy
   ·obtain rfl:j=i.toNat:=by omega
    obtain rfl:=o9 (hx.symm.trans hy)
    exact hS
  refine .sel (λh1=>.inr ⟨rfl,λhh=>?_⟩) λh1=>?_
  ·have hx2:=hh x hm
   simp only [Bool.and_eq_true,Bool.or_eq_true,beq_iff_eq,decide_eq_true_eq] at h1
   rcases hx2.head with h | h
   ·rcases h.2.2 with h | h | h | h | h <;> (have h3:=h.1; first | omega | (have:=h.2.2.1.2; omega))
   ·have:=h.1; omega
  ·rcases hS.head with hsim | hhd
   ·have hR2:nf R x:=by
     refine ⟨hsim.1,hsim.2.1,?_⟩
     have hbx:x.Kind=4\/x.Kind=5->x.Box<R:=λhk=>by
      refine Classical.byContradiction λhge=>?_
      have:(((x.Kind==4)||(x.Kind==5))&&(decide (x.Box>=R)))=true:=by
       simp only [Bool.and_eq_true,Bool.or_eq_true,beq_iff_eq,decide_eq_true_eq]
       exact ⟨hk,by omega⟩
      rw [this] at h1
      cases h1
     rcases hsim.2.2 with h | h | h | h | h
     ·exact .inl h
     ·exact .inr (.inl ⟨h.1,h.2.1,⟨h.2.2.1.1,hbx (.inl h.1)⟩,h.2.2.2⟩)
     ·exact .inr (.inr (.inl ⟨h.1,h.2.1,⟨h.2.2.1.1,hbx (.inr h.1)⟩,h.2.2.2⟩))
     ·exact .inr (.inr (.inr (.inl h)))
     ·exact .inr (.inr (.inr (.inr h)))
    have hnil:eM k [] R=some true:=by
     obtain ⟨k,rfl⟩:∃ j,k=j+1:=⟨k-1,by omega⟩
     show dV k (eM k) [] R=_
     unfold dV
     rw [dg]
     rfl
    rw [hsim.1,hsim.2.1,hnil]
    refine .inl ⟨⟨by rw [aq g0 (by omega)]; omega,by rw [aq g0 (by omega)]; omega,by rw [aq g0 (by omega)]; exact step ((SR.iff_simp hsim.kind).2 hR2)⟩,by rw [aq g0 (by omega)]; omega⟩
   ·have hns:∀ R,¬ nf R x:=λR h=>by have:=h.kind; have:=hhd.1; omega
    cases n with
    | zero=>exact absurd hS (hns 3)
    | succ n =>
     obtain ⟨_,hB,hE⟩:=hS.resolve_left (hns 3)
     obtain ⟨b1,e1,hb1⟩:=rl hR n k (l:=x.Body) (by omega) (by omega) hB
     obtain ⟨b2,e2,hb2⟩:=rl hR n k (l:=x.Else) (by omega) (by omega) hE
     rw [e1,e2]
     simp only [ob9]
     refine .bind (P:=λz=>z=false↔((∀ y∈x.Body,SR R n y)/\∀ y∈x.Else,SR R n y)) (.of (r:=!b1||!b2) (by cases b1 <;> cases b2 <;> rfl) (by rw [<-hb1,<-hb2]; cases b1 <;> cases b2 <;> simp)) λz hz=>.sel (λhf=>.inr ⟨rfl,λhh=>?_⟩) λhf=>.inl ?_
     ·have:=(hh x hm).resolve_left (hns R)
      rw [hz.2 this.2] at hf
      cases hf
     ·rw [aq g0 (by omega)]
      exact ⟨⟨by omega,by omega,step (.inr ⟨hhd,hz.1 hf⟩)⟩,by omega⟩
def VL (R:Int) (l:List ah):Prop:=(∀ x∈l,SR R 3 x)/\cts l<=16
theorem yG {k:Nat} (hk:11<=k) {l:List ah} (hc:cts l<=2000000) (R:Int):Tot (iB k l R) λb=>b=true↔VL R l:=by
 unfold iB
 exact .bind (rj 3 k (l:=l) (dp:=0) (c:=0) (by omega) (by omega) (by omega) (by omega) (by omega) hc) λz hz=>.pure ⟨λh=>by have:=hz.1.1 h; exact ⟨this.1,by omega⟩,λh=>hz.1.2 ⟨h.1,by have:=h.2; omega⟩⟩
theorem vA {k:Nat} (hk:20<=k) {l:List ah} (hc:cts l<=2000000):Tot (cB k l) λb=>b=true↔VL 3 l:=by
 unfold cB
 have h1:=pE 3 k (l:=l) (by omega) (by omega) hc
 rw [show ((3:Nat):Int)=3 from rfl] at h1
 refine .bind h1 λb hb=>.bind (P:=λb=>b=true↔VL 3 l) (.sel (λh=>?_) λh=>.pure ⟨λh=>(by cases h),λhh=>by rw [hb.2 hh.1] at h; cases h⟩) λz hz=>.pure hz
 exact .bind (vz (n:=3) (by omega) (λx hx=>((hb.1 h) x hx).ok (by omega)) hc) λr hr=>.pure (by
  subst hr
  simp only [decide_eq_true_eq]
  exact ⟨λh'=>⟨hb.1 h,by omega⟩,λh'=>by have:=h'.2; omega⟩)
theorem yH {k:Nat} (hk:20<=k) {l:List ah} (hc:cts l<=2000000) {R:Int} (hR:R<=3):Tot ((cB k l).bind λy6=>(sel (!y6) (some true) ((eM k l R).bind λb_2=>some (!b_2)))) λb=>b=false↔VL R l:=by
 refine .bind (vA hk hc) λb hb=>.sel (λh=>.pure ⟨λh=>(by cases h),λhh=>?_⟩) λh=>?_
 ·rw [hb.2 ⟨λx hx=>(hh.1 x hx).up hR,hh.2⟩] at h
  cases h
 ·have h3:=hb.1 (by simpa using h)
  exact .bind (rl hR 3 k (by omega) hc h3.1) λz hz=>.pure ⟨λh=>⟨hz.1 (by simpa using h),h3.2⟩,λh=>by rw [hz.2 h.1]; rfl⟩
def VP (p:aA):Prop:=((∀ r∈p.Rooms,1<=r/\r<=4)/\p.Rooms.length<=3)/\(1<=p.Tasks.length/\p.Tasks.length<=3)/\∀ l∈p.Tasks,VL p.Rooms.length l
theorem pG {α:Type} {f:Int->Option (Int⊕(Bool⊕Unit))} {l:List α} (P:α->Prop) (hl:l.length<=4611686018427387904)
  (h:∀ (i:Int) (x:α),0<=i->i<l.length->l[i.toNat]?=some x->x∈l->Tot (f i) λz=>(P x/\z=.inl (w64 (i+1)))\/(¬ P x/\z=.inr (.inl false)))
  (he:∀ i:Int,i=l.length->f i=some (.inr (.inr ()))):Tot (aO f 0) λz=>(z=.inr ()/\∀ x∈l,P x)\/(z=.inl false/\¬ ∀ x∈l,P x):=by
 refine .iter (λi:Int=>0<=i/\i<=l.length/\∀ (j:Nat) x,(j:Int)<i->l[j]?=some x->P x) (λi=>(l.length-i).toNat) ⟨by omega,by omega,λj x hj=>by omega⟩ λi ⟨g0,g1,g2⟩=>?_
 by_cases hlt:i<l.length
 ·obtain ⟨x,hx⟩:∃ x,l[i.toNat]?=some x:=⟨_,List.getElem?_eq_getElem (by omega)⟩
  refine (h i x g0 hlt hx (List.mem_of_getElem? hx)).mono λz hz=>?_
  rcases hz with ⟨hp,rfl⟩ | ⟨hp,rfl⟩
  ·rw [aq g0 (by omega)]
   refine ⟨⟨by omega,by omega,λj y hj hy=>?_⟩,by omega⟩
   by_cases e:(j:Int)<i
   ·exact g2 j y e hy
   ·obtain rfl:j=i.toNat:=by omega
    obtain rfl:=o9 (hx.symm.trans hy)
    exact hp
  ·exact .inr ⟨rfl,λhh=>hp (hh x (List.mem_of_getElem? hx))⟩
 ·rw [he i (by omega)]
  refine .pure (.inl ⟨rfl,λx hx=>?_⟩)
  obtain ⟨j,hj,e⟩:=List.mem_iff_getElem.1 hx
  exact g2 j x (by omega) (by rw [List.getElem?_eq_getElem hj,e])
theorem rZ {Q:Prop} {z:Bool⊕Unit} {c:Bool} (hz:(z=.inr ()/\Q)\/(z=.inl false/\¬ Q)):Tot (kV z (λo3=>some o3) (λ_=>some c)) λb=>b=true↔(Q/\c=true):=by
 rcases hz with ⟨rfl,h⟩ | ⟨rfl,h⟩
 ·exact .pure ⟨λhc=>⟨h,hc⟩,λhc=>hc.2⟩
 ·exact .pure ⟨λh=>(by cases h),λhc=>absurd hc.1 h⟩
theorem yI {l:List Int} (hl:l.length<=4611686018427387904):Tot (iA l) λb=>b=true↔((∀ r∈l,1<=r/\r<=4)/\l.length<=3):=by
 unfold iA
 refine .bind (pG (l:=l) (λr=>1<=r/\r<=4) hl (λi x h0 h1 hx hm=>?_) λi e=>?_) λz hz=>(rZ hz).mono λb hb=>hb.trans ?_
 ·unfold ia
  refine .st (by simpa using h1) ?_
  rw [show nth l i=some x by unfold nth; rw [if_neg (by omega)]; exact hx,ob9]
  refine .sel (λh=>.pure (.inr ⟨λhh=>?_,rfl⟩)) λh=>.pure (.inl ⟨?_,rfl⟩)
  ·simp at h; omega
  ·simp at h; omega
 ·unfold ia; rw [bD (by simp [e])]
 ·rw [decide_eq_true_eq]
  exact and_congr_right λ_=>⟨λh=>by omega,λh=>by omega⟩
theorem yJ {l:List Int} (hl:l.length<=4611686018427387904):Tot (ky l) λb=>b=true↔((∀ r∈l,1<=r/\r<=4)/\l.length<=3):=by
 unfold ky
 refine .bind (pG (l:=l) (λr=>1<=r/\r<=4) hl (λi x h0 h1 hx hm=>?_) λi e=>?_) λz hz=>(rZ hz).mono λb hb=>hb.trans ?_
 ·unfold jL
  refine .st (by simpa using h1) ?_
  rw [show nth l i=some x by unfold nth; rw [if_neg (by omega)]; exact hx,ob9,m5,ob9]
  refine .sel (λh=>.pure (.inr ⟨λhh=>?_,rfl⟩)) λh=>.pure (.inl ⟨?_,rfl⟩)
  ·simp at h; omega
  ·simp at h; omega
 ·unfold jL; rw [bD (by simp [e])]
 ·rw [decide_eq_true_eq]
  exact and_congr_right λ_=>⟨λh=>by omega,λh=>by omega⟩
theorem z8 {k:Nat} (hk:20<=k) {p:aA} (hr:p.Rooms.length<=2000000) (ht:∀ l∈p.Tasks,cts l<=2000000) (hn:p.Tasks.length<=2000000):Tot (fL k p) λb=>b=true↔VP p:=by
 unfold fL
 refine .bind (yI (by omega)) λb hb=>.sel (λh=>.pure ⟨λh=>(by cases h),λhh=>?_⟩) λh=>?_
 ·have:=hb.2 hh.1
  have h2:=hh.2.1
  rw [this] at h
  simp at h
  omega
 ·simp only [Bool.or_eq_false_iff,Bool.not_eq_false',decide_eq_false_iff_not] at h
  have hb':=hb.1 h.1.1
  refine .bind (pG (l:=p.Tasks) (λl=>VL p.Rooms.length l) (by omega) (λi x h0 h1 hx hm=>?_) λi e=>?_) λz hz=>(rZ hz).mono λb hb=>hb.trans ?_
  ·unfold fK
   refine .st (by simpa using h1) ?_
   rw [show nth p.Tasks i=some x by unfold nth; rw [if_neg (by omega)]; exact hx,ob9]
   refine .bind (yG (by omega) (ht x hm) _) λv hv=>.sel (λh=>.pure (.inr ⟨λhh=>?_,rfl⟩)) λh=>.pure (.inl ⟨hv.1 (by simpa using h),rfl⟩)
   rw [hv.2 hh] at h
   cases h
  ·unfold fK; rw [bD (by simp [e])]
  ·unfold VP
   exact ⟨λhh=>⟨hb',by omega,hh.1⟩,λhh=>⟨hh.2.2,rfl⟩⟩
theorem z9 {k:Nat} (hk:20<=k) {p:aA} (hr:p.Rooms.length<=2000000) (ht:∀ l∈p.Tasks,cts l<=2000000) (hn:p.Tasks.length<=2000000):Tot (fT k p) λb=>b=true↔VP p:=by
 unfold fT
 refine .bind (yJ (by omega)) λb hb=>.bind (P:=λz=>z=false↔(b=true/\1<=p.Tasks.length/\p.Tasks.length<=3)) (.sel (λh=>.pure ?_) λh=>?_) λz hz=>.sel (λh=>.pure ⟨λh=>(by cases h),λhh=>?_⟩) λh=>?_
 ·have:b=false:=by simpa using h
  simp [this]
 ·have:b=true:=by simpa using h
  rw [m5,ob9]
  refine .pure ?_
  simp [this]
  omega
 ·rw [hz.2 ⟨hb.2 hh.1,hh.2.1⟩] at h
  cases h
 ·have hz':=hz.1 h
  have hb':=hb.1 hz'.1
  refine .bind (pG (l:=p.Tasks) (λl=>VL p.Rooms.length l) (by omega) (λi x h0 h1 hx hm=>?_) λi e=>?_) λz hz=>(rZ hz).mono λb hb=>hb.trans ?_
  ·unfold fS
   refine .st (by simpa using h1) ?_
   have e1:nth p.Tasks i=some x:=by unfold nth; rw [if_neg (by omega)]; exact hx
   obtain ⟨v,ev,hv⟩:=yH hk (ht x hm) (R:=(p.Rooms.length:Int)) (by omega)
   obtain ⟨y,ey,_⟩:=vA hk (ht x hm)
   rw [ey,ob9] at ev
   rw [e1,ob9,ey,ob9,ob9,ev,ob9]
   refine .sel (λh=>.pure (.inr ⟨λhh=>?_,rfl⟩)) λh=>.pure (.inl ⟨hv.1 h,rfl⟩)
   rw [hv.2 hh] at h
   cases h
  ·unfold fS; rw [bD (by simp [e])]
  ·unfold VP
   exact ⟨λhh=>⟨hb',hz'.2,hh.1⟩,λhh=>⟨hh.2.2,rfl⟩⟩
end
noncomputable section
def cE:Nat->Expr->Int->List ab
 | 0,_,_=>[]
 | d+1,e,at_=>if e.Op=0 then [⟨1,at_,0,0,e.N⟩] else if e.Op=13 then [⟨2,at_,e.N,0,0⟩] else match e.Args with
  | [a,b]=>cE d a at_++cE d b (at_+1)++[⟨3,at_,at_,at_+1,e.Op⟩]
  | _=>[]
def eF (f:ah->Int->List ab):List ah->Int->List ab
 | [],_=>[]
 | x::l,b=>f x b++eF f l (b+(f x b).length)
def xO (x:ah):List ab:=if x.Kind=1 then cE 5 x.Expr 4++[⟨2,x.Var,4,0,0⟩] else if x.Kind=4 then cE 5 x.Expr 4++[⟨6,0,4,0,x.Box⟩] else if x.Kind=7 then cE 5 x.Expr 4++[⟨9,0,4,0,0⟩] else if x.Kind=5 then [⟨7,x.Var,0,0,x.Box⟩] else [⟨8,0,0,0,0⟩]
def cS:Nat->ah->Int->List ab
 | 0,x,_=>xO x
 | n+1,x,b =>
  if x.Kind=2 then (if x.Else.length=0 then
    cE 5 x.Expr 4++[⟨5,0,4,0,b+(cE 5 x.Expr 4).length+1+(eF (cS n) x.Body (b+(cE 5 x.Expr 4).length+1)).length⟩]++eF (cS n) x.Body (b+(cE 5 x.Expr 4).length+1)
   else
    cE 5 x.Expr 4++[⟨5,0,4,0,b+(cE 5 x.Expr 4).length+1+(eF (cS n) x.Body (b+(cE 5 x.Expr 4).length+1)).length+1⟩]++eF (cS n) x.Body (b+(cE 5 x.Expr 4).length+1)++[⟨4,0,0,0,b+(cE 5 x.Expr 4).length+1+(eF (cS n) x.Body (b+(cE 5 x.Expr 4).length+1)).length+1+(eF (cS n) x.Else (b+(cE 5 x.Expr 4).length+1+(eF (cS n) x.Body (b+(cE 5 x.Expr 4).length+1)).length+1)).length⟩]++eF (cS n) x.Else (b+(cE 5 x.Expr 4).length+1+(eF (cS n) x.Body (b+(cE 5 x.Expr 4).length+1)).length+1))
  else if x.Kind=3 then
   cE 5 x.Expr 4++[⟨5,0,4,0,b+(cE 5 x.Expr 4).length+1+(eF (cS n) x.Body (b+(cE 5 x.Expr 4).length+1)).length+1⟩]++eF (cS n) x.Body (b+(cE 5 x.Expr 4).length+1)++[⟨4,0,0,0,b⟩]
  else xO x
theorem vB {f:ah->Int->List ab}:∀ (l:List ah) (x:ah) (b:Int),eF f (l++[x]) b=eF f l b++f x (b+(eF f l b).length)
 | [],x,b=>by simp [eF]
 | y::l,x,b=>by
  simp only [List.cons_append,eF,vB l x,List.append_assoc,List.length_append]
  congr 3
  omega
theorem ro:∀ {d:Nat} {e:Expr} {at_:Int},EOk d e->(cE d e at_).length+1<=2^d/\1<=(cE d e at_).length
 | 0,_,_,h=>h.elim
 | d+1,e,at_,h=>by
  have hp:2<=2^(d+1):=by rw [Nat.pow_succ]; have:=Nat.two_pow_pos d; omega
  unfold cE
  rcases h with ⟨h1,h2,h3,h4⟩ | ⟨h1,h2,h3,h4⟩ | ⟨h1,h2,a,b,h3,h4,h5⟩
  ·rw [if_pos h1]; simp; omega
  ·rw [if_neg (by omega),if_pos h1]; simp; omega
  ·rw [if_neg (by omega),if_neg (by omega),h3]
   have i1:=ro (at_:=at_) h4
   have i2:=ro (at_:=at_+1) h5
   simp only [List.length_append,List.length_singleton,Nat.pow_succ]
   omega
theorem cE5 {e:Expr} (h:EOk 5 e):(cE 5 e 4).length<=31/\1<=(cE 5 e 4).length:=by
 have:=ro (at_:=4) h
 omega
theorem oq:∀ {d k:Nat} {e:Expr} {at_:Int},EOk d e->0<=at_->at_+d<=12->d<=k->cD k e at_=some (cE d e at_)
 | 0,_,_,_,h,_,_,_=>h.elim
 | d+1,0,_,_,_,_,_,h=>by omega
 | d+1,k+1,e,at_,h,h0,h12,hk=>by
  show fd k (cD k) e at_=_
  unfold fd cE
  rcases h with ⟨h1,h2,h3,h4⟩ | ⟨h1,h2,h3,h4⟩ | ⟨h1,h2,a,b,h3,h4,h5⟩
  ·rw [if_pos h1,dX (by simpa using h1)]
  ·rw [if_neg (by omega),if_pos h1,bD (by simp [h1]),dX (by simpa using h1)]
  ·rw [if_neg (by omega),if_neg (by omega),bD (by simp; omega),bD (by simp; omega)]
   have hd:1<=d:=by cases d with
    | zero=>exact h4.elim
    | succ d=>omega
   have h256:2^d<=4096:=Nat.le_trans (Nat.pow_le_pow_right (by omega) (show d<=12 by omega)) (by decide)
   have i1:=ro (at_:=at_) h4
   have i2:=ro (at_:=at_+1) h5
   have e1:nth e.Args 0=some a:=by rw [h3]; rfl
   have e2:nth e.Args 1=some b:=by rw [h3]; rfl
   rw [e1,e2,h3]
   simp only [ob9,Expr.eta']
   rw [aE (by omega) (by omega),oq h4 h0 (by omega) (by omega),oq (k:=k) h5 (show 0<=at_+1 by omega) (by omega) (by omega)]
   simp only [ob9]
   refine Tot.eq (.bind (.app (by omega)) λr hr=>.bind (.app (by subst hr; simp; omega)) λr2 hr2=>.pure ?_)
   rw [hr2,hr]
theorem vC:∀ {d k:Nat} {e:Expr} {at_:Int} {out:List ab},EOk d e->0<=at_->at_+d<=12->d<=k->out.length+2^d<=1000000->eR k e at_ out=some (out++cE d e at_)
 | 0,_,_,_,_,h,_,_,_,_=>h.elim
 | d+1,0,_,_,_,_,_,_,h,_=>by omega
 | d+1,k+1,e,at_,out,h,h0,h12,hk,hl=>by
  have hp:2<=2^(d+1):=by rw [Nat.pow_succ]; have:=Nat.two_pow_pos d; omega
  show eY k (eR k) e at_ out=_
  unfold eY cE
  rcases h with ⟨h1,h2,h3,h4⟩ | ⟨h1,h2,h3,h4⟩ | ⟨h1,h2,a,b,h3,h4,h5⟩
  ·rw [if_pos h1,dX (by simpa using h1)]
   exact Tot.eq (.bind (.app (by simp; omega)) λr hr=>.pure hr)
  ·rw [if_neg (by omega),if_pos h1,bD (by simp [h1]),dX (by simpa using h1)]
   exact Tot.eq (.bind (.app (by simp; omega)) λr hr=>.pure hr)
  ·rw [if_neg (by omega),if_neg (by omega),bD (by simp; omega),bD (by simp; omega)]
   have hd:1<=d:=by cases d with
    | zero=>exact h4.elim
    | succ d=>omega
   have hps:2^(d+1)=2^d*2:=Nat.pow_succ ..
   have i1:=ro (at_:=at_) h4
   have i2:=ro (at_:=at_+1) h5
   have e1:nth e.Args 0=some a:=by rw [h3]; rfl
   have e2:nth e.Args 1=some b:=by rw [h3]; rfl
   rw [e1,e2,h3]
   simp only [ob9,Expr.eta']
   rw [aE (by omega) (by omega),vC h4 h0 (by omega) (by omega) (by omega)]
   simp only [ob9]
   rw [vC (k:=k) h5 (show 0<=at_+1 by omega) (by omega) (by omega) (by simp; omega)]
   simp only [ob9]
   refine Tot.eq (.bind (.app (by simp; omega)) λr hr=>.pure ?_)
   rw [hr]
   simp
theorem vD:EOk 5 ⟨0,0,[]⟩:=.inl ⟨rfl,Int.le_refl _,by decide,rfl⟩
theorem SOk.expr {n:Nat} {x:ah} (hx:SOk n x):EOk 5 x.Expr:=by
 have hs:nK x->EOk 5 x.Expr:=λh=>by
  rcases h.2.2 with h | h | h | h | h
  ·exact h.2.2.2
  ·exact h.2.2.2
  ·rw [h.2.2.2]; exact vD
  ·rw [h.2.2.2]; exact vD
  ·exact h.2.2.2
 cases n with
 | zero=>exact hs hx
 | succ n =>
  rcases hx with h | h
  ·exact hs h
  ·exact h.2.2.2.1
theorem xP {x:ah} (h:EOk 5 x.Expr):(xO x).length<=33:=by
 have:=cE5 h
 unfold xO
 split
 ·simp; omega
 ·split
  ·simp; omega
  ·split
   ·simp; omega
   ·split <;> simp
theorem jC {f:ah->Int->List ab}:∀ {l:List ah} {b:Int},(∀ x∈l,∀ b,(f x b).length<=33*ct x)->(eF f l b).length<=33*cts l
 | [],_,_=>by simp [eF]
 | x::l,b,h=>by
  have h1:=h x (by simp) b
  have h2:=jC (l:=l) (b:=b+(f x b).length) λy hy=>h y (by simp [hy])
  simp only [eF,cts,List.length_append]
  omega
theorem nA:∀ {n:Nat} {x:ah},SOk n x->∀ b,(cS n x b).length<=33*ct x
 | 0,x,h,b=>by
  have:=xP (SOk.expr (n:=0) h)
  have:=yw x
  unfold cS
  omega
 | n+1,x,h,b=>by
  have he:=cE5 (SOk.expr h)
  have h1:=xP (SOk.expr h)
  have h2:=nS x
  have hb:∀ b,(eF (cS n) x.Body b).length<=33*cts x.Body:=λb=>jC λy hy=>nA (h.body.1 y hy)
  have hl:∀ b,(eF (cS n) x.Else b).length<=33*cts x.Else:=λb=>jC λy hy=>nA (h.body.2.1 y hy)
  unfold cS
  have k1:=hb (b+(cE 5 x.Expr 4).length+1)
  split
  ·split
   ·simp; omega
   ·have k2:=hl (b+(cE 5 x.Expr 4).length+1+(eF (cS n) x.Body (b+(cE 5 x.Expr 4).length+1)).length+1)
    simp; omega
  ·split
   ·simp; omega
   ·omega
theorem xQ {n k:Nat} (ih:∀ {x:ah} {base:Int},SOk n x->0<=base->base+33*ct x<=100000->cj k x base=some (cS n x base)) {l:List ah} {base:Int} (hl:∀ x∈l,SOk n x) (h0:0<=base) (h1:base+33*cts l<=100000):bO (k+1) l base=some (eF (cS n) l base):=by
 refine Tot.eq ?_
 show Tot (ff k (bO k) (cj k) (f7 k) (cT k) l base) _
 unfold ff
 have hlen:=ip l
 refine .bind (P:=λz=>z=eF (cS n) l base) (.iter (λs=>0<=s.2/\s.2<=(l.length:Int)/\s.1=eF (cS n) (l.take s.2.toNat) base) (λs=>((l.length:Int)-s.2).toNat) ⟨by simp,by simp,by simp [eF]⟩ λs hs=>?_) λr hr=>.pure hr
 obtain ⟨out,i⟩:=s
 obtain ⟨g0,g1,g2⟩:=hs
 simp only at g0 g1 g2
 unfold kJ
 refine .sel (λh=>?_) λh=>.inr (show out=_ from ?_)
 ·simp only [decide_eq_true_eq] at h
  refine .bind (.nth g0 h) λx ⟨hx,hm⟩=>?_
  have t1:=ob l i.toNat x hx
  have t2:=g8 l (i.toNat+1)
  have hol:out.length<=33*cts (l.take i.toNat):=by rw [g2]; exact jC λy hy=>nA (hl y (List.mem_of_mem_take hy))
  have hxl:=nA (hl x hm) (base+out.length)
  dsimp only
  rw [ah.eta',aE (by omega) (by omega),ih (hl x hm) (by omega) (by omega),ob9]
  refine .bind (.app (by omega)) λr hr=>.inl ?_
  rw [aq g0 (by omega)]
  refine ⟨⟨by simp only; omega,by simp only; omega,?_⟩,by simp only; omega⟩
  simp only
  rw [hr,show (i+1).toNat=i.toNat+1 by omega,List.take_add_one,hx]
  show _=eF (cS n) (l.take i.toNat++[x]) base
  rw [vB,<-g2]
 ·simp only [decide_eq_false_iff_not] at h
  rw [g2,List.take_of_length_le (by omega)]
theorem xR:∀ (n k:Nat) {x:ah} {base:Int},3*n+7<=k->SOk n x->0<=base->base+33*ct x<=100000->cj k x base=some (cS n x base)
 | n,0,_,_,hk,_,_,_=>by omega
 | n,k+1,x,base,hk,hx,h0,h1=>by
  have hee:=hx.expr
  have he:=cE5 hee
  have hce:=nS x
  refine Tot.eq ?_
  show Tot (cY k (bO k) (cj k) (f7 k) (cT k) x base) _
  have simp_case:(x.Kind≠2)->(x.Kind≠3)->Tot (cY k (bO k) (cj k) (f7 k) (cT k) x base) λz=>z=xO x:=λhk2 hk3=>by
   unfold cY xO
   simp only [ah.eta',Expr.eta']
   rw [oq hee (by decide) (by decide) (by omega),ob9]
   have ap:∀ q:ab,Tot ((X.app 40 (cE 5 x.Expr 4) [q]).bind λr=>some r) (λz=>z=cE 5 x.Expr 4++[q]):=λq=>.bind (.app (by simp; omega)) λr hr=>.pure hr
   refine .sf (by simpa using hk2) (.sf (by simpa using hk3) (.sel (λh=>?_) λh1=>.sel (λh=>?_) λh4=>.sel (λh=>?_) λh7=>.sel (λh=>.pure ?_) λh5=>.pure ?_))
   ·rw [if_pos (by simpa using h)]; exact ap _
   ·rw [if_neg (by simpa using h1),if_pos (by simpa using h)]; exact ap _
   ·rw [if_neg (by simpa using h1),if_neg (by simpa using h4),if_pos (by simpa using h)]; exact ap _
   ·rw [if_neg (by simpa using h1),if_neg (by simpa using h4),if_neg (by simpa using h7),if_pos (by simpa using h)]
   ·rw [if_neg (by simpa using h1),if_neg (by simpa using h4),if_neg (by simpa using h7),if_neg (by simpa using h5)]
  cases n with
  | zero =>
   have hkd:=nK.kind hx
   exact simp_case hkd.1 hkd.2
  | succ n =>
   by_cases hkd:x.Kind≠2/\x.Kind≠3
   ·unfold cS
    rw [if_neg hkd.1,if_neg hkd.2]
    exact simp_case hkd.1 hkd.2
   ·have hns:¬ nK x:=λh=>hkd h.kind
    obtain ⟨hk23,_,_,_,hbd,hel⟩:=hx.resolve_left hns
    obtain ⟨k,rfl⟩:∃ j,k=j+2:=⟨k-2,by omega⟩
    have hL:∀ {l:List ah} {b:Int},(∀ y∈l,SOk n y)->0<=b->b+33*cts l<=100000->bO (k+1) l b=some (eF (cS n) l b):=λhl hb0 hb1=>xQ (λhx h0 h1=>xR n k (by omega) hx h0 h1) hl hb0 hb1
    have lb:∀ b,(eF (cS n) x.Body b).length<=33*cts x.Body:=λb=>jC λy hy=>nA (hbd y hy)
    have ll:∀ b,(eF (cS n) x.Else b).length<=33*cts x.Else:=λb=>jC λy hy=>nA (hel y hy)
    unfold cY cS
    simp only [ah.eta',Expr.eta']
    rw [oq hee (by decide) (by decide) (by omega),ob9]
    have k1:=lb (base+(cE 5 x.Expr 4).length+1)
    by_cases h2:x.Kind=2
    ·rw [if_pos h2]
     refine .st (by simpa using h2) ?_
     show Tot ((ie (k+1) (bO (k+1)) (cj (k+1)) (f7 (k+1)) (cT (k+1)) x base).bind λy2=>some y2) _
     unfold ie
     simp only [Expr.eta']
     rw [oq hee (by decide) (by decide) (by omega),ob9,aE (i:=base+(cE 5 x.Expr 4).length) (by omega) (by omega),aE (i:=base+(cE 5 x.Expr 4).length+1) (by omega) (by omega),hL hbd (by omega) (by omega),ob9,aE (i:=base+(cE 5 x.Expr 4).length+1+_) (by omega) (by omega)]
     by_cases hnil:x.Else.length=0
     ·rw [if_pos hnil,dX (by simpa using hnil)]
      refine .bind (P:=λz=>z=_) (.bind (.app (by simp; omega)) λr hr=>.bind (.app (by subst hr; simp; omega)) λr2 hr2=>.pure (show r2=_ from ?_)) λz hz=>.pure hz
      rw [hr2,hr]
     ·rw [if_neg hnil,bD (by simpa using hnil),aE (i:=base+(cE 5 x.Expr 4).length+1+_+1) (by omega) (by omega)]
      have k2:=ll (base+(cE 5 x.Expr 4).length+1+(eF (cS n) x.Body (base+(cE 5 x.Expr 4).length+1)).length+1)
      rw [hL hel (by omega) (by omega),ob9,aE (i:=base+(cE 5 x.Expr 4).length+1+_+1+_) (by omega) (by omega)]
      refine .bind (.bind (.app (by simp; omega)) λr hr=>.bind (.app (by subst hr; simp; omega)) λr2 hr2=>.bind (.app (by subst hr hr2; simp; omega)) λr3 hr3=>.bind (.app (by subst hr hr2 hr3; simp; omega)) λr4 hr4=>.pure (show r4=_ from ?_)) λz hz=>.pure hz
      rw [hr4,hr3,hr2,hr]
    ·have h3:x.Kind=3:=by omega
     rw [if_neg h2,if_pos h3]
     refine .sf (by simpa using h2) (.st (by simpa using h3) ?_)
     show Tot ((dW (k+1) (bO (k+1)) (cj (k+1)) (f7 (k+1)) (cT (k+1)) x base).bind λy2=>some y2) _
     unfold dW
     simp only [Expr.eta']
     rw [oq hee (by decide) (by decide) (by omega),ob9,aE (i:=base+(cE 5 x.Expr 4).length) (by omega) (by omega),aE (i:=base+(cE 5 x.Expr 4).length+1) (by omega) (by omega),hL hbd (by omega) (by omega),ob9,aE (i:=base+(cE 5 x.Expr 4).length+1+_) (by omega) (by omega),aE (i:=base+(cE 5 x.Expr 4).length+1+_+1) (by omega) (by omega)]
     refine .bind (.bind (.app (by simp; omega)) λr hr=>.bind (.app (by subst hr; simp; omega)) λr2 hr2=>.bind (.app (by subst hr hr2; simp; omega)) λr3 hr3=>.pure (show r3=_ from ?_)) λz hz=>.pure hz
     rw [hr3,hr2,hr]
theorem xS {n k:Nat} (ih:∀ {x:ah} {out:List ab},SOk n x->out.length+33*ct x<=100000->eS k x out=some (out++cS n x out.length)) {l:List ah} {out:List ab} (hl:∀ x∈l,SOk n x) (h1:out.length+33*cts l<=100000):cn (k+1) l out=some (out++eF (cS n) l out.length):=by
 refine Tot.eq ?_
 show Tot (d6 k (cn k) (eS k) l out) _
 unfold d6
 have hlen:=ip l
 refine .bind (P:=λz=>z=out++eF (cS n) l out.length) (.iter (λs=>0<=s.2/\s.2<=(l.length:Int)/\s.1=out++eF (cS n) (l.take s.2.toNat) out.length) (λs=>((l.length:Int)-s.2).toNat) ⟨by simp,by simp,by simp [eF]⟩ λs hs=>?_) λr hr=>.pure hr
 obtain ⟨o,i⟩:=s
 obtain ⟨g0,g1,g2⟩:=hs
 simp only at g0 g1 g2
 unfold jk
 refine .sel (λh=>?_) λh=>.inr (show o=_ from ?_)
 ·simp only [decide_eq_true_eq] at h
  refine .bind (.nth g0 h) λx ⟨hx,hm⟩=>?_
  have t1:=ob l i.toNat x hx
  have t2:=g8 l (i.toNat+1)
  have hol:(eF (cS n) (l.take i.toNat) out.length).length<=33*cts (l.take i.toNat):=jC λy hy=>nA (hl y (List.mem_of_mem_take hy))
  have hol2:o.length=out.length+(eF (cS n) (l.take i.toNat) out.length).length:=by rw [g2]; simp
  dsimp only
  rw [ah.eta',ih (hl x hm) (by omega),ob9,aq g0 (by omega)]
  refine .inl ⟨⟨by simp only; omega,by simp only; omega,?_⟩,by simp only; omega⟩
  simp only
  rw [show (i+1).toNat=i.toNat+1 by omega,List.take_add_one,hx]
  show _=out++eF (cS n) (l.take i.toNat++[x]) out.length
  rw [vB,<-List.append_assoc,<-g2,hol2]
  congr 2
 ·simp only [decide_eq_false_iff_not] at h
  rw [g2,List.take_of_length_le (by omega)]
theorem zu {A B:List ab} {q:ab} {o d a b n m:Int} (hq:q=⟨o,d,a,b,n⟩):nth (A++[q]++B) (A.length:Int)=some q/\X.upd (A++[q]++B) (A.length:Int) ⟨o,d,a,b,m⟩=some (A++[⟨o,d,a,b,m⟩]++B):=by
 constructor
 ·unfold nth
  rw [if_neg (by omega),Int.toNat_natCast,List.append_assoc,List.getElem?_append_right (Nat.le_refl _),Nat.sub_self]
  rfl
 ·unfold X.upd
  rw [if_pos (by simp; omega),Int.toNat_natCast,List.append_assoc,List.set_append_right _ _ (Nat.le_refl _),Nat.sub_self,List.append_assoc]
  rfl
theorem xT:∀ (n k:Nat) {x:ah} {out:List ab},3*n+7<=k->SOk n x->out.length+33*ct x<=100000->eS k x out=some (out++cS n x out.length)
 | n,0,_,_,hk,_,_=>by omega
 | n,k+1,x,out,hk,hx,h1=>by
  have hee:=hx.expr
  have he:=cE5 hee
  have hce:=nS x
  refine Tot.eq ?_
  show Tot (cI k (cn k) (eS k) x out) _
  have hx1:eR k x.Expr 4 out=some (out++cE 5 x.Expr 4):=vC hee (by decide) (by decide) (by omega) (by have:(2:Nat)^5=32:=rfl; omega)
  have simp_case:nK x->Tot (cI k (cn k) (eS k) x out) λz=>z=out++xO x:=λhs=>by
   unfold cI xO
   simp only [Expr.eta',hx1,ob9]
   have ap:∀ (o:List ab) (q:ab),o.length<=100000->Tot ((X.app 40 o [q]).bind λr=>some r) (λz=>z=o++[q]):=λo q ho=>.bind (.app (by simp; omega)) λr hr=>.pure hr
   rcases hs.2.2 with h | h | h | h | h
   ·simp only [h.1]
    refine (ap (out++cE 5 x.Expr 4) _ (by simp; omega)).mono λz hz=>?_
    rw [hz]; simp
   ·simp only [h.1]
    refine (ap (out++cE 5 x.Expr 4) _ (by simp; omega)).mono λz hz=>?_
    rw [hz]; simp
   ·simp only [h.1]
    exact ap out _ (by omega)
   ·simp only [h.1]
    exact ap out _ (by omega)
   ·simp only [h.1]
    refine (ap (out++cE 5 x.Expr 4) _ (by simp; omega)).mono λz hz=>?_
    rw [hz]; simp
  cases n with
  | zero=>exact simp_case hx
  | succ n =>
   by_cases hs:nK x
   ·have hkd:=hs.kind
    unfold cS
    rw [if_neg hkd.1,if_neg hkd.2]
    exact simp_case hs
   ·obtain ⟨hk23,_,_,_,hbd,hel⟩:=hx.resolve_left hs
    obtain ⟨k,rfl⟩:∃ j,k=j+1:=⟨k-1,by omega⟩
    have hL:∀ {l:List ah} {o:List ab},(∀ y∈l,SOk n y)->o.length+33*cts l<=100000->cn (k+1) l o=some (o++eF (cS n) l o.length):=λhl hb=>xS (λhx h=>xT n k (by omega) hx h) hl hb
    have lb:∀ b,(eF (cS n) x.Body b).length<=33*cts x.Body:=λb=>jC λy hy=>nA (hbd y hy)
    have ll:∀ b,(eF (cS n) x.Else b).length<=33*cts x.Else:=λb=>jC λy hy=>nA (hel y hy)
    unfold cI cS
    simp only [Expr.eta',hx1,ob9]
    have k1:=lb (out.length+(cE 5 x.Expr 4).length+1)
    rw [dX (b:=(x.Kind !=5)&&(x.Kind !=6)) (by rcases hk23 with h | h <;> simp [h]),ob9]
    refine .sf (by rcases hk23 with h | h <;> simp [h]) (.sf (by rcases hk23 with h | h <;> simp [h]) (.sf (by rcases hk23 with h | h <;> simp [h]) (.sf (by rcases hk23 with h | h <;> simp [h]) (.sf (by rcases hk23 with h | h <;> simp [h]) (.bind (.app (by simp; omega)) λr6 hr6=>?_)))))
    have hr6l:r6.length=out.length+(cE 5 x.Expr 4).length+1:=by rw [hr6]; simp; omega
    rw [hL hbd (by omega),ob9,hr6l]
    have hb0:((out.length+(cE 5 x.Expr 4).length+1:Nat):Int)=(out.length:Int)+(cE 5 x.Expr 4).length+1:=by omega
    rw [hb0]
    have k2:=ll ((out.length:Int)+(cE 5 x.Expr 4).length+1+(eF (cS n) x.Body ((out.length:Int)+(cE 5 x.Expr 4).length+1)).length+1)
    generalize hEL:eF (cS n) x.Else ((out.length:Int)+(cE 5 x.Expr 4).length+1+(eF (cS n) x.Body ((out.length:Int)+(cE 5 x.Expr 4).length+1)).length+1)=el at k2 ⊢
    generalize hB:eF (cS n) x.Body ((out.length:Int)+(cE 5 x.Expr 4).length+1)=bd at k1 hEL ⊢
    generalize hE:cE 5 x.Expr 4=e at he hr6 hr6l hEL ⊢
    subst hr6
    by_cases h3:x.Kind=3
    ·have hel0:x.Else=[]:=by
      rcases hk23 with h | h
      ·omega
      ·exact h.2
     rw [if_neg (by omega),if_pos h3,hel0]
     refine .bind (P:=λz=>z=(out++e)++[ab.mk 5 0 4 0 0]++(bd++[ab.mk 4 0 0 0 out.length])) (.st (by simpa using h3) (.bind (.app (by simp; omega)) λr hr=>.pure ?_)) λy4 h4=>?_
     ·rw [hr]; simp
     ·rw [bD (b:=decide ((([]:List ah).length:Int)>0)) (by simp),ob9]
      obtain ⟨p1,p2⟩:=zu (A:=out++e) (B:=bd++[ab.mk 4 0 0 0 out.length]) (q:=ab.mk 5 0 4 0 0) (m:=(y4.length:Int)) rfl
      rw [<-h4] at p1 p2
      rw [p1,ob9,p2,ob9,bD (by simp)]
      refine .pure ?_
      have hy4:(y4.length:Int)=(out.length:Int)+e.length+1+bd.length+1:=by rw [h4]; simp; omega
      rw [hy4]
      simp
    ·have h2:x.Kind=2:=by omega
     rw [if_pos h2]
     refine .bind (P:=λz=>z=(out++e)++[ab.mk 5 0 4 0 0]++bd) (.sf (by simpa using h3) (.pure rfl)) λy4 h4=>?_
     have hy4:y4.length=out.length+e.length+1+bd.length:=by rw [h4]; simp; omega
     by_cases hnil:x.Else.length=0
     ·rw [if_pos hnil,bD (b:=decide ((x.Else.length:Int)>0)) (by simp [hnil]),ob9]
      obtain ⟨p1,p2⟩:=zu (A:=out++e) (B:=bd) (q:=ab.mk 5 0 4 0 0) (m:=(y4.length:Int)) rfl
      rw [<-h4] at p1 p2
      rw [p1,ob9,p2,ob9,bD (by simp [hnil])]
      refine .pure ?_
      rw [show (y4.length:Int)=(out.length:Int)+e.length+1+bd.length by omega]
      simp
     ·rw [if_neg hnil,dX (b:=decide ((x.Else.length:Int)>0)) (by simp; omega)]
      refine .bind (P:=λz=>z=(out++e)++[ab.mk 5 0 4 0 0]++(bd++[ab.mk 4 0 0 0 0])) (.bind (.app (by simp; omega)) λr hr=>.pure ?_) λy5 h5=>?_
      ·rw [hr,h4]; simp
      ·have hy5:y5.length=out.length+e.length+1+bd.length+1:=by rw [h5]; simp; omega
       obtain ⟨p1,p2⟩:=zu (A:=out++e) (B:=bd++[ab.mk 4 0 0 0 0]) (q:=ab.mk 5 0 4 0 0) (m:=(y5.length:Int)) rfl
       rw [<-h5] at p1 p2
       rw [p1,ob9,p2,ob9,dX (by simp; omega)]
       have hr9:((out++e)++[ab.mk 5 0 4 0 y5.length]++(bd++[ab.mk 4 0 0 0 0])).length=out.length+e.length+1+bd.length+1:=by simp; omega
       rw [hL hel (by omega),ob9,hr9,show ((out.length+e.length+1+bd.length+1:Nat):Int)=(out.length:Int)+e.length+1+bd.length+1 by omega,hEL]
       have hsplit:(out++e)++[ab.mk 5 0 4 0 y5.length]++(bd++[ab.mk 4 0 0 0 0])++el=((out++e)++[ab.mk 5 0 4 0 y5.length]++bd)++[ab.mk 4 0 0 0 0]++el:=by simp
       have hal:((out++e)++[ab.mk 5 0 4 0 y5.length]++bd).length=y4.length:=by rw [hy4]; simp; omega
       rw [hsplit,<-hal]
       obtain ⟨s1,s2⟩:=zu (A:=(out++e)++[ab.mk 5 0 4 0 y5.length]++bd) (B:=el) (q:=ab.mk 4 0 0 0 0) (m:=(((out++e)++[ab.mk 5 0 4 0 y5.length]++bd++[ab.mk 4 0 0 0 0]++el).length:Int)) rfl
       rw [s1,ob9,s2,ob9]
       refine .pure ?_
       have hlen:(((out++e)++[ab.mk 5 0 4 0 y5.length]++bd++[ab.mk 4 0 0 0 0]++el).length:Int)=(out.length:Int)+e.length+1+bd.length+1+el.length:=by simp; omega
       rw [hlen,show (y5.length:Int)=(out.length:Int)+e.length+1+bd.length+1 by omega]
       simp
def gP (l:List ah):List ab:=eF (cS 3) l 0++[⟨10,0,0,0,0⟩]
theorem VL.block {R:Int} (hR:R<=3) {l:List ah} (h:VL R l):f0 3 16 l:=⟨λx hx=>(h.1 x hx).ok hR,h.2⟩
theorem Bl {k:Nat} (hk:20<=k) {R:Int} (hR:R<=3) {l:List ah} (h:VL R l):gA k l=some (gP l):=by
 obtain ⟨k,rfl⟩:∃ j,k=j+1:=⟨k-1,by omega⟩
 have h2:=h.2
 unfold gA
 rw [xS (n:=3) (λhx hl=>xT 3 k (by omega) hx hl) (out:=[]) (λx hx=>(h.1 x hx).ok hR) (by simp; omega),ob9]
 have hl:(eF (cS 3) l 0).length<=33*cts l:=jC λy hy=>nA ((h.1 y hy).ok hR)
 refine Tot.eq (.bind (.app (by simp; omega)) λr hr=>.pure ?_)
 rw [hr]
 rfl
theorem vE {k:Nat} (hk:20<=k) {R:Int} (hR:R<=3) {l:List ah} (h:VL R l):cK k l=some (gP l,true)/\COk (gP l):=by
 have hb:=h.block hR
 have h2:=h.2
 have he:cK k l=some (gP l,true):=by
  unfold cK
  rw [qP hk hb,ob9,bD (show (!true)=false from rfl)]
  obtain ⟨k,rfl⟩:∃ j,k=j+1:=⟨k-1,by omega⟩
  rw [xQ (n:=3) (λhx h0 hl=>xR 3 k (by omega) hx h0 hl) (λx hx=>hb.1 x hx) (by omega) (by omega),ob9]
  have hl:(eF (cS 3) l 0).length<=33*cts l:=jC λy hy=>nA ((h.1 y hy).ok hR)
  refine Tot.eq (.bind (.app (by simp; omega)) λr hr=>.pure ?_)
  rw [hr]
  rfl
 obtain ⟨r,er,_,hr⟩:=xH hk hb
 rw [he] at er
 obtain rfl:=o9 er
 exact ⟨he,hr⟩
end
noncomputable section
theorem rp {α β ρ:Type} {f:List β×Int->Option ((List β×Int)⊕ρ)} {e:List β->ρ} {l:List α} {g:α->β} (hl:l.length<=4611686018427387904)
  (h:∀ (out:List β) (i:Int) (x:α),0<=i->i<l.length->l[i.toNat]?=some x->x∈l->out.length<=l.length->f (out,i)=some (.inl (out++[g x],w64 (i+1))))
  (he:∀ out,f (out,(l.length:Int))=some (.inr (e out))):aO f ([],0)=some (e (l.map g)):=by
 refine Tot.eq (.iter (λs=>0<=s.2/\s.2<=(l.length:Int)/\s.1=(l.take s.2.toNat).map g) (λs=>((l.length:Int)-s.2).toNat) ⟨by simp,by simp,by simp⟩ λs hs=>?_)
 obtain ⟨out,i⟩:=s
 obtain ⟨g0,g1,g2⟩:=hs
 simp only at g0 g1 g2
 by_cases hlt:i<l.length
 ·obtain ⟨x,hx⟩:∃ x,l[i.toNat]?=some x:=⟨_,List.getElem?_eq_getElem (by omega)⟩
  rw [h out i x g0 hlt hx (List.mem_of_getElem? hx) (by rw [g2]; simp; omega),aq g0 (by omega)]
  refine .inl ⟨⟨by simp only; omega,by simp only; omega,?_⟩,by simp only; omega⟩
  simp only
  rw [g2,show (i+1).toNat=i.toNat+1 by omega,List.take_add_one,hx]
  simp
 ·obtain rfl:i=l.length:=by omega
  rw [he out,g2]
  refine .inr ?_
  rw [List.take_of_length_le (by omega)]
def oF (t:Int) (c:List ab):List ab:=((bW c t).getD ([],false)).1
def pF (c:List ab):List ab:=((fc c).getD ([],false)).1
theorem xU {t:Int} (h0:0<=t) (h4:t<=4) {c:List ab} (hc:COk c):bW c t=some (oF t c,true)/\co c t=some (oF t c,true)/\COk (oF t c)/\(oF t c).length<=c.length:=by
 obtain ⟨r,h1,h2,h3,h5⟩:=xL hc h0 h4
 have:oF t c=r:=by unfold oF; rw [h1]; rfl
 rw [this]
 exact ⟨h1,h2,h3,h5⟩
theorem Bm {c:List ab} (hc:COk c):fc c=some (pF c,true)/\gL c=some (pF c,true)/\COk (pF c)/\(pF c).length<=c.length:=by
 obtain ⟨r,h1,h2,h3,h5⟩:=Bj hc
 have:pF c=r:=by unfold pF; rw [h1]; rfl
 rw [this]
 exact ⟨h1,h2,h3,h5⟩
def PB (p:aA):Prop:=p.Rooms.length<=2000000/\(∀ l∈p.Tasks,cts l<=2000000)/\p.Tasks.length<=2000000
theorem VP.tasks {p:aA} (h:VP p):∀ l∈p.Tasks,VL p.Rooms.length l:=h.2.2
theorem VP.rooms {p:aA} (h:VP p):(p.Rooms.length:Int)<=3:=by have:=h.1.2; omega
theorem Bn {k:Nat} (hk:20<=k) {p:aA} (hb:PB p):(VP p/\c7 k p=some (p.Tasks.map gP,true)/\c9 k p=some (p.Tasks.map gP,true))\/(¬ VP p/\c7 k p=some ([],false)/\c9 k p=some ([],false)):=by
 obtain ⟨b1,e1,h1⟩:=z8 hk hb.1 hb.2.1 hb.2.2
 obtain ⟨b2,e2,h2⟩:=z9 hk hb.1 hb.2.1 hb.2.2
 have ee:(⟨p.Rooms,p.Tasks⟩:aA)=p:=rfl
 unfold c7 c9
 rw [ee,e1,e2,ob9,ob9]
 by_cases hv:VP p
 ·refine .inl ⟨hv,?_,?_⟩
  ·rw [h1.2 hv,bD (show (!true)=false from rfl),rp (l:=p.Tasks) (g:=gP) (e:=id) (by have:=hb.2.2; omega) (λout i x g0 g1 hx hm ho=>?_) λout=>?_]
   ·rfl
   ·unfold eo
    rw [dX (by simpa using g1),show nth p.Tasks i=some x by unfold nth; rw [if_neg (by omega)]; exact hx,ob9,Bl hk hv.rooms (hv.tasks x hm),ob9]
    have h3:=hv.2.1.2
    exact Tot.eq (.bind (.app (by simp; omega)) λr hr=>.pure (by rw [hr]))
   ·unfold eo
    exact bD (by simp)
  ·rw [h2.2 hv,bD (show (!true)=false from rfl),rp (l:=p.Tasks) (g:=gP) (e:=id) (by have:=hb.2.2; omega) (λout i x g0 g1 hx hm ho=>?_) λout=>?_]
   ·rfl
   ·unfold eu
    rw [dX (by simpa using g1),show nth p.Tasks i=some x by unfold nth; rw [if_neg (by omega)]; exact hx,ob9,(vE hk hv.rooms (hv.tasks x hm)).1,ob9]
    have h3:=hv.2.1.2
    exact Tot.eq (.bind (.app (by simp; omega)) λr hr=>.pure (by rw [hr]))
   ·unfold eu
    exact bD (by simp)
 ·refine .inr ⟨hv,?_,?_⟩
  ·rw [show b1=false by cases b1; rfl; exact absurd (h1.1 rfl) hv]
   exact dX rfl
  ·rw [show b2=false by cases b2; rfl; exact absurd (h2.1 rfl) hv]
   exact dX rfl
theorem B9 {l:List (List ab)} (hl:1<=l.length/\l.length<=3) (hc:∀ c∈l,COk c) (t:Int):((0<=t/\t<=4)/\dk l t=some (l.map (oF t),true)/\dA l t=some (l.map (oF t),true))\/(¬ (0<=t/\t<=4)/\dk l t=some ([],false)/\dA l t=some ([],false)):=by
 have hg1:((decide ((l.length:Int)<1))||(decide ((l.length:Int)>3)))=false:=by simp; omega
 have hg2:aY (l.length:Int) 1 3=some true:=by unfold aY; simp; omega
 by_cases ht:0<=t/\t<=4
 ·refine .inl ⟨ht,?_,?_⟩
  ·unfold dk
   rw [bD hg1,rp (l:=l) (g:=oF t) (e:=λx=>.inr x) (by omega) (λout i x g0 g1 hx hm ho=>?_) λout=>?_]
   ·rfl
   ·unfold c8
    rw [dX (by simpa using g1),show nth l i=some x by unfold nth; rw [if_neg (by omega)]; exact hx,ob9,(xU ht.1 ht.2 (hc x hm)).1,ob9,bD (by rfl)]
    exact Tot.eq (.bind (.app (by simp; omega)) λr hr=>.pure (by rw [hr]))
   ·unfold c8
    exact bD (by simp)
  ·unfold dA
   rw [hg2,ob9,bD (show (!true)=false from rfl),rp (l:=l) (g:=oF t) (e:=λx=>.inr x) (by omega) (λout i x g0 g1 hx hm ho=>?_) λout=>?_]
   ·rfl
   ·unfold da
    rw [dX (by simpa using g1),show nth l i=some x by unfold nth; rw [if_neg (by omega)]; exact hx,ob9,(xU ht.1 ht.2 (hc x hm)).2.1,ob9,bD (by rfl)]
    exact Tot.eq (.bind (.app (by simp; omega)) λr hr=>.pure (by rw [hr]))
   ·unfold da
    exact bD (by simp)
 ·obtain ⟨c,hcx⟩:∃ c,l[0]?=some c:=⟨_,List.getElem?_eq_getElem (by omega)⟩
  have hck:=hc c (List.mem_of_getElem? hcx)
  have hmx:=hck.max
  have ht':t<0\/4<t:=by omega
  obtain ⟨b1,b2⟩:=w7 (eQ:=c) (t:=t) (by omega) (.inr ht')
  have h0:nth l 0=some c:=hcx
  refine .inr ⟨ht,?_,?_⟩
  ·unfold dk
   rw [bD hg1,dg,show c8 l t ([],0)=some (.inr (.inl ([],false))) by
    unfold c8
    rw [dX (by simp; omega)]
    dsimp only
    rw [h0,ob9,b1,ob9]
    exact dX rfl]
   rfl
  ·unfold dA
   rw [hg2,ob9,bD (show (!true)=false from rfl),dg,show da l t ([],0)=some (.inr (.inl ([],false))) by
    unfold da
    rw [dX (by simp; omega)]
    dsimp only
    rw [h0,ob9,b2,ob9]
    exact dX rfl]
   rfl
def bF (t:Int) (l:List ah):List ab:=pF (oF t (gP l))
theorem Bo {t:Int} (h0:0<=t) (h4:t<=4) {R:Int} (hR:R<=3) {l:List ah} (h:VL R l):COk (bF t l)/\(bF t l).length<=(gP l).length:=by
 have h1:=(vE (Nat.le_refl 20) hR h).2
 obtain ⟨_,_,h2,h3⟩:=xU h0 h4 h1
 obtain ⟨_,_,h5,h6⟩:=Bm h2
 exact ⟨h5,by unfold bF; omega⟩
theorem wA {k:Nat} (hk:20<=k) {p:aA} (hb:PB p) (t:Int):((VP p/\0<=t/\t<=4)/\dc k p t=some (p.Tasks.map (bF t),true)/\fD k p t=some (p.Tasks.map (bF t),true))\/(¬ (VP p/\0<=t/\t<=4)/\dc k p t=some ([],false)/\fD k p t=some ([],false)):=by
 have ee:(⟨p.Rooms,p.Tasks⟩:aA)=p:=rfl
 unfold dc fD
 rw [ee]
 rcases Bn hk hb with ⟨hv,c1,c2⟩ | ⟨hv,c1,c2⟩
 ·have hn:=hv.2.1
  have hcs:∀ c∈p.Tasks.map gP,COk c:=λc hc=>by
   obtain ⟨l,hl,rfl⟩:=List.mem_map.1 hc
   exact (vE hk hv.rooms (hv.tasks l hl)).2
  rw [c1,c2,ob9,ob9,bD (by rfl),bD (by rfl)]
  rcases B9 (l:=p.Tasks.map gP) (by simpa using hn) hcs t with ⟨ht,o1,o2⟩ | ⟨ht,o1,o2⟩
  ·refine .inl ⟨⟨hv,ht⟩,?_,?_⟩
   ·rw [o1,ob9,bD (by rfl)]
    have hlen:((p.Tasks.map gP).map (oF t)).length=p.Tasks.length:=by simp
    have hok:∀ (i:Nat) (c:List ab),((p.Tasks.map gP).map (oF t))[i]?=some c->COk c:=λi c hc=>by
     obtain ⟨x,hx,rfl⟩:=List.mem_map.1 (List.mem_of_getElem? hc)
     exact (xU ht.1 ht.2 (hcs x hx)).2.2.1
    have hmm:((p.Tasks.map gP).map (oF t)).map pF=p.Tasks.map (bF t):=by simp [bF]
    rw [<-hmm]
    generalize (p.Tasks.map gP).map (oF t)=L at hlen hok
    refine Tot.eq (.bind (P:=λz=>z=.inr (L.map pF)) (.iter (λs=>0<=s.1/\s.1<=(L.length:Int)/\s.2=(L.take s.1.toNat).map pF++L.drop s.1.toNat) (λs=>((L.length:Int)-s.1).toNat) ⟨by simp,by simp,by simp⟩ λs hs=>?_) λz hz=>by rw [hz]; exact .pure rfl)
    obtain ⟨i,a⟩:=s
    obtain ⟨g0,g1,g2⟩:=hs
    simp only at g0 g1 g2
    unfold k8
    refine .sel (λh=>?_) λh=>.inr ?_
    ·simp only [decide_eq_true_eq] at h
     obtain ⟨c,hc⟩:∃ c,L[i.toNat]?=some c:=⟨_,List.getElem?_eq_getElem (by omega)⟩
     have htl:((L.take i.toNat).map pF).length=i.toNat:=by simp; omega
     have hdr:L.drop i.toNat=c::L.drop (i.toNat+1):=by
      rw [List.drop_eq_getElem_cons (by omega)]
      rw [List.getElem?_eq_getElem (by omega)] at hc
      rw [o9 hc]
     have hna:nth a i=some c:=by
      unfold nth
      rw [if_neg (by omega),g2,List.getElem?_append_right (by omega),htl,Nat.sub_self,hdr]
      rfl
     dsimp only
     rw [hna,ob9,(Bm (hok _ c hc)).1,ob9]
     refine .sf rfl (.inl ?_)
     rw [aq g0 (by omega)]
     refine ⟨⟨by simp only; omega,by simp only; omega,?_⟩,by simp only; omega⟩
     simp only
     rw [g2,List.set_append_right _ _ (by omega),htl,Nat.sub_self,hdr,show (i+1).toNat=i.toNat+1 by omega,List.take_add_one,hc]
     simp
    ·simp only [decide_eq_false_iff_not] at h
     rw [g2,List.take_of_length_le (by omega),List.drop_eq_nil_of_le (by omega)]
     simp
   ·rw [o2,ob9,bD (by rfl)]
    have hok:∀ c∈(p.Tasks.map gP).map (oF t),COk c:=λc hc=>by
     obtain ⟨x,hx,rfl⟩:=List.mem_map.1 hc
     exact (xU ht.1 ht.2 (hcs x hx)).2.2.1
    have hlen:((p.Tasks.map gP).map (oF t)).length=p.Tasks.length:=by simp
    have hmm:((p.Tasks.map gP).map (oF t)).map pF=p.Tasks.map (bF t):=by simp [bF]
    rw [<-hmm]
    generalize (p.Tasks.map gP).map (oF t)=L at hlen hok
    rw [rp (l:=L) (g:=pF) (e:=id) (by omega) (λout i x g0 g1 hx hm ho=>?_) λout=>?_]
    ·rfl
    ·unfold im
     rw [dX (by simpa using g1),show nth L i=some x by unfold nth; rw [if_neg (by omega)]; exact hx,ob9,(Bm (hok x hm)).2.1,ob9]
     exact Tot.eq (.bind (.app (by simp; omega)) λr hr=>.pure (by rw [hr]))
    ·unfold im
     exact bD (by simp)
  ·refine .inr ⟨λh=>ht h.2,?_,?_⟩
   ·rw [o1,ob9]; exact dX rfl
   ·rw [o2,ob9]; exact dX rfl
 ·refine .inr ⟨λh=>hv h.1,?_,?_⟩
  ·rw [c1,ob9]; exact dX rfl
  ·rw [c2,ob9]; exact dX rfl
end
noncomputable section
variable {b:List Int} {p m:Int}
def Dz (q:aA):Prop:=q.Rooms.length<=3/\(1<=q.Tasks.length/\q.Tasks.length<=3)/\∀ l∈q.Tasks,cts l<=1000
theorem Bp (hb:By b) (h0:0<=p) (hm:p<=m) (hp:m<=900000):Dr (kj ⟨b,p⟩) (m+4) λl=>l.length<=3:=by
 unfold kj
 refine .bind (bU hb h0 hm (by omega) (by omega) (by omega)) λx p1 hx h1 h2=>.tot (.nth hx.1 (by simpa using hx.2)) λn ⟨_,hn⟩=>?_
 have hn3:0<=n/\n<=3:=by
  simp at hn
  omega
 refine .tot (P:=λz=>0<=z.2/\z.2<=m+4/\z.1.length<=3) (.iter (λs=>0<=s.2.1/\s.2.1<=n/\(s.1.length:Int)=s.2.1/\0<=s.2.2/\s.2.2<=m+1+s.2.1) (λs=>(n-s.2.1).toNat) ⟨by simp,by simp only; omega,by simp,h1,by simp only; omega⟩ λs hs=>?_) λz hz=>.pure hz.2.2 hz.1 hz.2.1
 obtain ⟨out,i,q⟩:=s
 obtain ⟨g0,g1,g2,g3,g4⟩:=hs
 simp only at g0 g1 g2 g3 g4
 unfold mh
 refine .sel (λh=>?_) λh=>.inr ⟨g3,(show q<=m+4 by omega),(show out.length<=3 by omega)⟩
 simp only [decide_eq_true_eq] at h
 refine .bind (bU hb g3 g4 (by omega) (by omega) (by omega)) λy hy=>.bind (.nth hy.2.2.1 (by simpa using hy.2.2.2)) λw _=>.bind (.app (by simp; omega)) λr hr=>.inl ?_
 subst hr
 rw [aq g0 (by omega)]
 have hy1:=hy.2.1
 exact ⟨⟨by simp only; omega,by simp only; omega,by simp; omega,hy.1,by simp only; omega⟩,by simp only; omega⟩
theorem yK (hb:By b) {k:Nat} (hk:20<=k) (h0:0<=p) (hm:p<=m) (hp:m<=900000):Dr (iy k ⟨b,p⟩) (m+1000) λs=>ct s<=100:=by
 unfold iy
 rw [show cJ 0 1=some (Expr.mk 0 1 []) from rfl,ob9]
 refine .bind (bU hb h0 hm (by omega) (by omega) (by omega)) λx p1 hx h1 h2=>?_
 have e1:x*tc 1<=2*tc 1:=Int.mul_le_mul_of_nonneg_right (by omega) (by decide)
 have e2:(2:Int)*tc 1=600:=by decide
 dsimp only
 refine .bind (xG hb (nb:=0) (by omega) 1 (by omega) k (by omega) h1 h2 (by omega) (by omega) (by omega)) λl p2 hl h3 h4=>.pure ?_ h3 (by omega)
 have e3:x.toNat*sc 1<=2*sc 1:=Nat.mul_le_mul_right _ (by omega)
 have e4:2*sc 1=22:=by decide
 have:=hl.2
 rw [nS]
 simp only [cts]
 omega
theorem yL (hb:By b) {k:Nat} (hk:20<=k) (h0:0<=p) (hm:p<=m) (hp:m<=100000):Dr (iz k ⟨b,p⟩) (m+200000) Dz:=by
 unfold iz
 refine .bind (Bp hb h0 hm (by omega)) λR p1 hR h1 h2=>.bind (bU hb h1 h2 (by omega) (by omega) (by omega)) λx p2 hx h3 h4=>?_
 refine .tot (P:=λz=>(0<=z.1/\z.1<=m+5+120000)/\(1<=z.2.length/\z.2.length<=3)/\∀ l∈z.2,cts l<=1000) (.iter (λs=>0<=s.1/\s.1<=1+x/\(s.2.2.length:Int)=s.1/\(0<=s.2.1/\s.2.1<=m+5+40000*s.1)/\∀ l∈s.2.2,cts l<=1000) (λs=>(1+x-s.1).toNat) ⟨by simp,by simp only; omega,by simp,⟨h3,by simp only; omega⟩,by simp⟩ λs hs=>?_) λz hz=>.bind (bU (m:=m+5+120000) hb hz.1.1 hz.1.2 (by omega) (by omega) (by omega)) λy p3 hy h5 h6=>.sel (λ_=>?_) λ_=>.pure ⟨hR,hz.2.1,hz.2.2⟩ h5 (by omega)
 ·obtain ⟨i,q,out⟩:=s
  obtain ⟨g0,g1,g2,⟨g3,g4⟩,g5⟩:=hs
  simp only at g0 g1 g2 g3 g4 g5
  unfold kX
  dsimp only
  rw [aE (i:=1+x) (by omega) (by omega)]
  refine .sel (λh=>?_) λh=>.inr ⟨⟨g3,(show q<=m+5+120000 by simp only [decide_eq_false_iff_not] at h; omega)⟩,(show 1<=out.length/\out.length<=3 by simp only [decide_eq_false_iff_not] at h; omega),g5⟩
  simp only [decide_eq_true_eq] at h
  refine .bind (AX hb (by omega) hk g3 g4 (by omega)) λy hy=>.bind (.app (by simp; omega)) λr hr=>.inl ?_
  subst hr
  rw [aq g0 (by omega)]
  have hy1:=hy.2.1
  refine ⟨⟨by simp only; omega,by simp only; omega,by simp; omega,⟨hy.1,by simp only; omega⟩,λl hl=>?_⟩,by simp only; omega⟩
  simp only [List.mem_append,List.mem_singleton] at hl
  rcases hl with hl | rfl
  ·exact g5 l hl
  ·have:=hy.2.2.2; omega
 ·refine .bind (yK hb hk h5 h6 (by omega)) λs p4 hs h7 h8=>.tot (.nth (by omega) (by have:=hz.2.1.1; omega)) λ_ _=>.pure ⟨hR,?_,λl hl=>?_⟩ h7 (by omega)
  ·simp only [List.length_set]; exact hz.2.1
  ·rcases nR hl with h | rfl
   ·exact hz.2.2 l h
   ·simp only [cts]
    have he:ct (ah.mk s.Kind s.Var s.Box (Expr.mk s.Expr.Op s.Expr.N s.Expr.Args) s.Body s.Else)=ct s:=by rw [ah.eta']
    omega
theorem Bq (hb:By b) {k:Nat} (hk:20<=k) (h0:0<=p) (hm:p<=m) (hp:m<=100000):Dr (ko k ⟨b,p⟩) (m+300000) λq=>PB q:=by
 unfold ko
 refine .bind (yL hb hk h0 hm hp) λpr p1 hpr h1 h2=>.bind (bU hb h1 h2 (by omega) (by omega) (by omega)) λx p2 hx h3 h4=>?_
 obtain ⟨o1,o2,o3⟩:=hpr
 have PBo:PB ⟨pr.Rooms,pr.Tasks⟩:=⟨by simp only; omega,λl hl=>by have:=o3 l hl; omega,by simp only; omega⟩
 have get0:Tot (nth pr.Tasks 0) λl=>cts l<=1000/\l∈pr.Tasks:=(Tot.nth (by omega) (by omega)).mono λl hl=>⟨o3 l hl.2,hl.2⟩
 refine .sel (λ_=>?_) λ_=>.sel (λ_=>?_) λ_=>.sel (λ_=>?_) λ_=>.sel (λ_=>?_) λ_=>.sel (λ_=>?_) λ_=>.pure PBo h3 (by omega)
 ·refine .bind (bU hb h3 h4 (by omega) (by omega) (by omega)) λy p3 hy h5 h6=>.tot (.nth hy.1 (by simpa using hy.2)) λw _=>.tot (.app (by simp only [List.length_singleton]; omega)) λr hr=>.pure ⟨?_,PBo.2⟩ h5 (by omega)
  subst hr
  simp; omega
 ·refine .bind (zk hb h3 h4 (by omega)) λe p3 he h5 h6=>.tot (.app (by simp; omega)) λr hr=>.pure ⟨PBo.1,λl hl=>?_,?_⟩ h5 (by omega)
  ·subst hr
   simp only [List.mem_append,List.mem_singleton] at hl
   rcases hl with hl | rfl
   ·exact PBo.2.1 l hl
   ·simp [cts,ct]
  ·subst hr
   simp; omega
 ·exact .pure ⟨PBo.1,by simp,by simp⟩ h3 (by omega)
 ·refine .tot get0 λl hl=>.tot (.app (by simp; omega)) λr hr=>.pure ⟨PBo.1,λl' hl'=>?_,?_⟩ h3 (by omega)
  ·subst hr
   simp only [List.mem_append] at hl'
   rcases hl' with hl' | hl'
   ·exact PBo.2.1 l' hl'
   ·rw [(List.mem_replicate.1 hl').2]; have:=hl.1; omega
  ·subst hr
   simp; omega
 ·unfold fI
  refine .tot get0 λl hl=>?_
  have hll:=ip l
  have hl1:=hl.1
  refine .tot (.app (by simp only [List.length_singleton]; omega)) λr hr=>.pure ⟨PBo.1,λl' hl'=>?_,?_⟩ h3 (by omega)
  ·rcases nR hl' with h | rfl
   ·exact PBo.2.1 l' h
   ·rw [hr,uL]
    simp [cts,ct]
    omega
  ·simp only [List.length_set]; omega
theorem Br {l:List Int} (h:∀ x∈l,(λn=>(Lit.int .u8 n).wf=true) x):∀ x∈l,0<=x/\x<=255:=λx hx=>by
 have h1:(Lit.int .u8 x).wf=true:=h x hx
 simp [Lit.wf,IntKind.min,IntKind.max,IntKind.signed,IntKind.bits] at h1
 omega
end
noncomputable section
def nt {α:Type} (n:α->Nat):List α->Nat
 | []=>0
 | x::r=>n x+nt n r
end

end Go.Proofs.YtfpngipcclmliaaGreatDoor.N
