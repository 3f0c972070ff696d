/- Plain laws: the program's copies are the least too; the pass over copies does the same. Plain laws: places of registers: program and reference choose the same.  -/
import Derived.Test.YtmjebmhcbnkojaaGreatK3
import Derived.RowKit
import Derived.ChangeSlices
import Derived.ChangeArms
import Derived.WideShapes
import Derived.OpenShut
import Derived.LaidMore
import Derived.LaidLaws
import GoSem.ClaimJoined
set_option linter.unusedVariables false
set_option linter.unusedSimpArgs false
set_option maxRecDepth 100000
set_option maxHeartbeats 4000000
namespace Go.Proofs.YtmjebmhcbnkojaaGreat.N
open Go.Proofs.YtmjebmhcbnkojaaGreat.X
noncomputable section
def Ka (a:Ar Int) (f:Nat->ai):Prop:=∀ r,r<12->a r=dec r (f r)
theorem Ka.get {a:Ar Int} {f:Nat->ai} (h:Ka a f) {x:Int} (hx:Rg x):cn 12 a x=some (dec x.toNat (f x.toNat)):=by
 unfold Rg at hx
 unfold cn
 rw [if_pos (by omega),h x.toNat (by omega)]
theorem BQ {r:Nat} {a:ai} (h:CO r a) (hk:a.Kind≠0):enc r (dec r a)=a:=by
 unfold CO at h
 unfold enc dec
 by_cases h1:a.Kind=1
 ·rw [if_pos h1,if_neg (by omega)]
  exact ai.ext' h1.symm rfl
 ·rw [if_neg h1,if_pos rfl]
  exact ai.ext' (by show (2:Int)=_; omega) (by show (0:Int)=_; omega)
structure AIc (n:Nat) (known:List Bool) (all:List (Ar Int)) (S:Nat->Nat->ai):Prop where
 klen:known.length=n
 len:all.length=n
 kn:∀ i,i<n->known[i]?=some (decide ((S i 0).Kind≠0))
 at_:∀ i,i<n->∃ a,all[i]?=some a/\Ka a (S i)
theorem AIc.get {n:Nat} {known:List Bool} {all:List (Ar Int)} {S:Nat->Nat->ai} (h:AIc n known all S) {x:Int} (h0:0<=x) (h1:x<n):∃ a,nth known x=some (decide ((S x.toNat 0).Kind≠0))/\nth all x=some a/\Ka a (S x.toNat):=by
 obtain ⟨a,e,ha⟩:=h.at_ x.toNat (by omega)
 refine ⟨a,?_,?_,ha⟩
 ·unfold nth; rw [if_neg (by omega)]; exact h.kn _ (by omega)
 ·unfold nth; rw [if_neg (by omega)]; exact e
theorem AIc.set {n:Nat} {known:List Bool} {all:List (Ar Int)} {S S':Nat->Nat->ai} (h:AIc n known all S) {y:Int} (h0:0<=y) (h1:y<n) {a:Ar Int} (ha:Ka a (S' y.toNat)) (hk:(S' y.toNat 0).Kind≠0) (hS:∀ i,i≠y.toNat->S' i=S i):∃ k r,X.upd known y true=some k/\X.upd all y a=some r/\AIc n k r S':=by
 have hkl:=h.klen
 have hal:=h.len
 refine ⟨known.set y.toNat true,all.set y.toNat a,by unfold X.upd; rw [if_pos (by omega)],by unfold X.upd; rw [if_pos (by omega)],by rw [List.length_set]; exact hkl,by rw [List.length_set]; exact hal,λi hi=>?_,λi hi=>?_⟩
 ·by_cases e:i=y.toNat
  ·subst e
   rw [List.getElem?_set_self (by omega),decide_eq_true hk]
  ·rw [List.getElem?_set_ne (λh=>e h.symm),hS i e]
   exact h.kn i hi
 ·by_cases e:i=y.toNat
  ·subst e
   exact ⟨a,List.getElem?_set_self (by omega),ha⟩
  ·obtain ⟨l,el,hl⟩:=h.at_ i hi
   exact ⟨l,by rw [List.getElem?_set_ne (λh=>e h.symm)]; exact el,by rw [hS i e]; exact hl⟩
def fmC (n:Nat) (known:List Bool) (all:List (Ar Int)):Nat:=fmS n λi r=>if known[i]?.getD false then enc r ((all[i]?.getD λ_=>0) r) else ⟨0,0⟩
theorem AIc.fm {eQ:List ab} {known:List Bool} {all:List (Ar Int)} {S:Nat->Nat->ai} (h:AIc eQ.length known all S) (hg:GdC eQ S):fmC eQ.length known all=fmS eQ.length S:=nP λi hi=>nP λr hr=>by
 obtain ⟨a,e,ha⟩:=h.at_ i hi
 show rkF (if known[i]?.getD false then enc r ((all[i]?.getD λ_=>0) r) else ⟨0,0⟩)=_
 rw [h.kn i hi,e,Option.getD_some,Option.getD_some,ha r hr]
 by_cases hk:(S i 0).Kind=0
 ·rw [if_neg (by simpa using hk)]
  have:=hg.zero i hi hk r hr
  unfold rkF
  rw [if_pos this]
  rfl
 ·rw [if_pos (by simpa using hk),BQ (hg.ok i hi r hr) (hg.full i hi hk r hr)]
theorem z9:Tot j1 λa=>Ka a cC:=by
 unfold j1
 refine .bind (P:=λa=>Ka a cC) (.iter (λs=>0<=s.1/\s.1<=12/\∀ r:Nat,(r:Int)<s.1->s.2 r=(r:Int)) (λs=>(12-s.1).toNat) ⟨by simp,by simp,λr hr=>by simp only at hr; omega⟩ λs hs=>?_) λz hz=>.pure hz
 obtain ⟨i,a⟩:=s
 obtain ⟨g0,g1,g2⟩:=hs
 simp only at g0 g1 g2
 unfold lY
 refine .sel (λh=>?_) λh=>.inr (show Ka a cC from λr hr=>?_)
 ·simp only [decide_eq_true_eq] at h
  dsimp only
  rw [show cn 12 a i=some (a i.toNat) by unfold cn; rw [if_pos (by omega)],ob9,au g0 (by omega)]
  refine .inl ⟨⟨by simp only; omega,by simp only; omega,λr hr=>?_⟩,by simp only; omega⟩
  simp only at hr ⊢
  unfold mn
  by_cases e:r=i.toNat
  ·rw [if_pos e]; omega
  ·rw [if_neg e]; exact g2 r (by omega)
 ·simp only [decide_eq_false_iff_not] at h
  rw [g2 r (by omega)]
  rfl
theorem C6 {q:ab} {m:Int} (hq:QOk m q) {a:Ar Int} {f:Nat->ai} (ha:Ka a f):Tot (eH a q) λa'=>Ka a' (kO q f):=by
 unfold eH
 rw [oX,ob9]
 rcases mv hq with hs | hd'
 ·refine .st (by rw [hs]; decide) (.pure λr hr=>?_)
  unfold kO
  rw [hs,if_neg (by omega)]
  exact ha r hr
 have hd0:=hd'
 unfold Rg at hd0
 have hb:∀ r,kO q f r=if r=(aH q).toNat then (if q.Op=2 then enc r q.A else ⟨2,0⟩) else if dec r (f r)=aH q then ⟨2,0⟩ else f r:=λr=>by
  unfold kO
  rw [if_pos hd0.1]
 refine .sf (by simp; omega) (.bind (P:=λl2:Ar Int=>∀ r,r<12->l2 r=if (r:Int)=aH q\/dec r (f r)=aH q then (r:Int) else dec r (f r)) (.iter (λs=>0<=s.1/\s.1<=12/\∀ r:Nat,r<12->s.2 r=if (r:Int)<s.1/\((r:Int)=aH q\/dec r (f r)=aH q) then (r:Int) else dec r (f r)) (λs=>(12-s.1).toNat) ⟨by simp,by simp,λr hr=>?_⟩ λs hs=>?_) λl2 h2=>?_)
 ·rw [if_neg (λh=>by have:=h.1; simp only at this; omega)]
  exact ha r hr
 ·obtain ⟨i,c⟩:=s
  obtain ⟨g0,g1,g3⟩:=hs
  simp only at g0 g1 g3
  unfold iy
  refine .sel (λh=>?_) λh=>.inr λr hr=>?_
  ·simp only [decide_eq_true_eq] at h
   have hx:cn 12 c i=some (dec i.toNat (f i.toNat)):=by
    unfold cn
    rw [if_pos (by omega),g3 _ (by omega),if_neg (λh=>by have:=h.1; omega)]
   dsimp only
   rw [hx,ob9,au g0 (by omega)]
   refine .bind (P:=λz:Ar Int=>∀ r:Nat,r<12->z r=if (r:Int)<i+1/\((r:Int)=aH q\/dec r (f r)=aH q) then (r:Int) else dec r (f r)) (.bind (P:=λb=>b=true↔(i=aH q\/dec i.toNat (f i.toNat)=aH q)) (.sel (λhh=>.pure ?_) λhh=>.pure ?_) λb hbb=>.sel (λhe=>?_) λhe=>.pure λr hr=>?_) λz hz=>.inl ⟨⟨by simp only; omega,by simp only; omega,hz⟩,by simp only; omega⟩
   ·have:i=aH q:=by simpa using hh
    simp [this]
   ·have:i≠aH q:=by simpa using hh
    simp [this]
   ·rw [ob9]
    refine .pure λr hr=>?_
    unfold mn
    by_cases e:r=i.toNat
    ·have hcc:(r:Int)<i+1/\((r:Int)=aH q\/dec r (f r)=aH q):=⟨by omega,(hbb.1 he).imp (λh=>by omega) λh=>by rw [e]; exact h⟩
     rw [if_pos e,if_pos hcc]
     omega
    ·rw [if_neg e,g3 r hr]
     by_cases e2:(r:Int)=aH q\/dec r (f r)=aH q
     ·by_cases e3:(r:Int)<i
      ·rw [if_pos ⟨e3,e2⟩,if_pos ⟨by omega,e2⟩]
      ·rw [if_neg (λh=>e3 h.1),if_neg (λh=>by have:=h.1; omega)]
     ·rw [if_neg (λh=>e2 h.2),if_neg (λh=>e2 h.2)]
   ·rw [g3 r hr]
    by_cases e2:(r:Int)=aH q\/dec r (f r)=aH q
    ·have e3:r≠i.toNat:=by
      rintro rfl
      rw [hbb.2 (e2.imp (λh=>by omega) id)] at he
      cases he
     by_cases e4:(r:Int)<i
     ·rw [if_pos ⟨e4,e2⟩,if_pos ⟨by omega,e2⟩]
     ·rw [if_neg (λh=>e4 h.1),if_neg (λh=>by have:=h.1; omega)]
    ·rw [if_neg (λh=>e2 h.2),if_neg (λh=>e2 h.2)]
  ·simp only [decide_eq_false_iff_not] at h
   show c r=_
   rw [g3 r hr]
   by_cases e2:(r:Int)=aH q\/dec r (f r)=aH q
   ·rw [if_pos ⟨by omega,e2⟩,if_pos e2]
   ·rw [if_neg (λh=>e2 h.2),if_neg e2]
 ·have hg:cn 12 l2 (aH q)=some (l2 (aH q).toNat):=by unfold cn; rw [if_pos (by omega)]
  rw [hg,ob9]
  refine .sel (λh=>.pure λr hr=>?_) λh=>.pure λr hr=>?_
  ·have h2':q.Op=2:=by simpa using h
   rw [hb]
   unfold mn
   by_cases e:r=(aH q).toNat
   ·rw [if_pos e,if_pos e,if_pos h2',zw]
   ·rw [if_neg e,if_neg e,h2 r hr]
    by_cases e2:dec r (f r)=aH q
    ·rw [if_pos (.inr e2),if_pos e2]; rfl
    ·rw [if_neg (λh=>h.elim (λh=>e (by omega)) e2),if_neg e2]
  ·have h2':q.Op≠2:=by simpa using h
   rw [hb,h2 r hr]
   by_cases e:r=(aH q).toNat
   ·rw [if_pos e,if_neg h2',if_pos (.inl (by omega))]; rfl
   ·rw [if_neg e]
    by_cases e2:dec r (f r)=aH q
    ·rw [if_pos (.inr e2),if_pos e2]; rfl
    ·rw [if_neg (λh=>h.elim (λh=>e (by omega)) e2),if_neg e2]
theorem CG {a b:Ar Int} {f v:Nat->ai} (ha:Ka a f) (hb:Ka b v) (hf:FoC f) (hv:FoC v) (kf:qC f) (kv:qC v):Tot (gn a b) λz=>Ka z λr=>aR (f r) (v r):=by
 unfold gn
 refine .bind (P:=λz=>Ka z λr=>aR (f r) (v r)) (.iter (λs=>0<=s.1/\s.1<=12/\∀ r:Nat,r<12->s.2 r=if (r:Int)<s.1 then dec r (aR (f r) (v r)) else dec r (f r)) (λs=>(12-s.1).toNat) ⟨by simp,by simp,λr hr=>by simp only; rw [if_neg (by omega)]; exact ha r hr⟩ λs hs=>?_) λz hz=>.pure hz
 obtain ⟨i,c⟩:=s
 obtain ⟨g0,g1,g2⟩:=hs
 simp only at g0 g1 g2
 unfold jW
 refine .sel (λhlt=>?_) λhge=>.inr (show Ka c _ from λr hr=>?_)
 ·simp only [decide_eq_true_eq] at hlt
  have hrr:Rg i:=by unfold Rg; omega
  have hi:i.toNat<12:=by omega
  have hc:cn 12 c i=some (dec i.toNat (f i.toNat)):=by
   unfold cn
   rw [if_pos (by omega),g2 _ (by omega),if_neg (by omega)]
  have hdj:=uM (hf i.toNat hi) (hv i.toNat hi) (kf _ hi) (kv _ hi)
  simp only [hc,ob9,hb.get hrr,au g0 (show i<=9223372036854775806 by omega)]
  refine .bind (P:=λz:Ar Int=>∀ r:Nat,r<12->z r=if (r:Int)<i+1 then dec r (aR (f r) (v r)) else dec r (f r)) (.sel (λh=>.pure λr hr=>?_) λh=>.pure λr hr=>?_) λz hz=>.inl ⟨⟨by simp only; omega,by simp only; omega,hz⟩,by simp only; omega⟩
  ·unfold mn
   by_cases e:r=i.toNat
   ·rw [if_pos e,if_pos (by omega),e,hdj,if_neg (by simpa using h)]
    omega
   ·rw [if_neg e,g2 r hr]
    by_cases e2:(r:Int)<i
    ·rw [if_pos e2,if_pos (by omega)]
    ·rw [if_neg e2,if_neg (by omega)]
  ·rw [g2 r hr]
   by_cases e:r=i.toNat
   ·rw [if_neg (by omega),if_pos (by omega),e,hdj,if_pos (by simpa using h)]
   ·by_cases e2:(r:Int)<i
    ·rw [if_pos e2,if_pos (by omega)]
    ·rw [if_neg e2,if_neg (by omega)]
 ·simp only [decide_eq_false_iff_not] at hge
  rw [g2 r hr,if_pos (by omega)]
structure CW (eQ:List ab) (work:List Int) (S:Nat->Nat->ai):Prop where
 gd:GdC eQ S
 mem:∀ w∈work,0<=w/\w<eQ.length/\(S w.toNat 0).Kind≠0
theorem CH {eQ:List ab} (hc:COk eQ) {b:Ar Int} {v:Nat->ai} (hb:Ka b v) {ys:List Int} (hin:∀ y∈ys,0<=y/\y<eQ.length) (hlen:ys.length<=2) (hgv:∀ y∈ys,GVC eQ y.toNat v) {work:List Int} {known:List Bool} {all:List (Ar Int)} {S:Nat->Nat->ai} (hA:AIc eQ.length known all S) (hW:CW eQ work S) (hbd:fmS eQ.length S+work.length<=14401) :
  Tot (aB (ft b ys) (work,0,known,all)) λz=>∃ S',AIc eQ.length z.2.1 z.2.2 S'/\CW eQ z.1 S'/\fmS eQ.length S'+z.1.length<=fmS eQ.length S+work.length/\(∀ w∈work,w∈z.1)/\(∀ i:Nat,i<eQ.length->(i:Int)∉z.1->S' i=S i)/\(∀ i,i<eQ.length->io (S i) (S' i))/\∀ y∈ys,io v (S' y.toNat):=by
 refine .iter (λs=>0<=s.2.1/\s.2.1<=(ys.length:Int)/\∃ S',AIc eQ.length s.2.2.1 s.2.2.2 S'/\CW eQ s.1 S'/\fmS eQ.length S'+s.1.length<=fmS eQ.length S+work.length/\(∀ w∈work,w∈s.1)/\(∀ i:Nat,i<eQ.length->(i:Int)∉s.1->S' i=S i)/\(∀ i,i<eQ.length->io (S i) (S' i))/\∀ y∈ys.take s.2.1.toNat,io v (S' y.toNat)) (λs=>((ys.length:Int)-s.2.1).toNat)
  ⟨by simp,by simp,S,hA,hW,Nat.le_refl _,λw h=>h,λ_ _ _=>rfl,λi hi r hr=>.refl _,by simp⟩ λs hs=>?_
 obtain ⟨wk,j,kn,a⟩:=s
 obtain ⟨g0,g1,S1,k1,k2,k3,k4,k5,k6,k7⟩:=hs
 simp only at g0 g1 k1 k2 k3 k4 k5 k6 k7
 unfold ft
 dsimp only
 refine .sel (λhlt=>?_) λhge=>.inr ⟨S1,k1,k2,k3,k4,k5,k6,λy hy=>k7 y ?_⟩
 rotate_left
 ·simp only [decide_eq_false_iff_not] at hge
  rw [List.take_of_length_le (by omega)]
  exact hy
 simp only [decide_eq_true_eq] at hlt
 refine .bind (P:=λz:List Int×List Bool×List (Ar Int)=>∃ S',AIc eQ.length z.2.1 z.2.2 S'/\CW eQ z.1 S'/\fmS eQ.length S'+z.1.length<=fmS eQ.length S+work.length/\(∀ w∈work,w∈z.1)/\(∀ i:Nat,i<eQ.length->(i:Int)∉z.1->S' i=S i)/\(∀ i,i<eQ.length->io (S i) (S' i))/\∀ y∈ys.take (j+1).toNat,io v (S' y.toNat)) (.bind (.nth g0 hlt) λy ⟨hy,hym⟩=>?_) λz hz=>.inl ⟨⟨by simp only; rw [au g0 (by omega)]; omega,by simp only; rw [au g0 (by omega)]; omega,by simp only; rw [au g0 (by omega)]; exact hz⟩,by simp only; rw [au g0 (by omega)]; omega⟩
 obtain ⟨y0,y1⟩:=hin y hym
 have hgy:=hgv y hym
 have hyn:y.toNat<eQ.length:=by omega
 have ht:ys.take (j+1).toNat=ys.take j.toNat++[y]:=by rw [show (j+1).toNat=j.toNat+1 by omega,List.take_add_one,hy]; rfl
 obtain ⟨a1,e0,e1,h1⟩:=k1.get y0 y1
 have hSy:=k2.gd.ok _ hyn
 have hup:up1 S1 y.toNat v y.toNat=λr=>aR (S1 y.toNat r) (v r):=by unfold up1; rw [if_pos rfl]
 have hupk:(up1 S1 y.toNat v y.toNat 0).Kind≠0:=by rw [hup]; exact gI (hgy.full 0 (by decide))
 have hmono:∀ i,i<eQ.length->io (S i) (up1 S1 y.toNat v i):=λi hi r hr=>by
  unfold up1
  split
  ·rename_i e
   subst e
   exact leF.trans (k2.gd.ok _ hi r hr).fok (k6 _ hi r hr) aR.le1
  ·exact k6 i hi r hr
 rw [e0,ob9,e1]
 refine .bind (P:=λz=>Ka z (up1 S1 y.toNat v y.toNat)) (.sel (λhk=>?_) λhk=>.pure ?_) λz hz=>?_
 ·have hk':(S1 y.toNat 0).Kind≠0:=by simpa using hk
  rw [ob9,hup]
  exact .bind (CG h1 hb hSy hgy.ok (k2.gd.full _ hyn hk') hgy.full) λz hz=>.pure hz
 ·have hk':(S1 y.toNat 0).Kind=0:=by simpa using hk
  rw [hup]
  intro r hr
  show b r=dec r (aR _ _)
  unfold aR
  rw [if_pos (k2.gd.zero _ hyn hk' r hr)]
  exact hb r hr
 rw [ob9,ob9,ob9]
 refine .bind (P:=λt=>(t=true->∃ r,r<12/\aR (S1 y.toNat r) (v r)≠S1 y.toNat r)/\(t=false->∀ r,r<12->aR (S1 y.toNat r) (v r)=S1 y.toNat r)) (.sel (λhk=>.pure ⟨λ_=>⟨0,by decide,λh=>?_⟩,λh=>by cases h⟩) λhk=>.pure ⟨λhne=>?_,λhe r hr=>?_⟩) λt htt=>?_
 ·have hk':(S1 y.toNat 0).Kind=0:=by simpa using hk
  have:=gI (a:=S1 y.toNat 0) (hgy.full 0 (by decide))
  rw [h] at this
  exact this hk'
 ·refine Classical.byContradiction λhno=>?_
  have:aeq 12 (λ(x y:Int)=>x==y) z a1=true:=rf.2 λr hr=>by
   rw [hz r hr,h1 r hr,hup]
   have:aR (S1 y.toNat r) (v r)=S1 y.toNat r:=Classical.byContradiction λhh=>hno ⟨r,hr,hh⟩
   show (dec r (aR (S1 y.toNat r) (v r))==_)=true
   rw [this]
   simp
  rw [this] at hne
  cases hne
 ·have hk':(S1 y.toNat 0).Kind≠0:=by simpa using hk
  have hfu:=k2.gd.full _ hyn hk'
  have h2:=rf.1 (by simpa using he:aeq 12 (λ(x y:Int)=>x==y) z a1=true) r hr
  rw [hz r hr,h1 r hr,hup] at h2
  exact ((hSy r hr).join (hgy.ok r hr)).inj (hSy r hr) (gI (hgy.full r hr)) (hfu r hr) (by simpa using h2)
 refine .sel (λhne=>?_) λhe=>.pure ?_
 ·have hdec:=Ba hyn (λr hr=>(hSy r hr).fok) (λr hr=>(hgy.ok r hr).fok) (htt.1 hne)
  obtain ⟨kk,r,ek,er,hr⟩:=k1.set (S':=up1 S1 y.toNat v) y0 y1 hz hupk λi hi=>by unfold up1; rw [if_neg hi]
  rw [ek,ob9,ob9,er,ob9]
  refine .bind (.app (by simp; omega)) λr5 hr5=>.pure ⟨up1 S1 y.toNat v,hr,⟨k2.gd.up hgy,λw hw=>?_⟩,?_,λw hw=>?_,λi hi hn=>?_,hmono,λy' hy'=>?_⟩
  ·subst hr5
   have hnz:∀ i,i<eQ.length->(S1 i 0).Kind≠0->(up1 S1 y.toNat v i 0).Kind≠0:=λi hi hk=>by
    unfold up1
    split
    ·exact gI (hgy.full 0 (by decide))
    ·exact hk
   rcases List.mem_append.1 hw with h' | h'
   ·obtain ⟨m1,m2,m3⟩:=k2.mem w h'
    exact ⟨m1,m2,hnz _ (by omega) m3⟩
   ·rw [List.mem_singleton.1 h']
    exact ⟨y0,y1,hupk⟩
  ·subst hr5
   simp only [List.length_append,List.length_singleton]
   omega
  ·subst hr5
   exact List.mem_append.2 (.inl (k4 w hw))
  ·subst hr5
   simp only [List.mem_append,List.mem_singleton,not_or] at hn
   have hne2:i≠y.toNat:=λe=>hn.2 (by omega)
   unfold up1
   rw [if_neg hne2]
   exact k5 i hi hn.1
  ·rw [ht] at hy'
   rcases List.mem_append.1 hy' with h' | h'
   ·intro r hr
    obtain ⟨b0,b1⟩:=hin y' (List.mem_of_mem_take h')
    unfold up1
    split
    ·rename_i e
     rw [<-e]
     exact leF.trans (k2.gd.ok _ (by omega) r hr).fok (k7 y' h' r hr) aR.le1
    ·exact k7 y' h' r hr
   ·rw [List.mem_singleton.1 h']
    intro r hr
    rw [hup]
    exact aR.le2
 ·have habs:=htt.2 he
  refine ⟨S1,k1,k2,k3,k4,k5,k6,λy' hy'=>?_⟩
  rw [ht] at hy'
  rcases List.mem_append.1 hy' with h' | h'
  ·exact k7 y' h'
  ·rw [List.mem_singleton.1 h']
   exact λr hr=>by rw [<-habs r hr]; exact aR.le2
theorem BS {eQ:List ab} (hc:COk eQ):Tot (dy eQ) λall=>∃ S,(all.length=eQ.length/\∀ i,i<eQ.length->∃ a,all[i]?=some a/\Ka a (S i))/\GdC eQ S/\ClC eQ S:=by
 have hmx:=hc.max
 have h1:=hc.one
 unfold dy
 refine .bind (.mk (by omega) (by omega)) λl hl=>.bind (.mk (by omega) (by omega)) λl2 hl2=>?_
 have hll:l.length=eQ.length:=by rw [hl]; simp
 have hll2:l2.length=eQ.length:=by rw [hl2]; simp
 refine .bind (P:=λs:List (Ar Int)=>s.length=eQ.length/\∀ i:Nat,i<eQ.length->∃ a,s[i]?=some a/\Ka a cC) (.iter (λs=>0<=s.1/\s.1<=(eQ.length:Int)/\s.2.length=eQ.length/\∀ i:Nat,(i:Int)<s.1->∃ a,s.2[i]?=some a/\Ka a cC) (λs=>((eQ.length:Int)-s.1).toNat) ⟨by simp,by simp,hll,λi hi=>by simp only at hi; omega⟩ λs hs=>?_) λl3 ⟨g1,g2⟩=>.bind (.nth (by omega) (by omega)) λ_ _=>.bind (.upd (by omega) (by omega)) λl4 hl4=>?_
 ·obtain ⟨i,a⟩:=s
  obtain ⟨g0,g1,g2,g3⟩:=hs
  simp only at g0 g1 g2 g3
  unfold iW
  refine .sel (λhlt=>?_) λhge=>.inr ⟨g2,λj hj=>g3 j (by simp only [decide_eq_false_iff_not,hll] at hge; omega)⟩
  simp only [decide_eq_true_eq,hll] at hlt
  refine .bind z9 λz hz=>.bind (.nth g0 (by rw [g2]; exact hlt)) λ_ _=>.bind (.upd g0 (by rw [g2]; exact hlt)) λr hr=>.inl ?_
  subst hr
  rw [au g0 (by omega)]
  refine ⟨⟨by simp only; omega,by simp only; omega,by simp only; rw [List.length_set]; exact g2,λj hj=>?_⟩,by simp only; omega⟩
  simp only at hj ⊢
  by_cases e:j=i.toNat
  ·subst e
   exact ⟨z,List.getElem?_set_self (by omega),hz⟩
  ·rw [List.getElem?_set_ne (λh=>e h.symm)]
   exact g3 j (by omega)
 have hA0:AIc eQ.length l4 l3 S0C:=by
  refine ⟨by rw [hl4,List.length_set]; exact hll2,g1,λi hi=>?_,λi hi=>?_⟩
  ·rw [hl4]
   unfold S0C
   by_cases e:i=0
   ·subst e
    rw [show (0:Int).toNat=0 from rfl,List.getElem?_set_self (by omega),if_pos rfl]
    rfl
   ·rw [show (0:Int).toNat=0 from rfl,List.getElem?_set_ne (λh=>e h.symm),if_neg e,hl2,List.getElem?_replicate,if_pos (by simpa using hi)]
    rfl
  ·obtain ⟨a,ea,ha⟩:=g2 i hi
   refine ⟨a,ea,λr hr=>?_⟩
   rw [ha r hr]
   unfold S0C
   split <;> rfl
 refine .bind (P:=λz:List Bool×List (Ar Int)=>∃ S,AIc eQ.length z.1 z.2 S/\GdC eQ S/\ClC eQ S) (.iter (λs=>∃ S,AIc eQ.length s.2.1 s.2.2 S/\CW eQ s.1 S/\fmS eQ.length S+s.1.length<=14401/\∀ i:Nat,i<eQ.length->(S i 0).Kind≠0->(i:Int)∉s.1->Bf eQ S i) (λs=>fmC eQ.length s.2.1 s.2.2+s.1.length) ⟨S0C,hA0,⟨C5 h1,λw hw=>?_⟩,?_,λi hi hk hn=>?_⟩ λs hs=>?_) λz ⟨S,z1,z2,z3⟩=>.pure ⟨S,⟨z1.len,z1.at_⟩,z2,z3⟩
 ·rw [List.mem_singleton.1 hw]
  refine ⟨by omega,by omega,?_⟩
  show (2:Int)≠0
  decide
 ·have:=@zt eQ.length S0C
  simp only [List.length_singleton]
  omega
 ·exfalso
  simp only at hn
  unfold S0C at hk
  by_cases e:i=0
  ·subst e; simp at hn
  ·rw [if_neg e] at hk; exact hk rfl
 ·obtain ⟨work,kn,a⟩:=s
  obtain ⟨S,hA,hW,hbd,hcl⟩:=hs
  simp only at hA hW hbd hcl
  unfold iX
  dsimp only
  refine .sel (λhlt=>?_) λhge=>.inr ?_
  rotate_left
  ·simp only [gt_iff_lt,decide_eq_false_iff_not] at hge
   have hnil:work=[]:=List.eq_nil_of_length_eq_zero (by omega)
   subst hnil
   exact ⟨S,hA,hW.gd,hW.gd.ok,hW.gd.init,λi q hq hk y hy=>hcl i (bH hq) hk (by simp) q hq hk y hy⟩
  simp only [gt_iff_lt,decide_eq_true_eq] at hlt
  rw [a8 (by omega) (by omega)]
  refine .bind (.nth (by omega) (by omega)) λx ⟨hx,hxm⟩=>.bind (.cut ⟨by omega,by omega,by omega⟩) λr3 hr3=>?_
  have hr3':r3=work.dropLast:=by
   rw [hr3,show ((0:Int)).toNat=0 from rfl,List.drop_zero,List.dropLast_eq_take,show ((work.length:Int)-1).toNat=work.length-1 by omega]
  have hsplit:work=r3++[x]:=by
   have hne:work≠[]:=by rintro rfl; simp at hlt
   have hl:=List.dropLast_concat_getLast hne
   have hx2:work.getLast hne=x:=by
    have:work[work.length-1]?=some (work.getLast hne):=by
     rw [List.getLast_eq_getElem]
     exact List.getElem?_eq_getElem (by omega)
    rw [show ((work.length:Int)-1).toNat=work.length-1 by omega] at hx
    exact o9 (this.symm.trans hx)
   rw [hr3',<-hx2]
   exact hl.symm
  have hwlen:work.length=r3.length+1:=by rw [hsplit]; simp
  obtain ⟨x0,x1,xk⟩:=hW.mem x hxm
  have ex:((x.toNat:Nat):Int)=x:=by omega
  obtain ⟨b,_,eb,hb⟩:=hA.get x0 x1
  obtain ⟨q,hq⟩:∃ q,eQ[x.toNat]?=some q:=⟨_,List.getElem?_eq_getElem (by omega)⟩
  have hqm:=List.mem_of_getElem? hq
  have hqok:=hc.q q hqm
  have hnq:nth eQ x=some q:=by unfold nth; rw [if_neg (by omega)]; exact hq
  rw [eb,ob9,hnq,ob9]
  refine .bind (C6 hqok hb) λv hv=>?_
  rw [ob9,re x0 (by omega),ob9]
  have hin:∀ y∈nx q x,0<=y/\y<eQ.length:=λy hy=>q9 hc hq y (by rw [ex]; exact hy)
  have hgv:∀ y∈nx q x,GVC eQ y.toNat (kO q (S x.toNat)):=λy hy=>Be hc hW.gd hq xk (by rw [ex]; exact hy)
  refine .bind (CH hc hv hin (@Bg q x) hgv (work:=r3) hA ⟨hW.gd,λw hw=>hW.mem w (by rw [hsplit]; simp [hw])⟩ (by omega)) λz hz=>.inl ?_
  obtain ⟨S',z1,z2,z3,z4,z5,z6,z7⟩:=hz
  refine ⟨⟨S',z1,z2,by simp only; omega,λi hi hk hn=>?_⟩,?_⟩
  ·simp only at hn
   have he:=z5 i hi hn
   intro q' hq' hk' y hy
   rw [he] at hk' ⊢
   by_cases e:i=x.toNat
   ·subst e
    obtain rfl:=o9 (hq.symm.trans hq')
    rw [ex] at hy
    exact z7 y hy
   ·have hnw:(i:Int)∉work:=by
     rw [hsplit]
     simp only [List.mem_append,List.mem_singleton,not_or]
     exact ⟨λh=>hn (z4 _ h),λh=>e (by omega)⟩
    obtain ⟨b0,b1⟩:=q9 hc hq' y hy
    have h2:=hcl i hi hk' hnw q' hq' hk' y hy
    exact λr hr=>leF.trans (hW.gd.ok _ (by omega) r hr).fok (h2 r hr) (z6 _ (by omega) r hr)
  ·simp only
   rw [z1.fm z2.gd,hA.fm hW.gd]
   omega
theorem Aa {eQ:List ab} (hc:COk eQ):∃ all all' S,dy eQ=some all/\dY eQ=some all'/\(all.length=eQ.length/\∀ i,i<eQ.length->∃ a,all[i]?=some a/\Ka a (S i))/\AE eQ.length all' S/\∀ i,i<eQ.length->FoC (S i):=by
 obtain ⟨a,ea,S,h1,h2,h3⟩:=BS hc
 obtain ⟨a',ea',S',h1',h2',h3'⟩:=BP hc
 refine ⟨a,a',S,ea,ea',h1,⟨h1'.1,λi hi=>?_⟩,h2.ok⟩
 obtain ⟨l,e,hl⟩:=h1'.2 i hi
 exact ⟨l,e,hl.congr λr hr=>leF.anti (h2'.ok i hi r hr).fok (h2.ok i hi r hr).fok (h2'.min S h3 i hi r hr) (h2.min S' h3' i hi r hr)⟩
def rdQ (q:ab) (f:Nat->ai):ab:=if q.Op=2\/q.Op=5\/q.Op=6\/q.Op=9 then ⟨q.Op,q.Dst,dec q.A.toNat (f q.A.toNat),q.B,q.N⟩ else if q.Op=3 then ⟨q.Op,q.Dst,dec q.A.toNat (f q.A.toNat),dec q.B.toNat (f q.B.toNat),q.N⟩ else q
theorem C7 {q:ab} {m:Int} (hq:QOk m q) {l:List Int} {f:Nat->ai} (hl:Cs l f):g7 q l=some (rdQ q f):=by
 refine Tot.eq ?_
 unfold g7 rdQ
 refine .bind (P:=λb=>b=true↔(q.Op=2\/q.Op=5\/q.Op=6\/q.Op=9)) (.sel (λh=>.pure ?_) λh=>.sel (λh'=>.pure ?_) λh'=>.sel (λh''=>.pure ?_) λh''=>.pure ?_) λb hb=>.sel (λhbt=>?_) λhbf=>.sel (λh=>?_) λh=>.pure ?_
 ·simp only [beq_iff_eq] at *; simp [h]
 ·simp only [beq_iff_eq] at *; simp [h']
 ·simp only [beq_iff_eq] at *; simp [h'']
 ·simp only [beq_eq_false_iff_ne,ne_eq] at *; simp [h,h',h'']
 ·rw [hl.get (oY hq (hb.1 hbt)),ob9,if_pos (hb.1 hbt)]
  exact .pure rfl
 ·have h3:q.Op=3:=by simpa using h
  obtain ⟨rA,rB⟩:=nK hq h3
  rw [hl.get rA,ob9,hl.get rB,ob9,if_neg (by omega),if_pos h3]
  exact .pure rfl
 ·have h3:q.Op≠3:=by simpa using h
  rw [if_neg (λhh=>by rw [hb.2 hh] at hbf; cases hbf),if_neg h3]
def PC (eQ:List ab) (S:Nat->Nat->ai) (i:Nat) (q':ab):Prop:=∃ q,eQ[i]?=some q/\q'=rdQ q (S i)
theorem PC.inj {eQ:List ab} {S:Nat->Nat->ai} (i:Nat) (q q':ab) (h:PC eQ S i q) (h':PC eQ S i q'):q=q':=by
 obtain ⟨a,h1,h2⟩:=h
 obtain ⟨a',h1',h2'⟩:=h'
 obtain rfl:=o9 (h1.symm.trans h1')
 rw [h2,h2']
theorem BT {q:ab} {m:Int} (h:QOk m q):Tot (iM q) λu=>u≠0↔(q.Op=2\/q.Op=5\/q.Op=6\/q.Op=9\/q.Op=3):=(Cb h).mono λu ⟨hu,hb⟩=>by
 have h0:u=0->∀ r:Nat,(gG q).contains (r:Int)=false:=λe r=>by
  rw [<-hb,e]
  unfold bt
  simp
 constructor
 ·intro hne
  refine Classical.byContradiction λhno=>hne (hu.ext ⟨by decide,by decide⟩ λr hr=>?_)
  rw [hb]
  unfold gG
  rw [if_neg (by omega),if_neg (by omega)]
  unfold bt
  simp
 ·intro ho e
  have hr:Rg q.A/\(gG q).contains q.A=true:=by
   by_cases h4:q.Op=2\/q.Op=5\/q.Op=6\/q.Op=9
   ·refine ⟨oY h h4,?_⟩
    unfold gG
    rw [if_pos h4]
    simp
   ·have h3:q.Op=3:=by omega
    refine ⟨(nK h h3).1,?_⟩
    unfold gG
    rw [if_neg h4,if_pos h3]
    split
    ·simp
    ·rcases Int.le_total q.A q.B with hh | hh
     ·rw [Int.min_eq_left hh]; simp
     ·rw [Int.max_eq_left hh]; simp
  have:=h0 e q.A.toNat
  have h5:=hr.1
  unfold Rg at h5
  rw [show ((q.A.toNat:Nat):Int)=q.A by omega,hr.2] at this
  cases this
theorem BU:mb j2 fU:=mb.of xM λ{eQ} hc=>by
 have hmx:=hc.max
 obtain ⟨all,all',S,ea,es,hA,hS,hf⟩:=Aa hc
 have hal:=hA.1
 have A:Tot (aB (gp eQ all) (0,eQ)) λout=>out.length=eQ.length/\∀ i q',out[i]?=some q'->PC eQ S i q':=by
  refine oZ (PC eQ S) hmx (λi out q h0 h1 h2 hq ho=>?_) λout=>?_
  ·unfold gp
   dsimp only
   have hqm:q∈eQ:=List.mem_of_getElem? hq
   obtain ⟨a,e1,k1⟩:=hA.2 i.toNat (by omega)
   have e1':nth all i=some a:=by unfold nth; rw [if_neg (by omega)]; exact e1
   have hnq:nth eQ i=some q:=by unfold nth; rw [if_neg (by omega)]; exact hq
   have hno:nth out i=some q:=by unfold nth; rw [if_neg (by omega)]; exact ho
   refine .st (by rw [hal]; simpa using h1) (.bind (P:=λz=>∃ q',z=out.set i.toNat q'/\PC eQ S i.toNat q') ?_ λz ⟨q',hz,hp⟩=>.inl ⟨q',by rw [au h0 (by omega),hz],hp⟩)
   rw [e1',ob9,hnq,ob9]
   refine .bind (BT (hc.q q hqm)) λu hu=>?_
   have hself:out=out.set i.toNat q:=(List.ext_getElem? λj=>by
    by_cases e:j=i.toNat
    ·subst e
     rw [List.getElem?_set_self (by omega),ho]
    ·rw [List.getElem?_set_ne (λh=>e h.symm)])
   refine .bind (P:=λz=>z=out.set i.toNat (if u≠0 then ab.mk q.Op q.Dst (dec q.A.toNat (S i.toNat q.A.toNat)) q.B q.N else q)) (.sel (λhn=>?_) λhn=>.pure ?_) λz hz=>?_
   ·have hn':u≠0:=by simpa using hn
    have hrA:Rg q.A:=by
     by_cases h4:q.Op=2\/q.Op=5\/q.Op=6\/q.Op=9
     ·exact oY (hc.q q hqm) h4
     ·exact (nK (hc.q q hqm) (by have:=hu.1 hn'; omega)).1
    rw [ob9,k1.get hrA,ob9,hno,ob9,if_pos hn']
    exact .bind (.upd h0 (by rw [h2]; exact h1)) λr hr=>.pure hr
   ·have hn':u=0:=by simpa using hn
    rw [if_neg (λh=>h hn')]
    exact hself
   ·rw [ob9]
    have hzn:nth z i=some (if u≠0 then ab.mk q.Op q.Dst (dec q.A.toNat (S i.toNat q.A.toNat)) q.B q.N else q):=by
     unfold nth
     rw [if_neg (by omega),hz,List.getElem?_set_self (by omega)]
    refine .sel (λh3=>?_) λh3=>.pure ⟨_,hz,q,hq,?_⟩
    ·have h3':q.Op=3:=by simpa using h3
     have hu':=hu.2 (by omega)
     rw [ob9,k1.get (nK (hc.q q hqm) h3').2,ob9,hzn,ob9,if_pos hu']
     refine .bind (.upd h0 (by rw [hz,List.length_set,h2]; exact h1)) λr hr=>.pure ⟨ab.mk q.Op q.Dst (dec q.A.toNat (S i.toNat q.A.toNat)) (dec q.B.toNat (S i.toNat q.B.toNat)) q.N,by rw [hr,hz,List.set_set],q,hq,?_⟩
     unfold rdQ
     rw [if_neg (by omega),if_pos h3']
    ·have h3':q.Op≠3:=by simpa using h3
     unfold rdQ
     by_cases h4:q.Op=2\/q.Op=5\/q.Op=6\/q.Op=9
     ·rw [if_pos (hu.2 (by omega)),if_pos h4]
     ·rw [if_neg h4,if_neg h3',if_neg (λh=>by have:=hu.1 h; omega)]
  ·unfold gp; rw [aj (by rw [hal]; simp)]
 have B:Tot (aB (c7 eQ all') ([],0)) λout=>out.length=eQ.length/\∀ i q',out[i]?=some q'->PC eQ S i q':=by
  refine lu (n:=eQ.length) (PC eQ S) hmx (λi out h0 h1 h2=>?_) λout=>?_
  ·unfold c7
   dsimp only
   obtain ⟨q,hq⟩:∃ q,eQ[i.toNat]?=some q:=⟨_,List.getElem?_eq_getElem (by omega)⟩
   obtain ⟨l,e2,k2⟩:=hS.get h0 h1
   have hnq:nth eQ i=some q:=by unfold nth; rw [if_neg (by omega)]; exact hq
   refine .st (by simpa using h1) ?_
   rw [e2,ob9,hnq,ob9,C7 (hc.q q (List.mem_of_getElem? hq)) k2,ob9]
   exact .bind (.app (by simp; omega)) λr hr=>.inl ⟨_,by rw [au h0 (by omega),hr],q,hq,rfl⟩
  ·unfold c7; rw [aj (by simp)]
 obtain ⟨a,ea',ha⟩:=A
 obtain ⟨b,eb',hb⟩:=B
 refine ⟨a,?_,(b,true),?_,nL ha hb PC.inj⟩
 ·unfold j2
  rw [mx hc,ob9,bE (show (!true)=false from rfl),nM eQ hmx,ob9,ea,ob9,ea']
  rfl
 ·unfold fU
  rw [aM hc,ob9,bE (show (!true)=false from rfl),es,ob9,eb']
  rfl
end
noncomputable section
def Clh (q:ab) (g:Nat->Bool) (r s:Nat):Prop:=aH q=(r:Int)/\g s=true/\¬ (q.Op=2/\q.A=(s:Int))
def MT (eQ:List ab) (l:List (List Bool)) (k r s:Nat):Prop:=r≠s/\∃ (i:Nat) (q:ab),i<k/\eQ[i]?=some q/\(Clh q (eS l q i) r s\/Clh q (eS l q i) s r)
theorem MT.symm {eQ:List ab} {l:List (List Bool)} {k r s:Nat} (h:MT eQ l k r s):MT eQ l k s r:=⟨h.1.symm,by
 obtain ⟨i,q,h1,h2,h3⟩:=h.2
 exact ⟨i,q,h1,h2,h3.symm⟩⟩
theorem MT.succ {eQ:List ab} {l:List (List Bool)} {k r s:Nat} {q:ab} (hq:eQ[k]?=some q):MT eQ l (k+1) r s↔MT eQ l k r s\/(r≠s/\(Clh q (eS l q k) r s\/Clh q (eS l q k) s r)):=by
 constructor
 ·rintro ⟨h,i,q',h1,h2,h3⟩
  by_cases e:i=k
  ·subst e
   obtain rfl:=o9 (hq.symm.trans h2)
   exact .inr ⟨h,h3⟩
  ·exact .inl ⟨h,i,q',by omega,h2,h3⟩
 ·rintro (⟨h,i,q',h1,h2,h3⟩ | ⟨h,h3⟩)
  ·exact ⟨h,i,q',by omega,h2,h3⟩
  ·exact ⟨h,k,q,by omega,hq,h3⟩
theorem C8 {u:Int} (hu:Bs u):Tot (gg u) λL=>L.length<=12/\∀ x:Int,x∈L↔Rg x/\bt u x.toNat=true:=by
 unfold gg
 refine .bind (P:=λL:List Int=>L.length<=12/\∀ x:Int,x∈L↔Rg x/\bt u x.toNat=true) (.iter (λs=>0<=s.2/\s.2<=12/\(s.1.length:Int)<=s.2/\∀ x:Int,x∈s.1↔0<=x/\x<s.2/\bt u x.toNat=true) (λs=>(12-s.2).toNat) ⟨by simp,by simp,by simp,λx=>⟨λh=>by simp at h,λh=>by have:=h.1; have:=h.2.1; simp only at this; omega⟩⟩ λs hs=>?_) λz hz=>.pure hz
 obtain ⟨L,i⟩:=s
 obtain ⟨g0,g1,g2,g3⟩:=hs
 simp only at g0 g1 g2 g3
 unfold jU
 refine .sel (λh=>?_) λh=>.inr ⟨(by show L.length<=12; omega),λx=>?_⟩
 ·simp only [decide_eq_true_eq] at h
  dsimp only
  have hi:Rg i:=by unfold Rg; omega
  rw [wS hu hi,ob9,au g0 (by omega)]
  refine .bind (P:=λz:List Int=>(z.length:Int)<=i+1/\∀ x:Int,x∈z↔0<=x/\x<i+1/\bt u x.toNat=true) (.sel (λhb=>.bind (.app (by simp; omega)) λr hr=>.pure ?_) λhb=>.pure ⟨by omega,λx=>?_⟩) λz hz=>.inl ⟨⟨by simp only; omega,by simp only; omega,hz⟩,by simp only; omega⟩
  ·subst hr
   refine ⟨by simp only [List.length_append,List.length_singleton]; omega,λx=>?_⟩
   simp only [List.mem_append,List.mem_singleton]
   constructor
   ·rintro (h' | rfl)
    ·have:=(g3 x).1 h'; exact ⟨this.1,by omega,this.2.2⟩
    ·exact ⟨g0,by omega,hb⟩
   ·rintro ⟨h1,h2,h3⟩
    by_cases e:x=i
    ·exact .inr e
    ·exact .inl ((g3 x).2 ⟨h1,by omega,h3⟩)
  ·rw [g3 x]
   constructor
   ·rintro ⟨h1,h2,h3⟩; exact ⟨h1,by omega,h3⟩
   ·rintro ⟨h1,h2,h3⟩
    refine ⟨h1,?_,h3⟩
    by_cases e:x=i
    ·subst e; rw [hb] at h3; cases h3
    ·omega
 ·simp only [decide_eq_false_iff_not] at h
  show x∈L↔_
  rw [g3 x]
  unfold Rg
  constructor
  ·rintro ⟨h1,h2,h3⟩; exact ⟨by omega,h3⟩
  ·rintro ⟨h1,h3⟩; exact ⟨h1.1,by omega,h3⟩
theorem CI {d:Int} (hd:Rg d) {L:List Int} (hL:∀ x∈L,Rg x) (hlen:L.length<=12) {m:Ar Int} (hm:∀ r,r<12->Bs (m r)):Tot (aB (jv d L) (0,m)) λz=>∀ r:Nat,r<12->Bs (z r)/\∀ s:Nat,bt (z r) s=(bt (m r) s||(L.contains (r:Int)&&((s:Int)==d))):=by
 obtain ⟨D,eD,D1,D2⟩:=oW hd
 refine .iter (λt=>0<=t.1/\t.1<=(L.length:Int)/\∀ r:Nat,r<12->Bs (t.2 r)/\∀ s:Nat,bt (t.2 r) s=(bt (m r) s||((L.take t.1.toNat).contains (r:Int)&&((s:Int)==d)))) (λt=>((L.length:Int)-t.1).toNat) ⟨by simp,by simp,λr hr=>⟨hm r hr,λs=>by simp⟩⟩ λt ht=>?_
 obtain ⟨j,c⟩:=t
 obtain ⟨g0,g1,g2⟩:=ht
 simp only at g0 g1 g2
 unfold jv
 refine .sel (λh=>?_) λh=>.inr λr hr=>?_
 ·simp only [decide_eq_true_eq] at h
  dsimp only
  refine .bind (.nth g0 h) λx ⟨hx,hxm⟩=>?_
  have hxr:=hL x hxm
  have hxr':=hxr
  unfold Rg at hxr'
  have hg:cn 12 c x=some (c x.toNat):=by unfold cn; rw [if_pos (by omega)]
  have ht:L.take (j+1).toNat=L.take j.toNat++[x]:=by rw [show (j+1).toNat=j.toNat+1 by omega,List.take_add_one,hx]; rfl
  rw [hg,ob9,eD,ob9,ob9,au g0 (by omega)]
  refine .inl ⟨⟨by simp only; omega,by simp only; omega,λr hr=>?_⟩,by simp only; omega⟩
  simp only
  obtain ⟨k1,k2⟩:=g2 r hr
  unfold mn
  rw [ht]
  by_cases e:r=x.toNat
  ·subst e
   rw [if_pos rfl]
   obtain ⟨o1,o2⟩:=wv k1 D1
   refine ⟨o1,λs=>?_⟩
   have ec:((L.take j.toNat)++[x]).contains (((x.toNat:Nat)):Int)=true:=by
    rw [show (((x.toNat:Nat)):Int)=x by omega]
    simp
   rw [o2,k2,D2,ec]
   cases bt (m x.toNat) s <;> cases ((L.take j.toNat).contains (((x.toNat:Nat)):Int)) <;> cases ((s:Int)==d) <;> rfl
  ·rw [if_neg e]
   refine ⟨k1,λs=>?_⟩
   have ec:((L.take j.toNat)++[x]).contains (r:Int)=(L.take j.toNat).contains (r:Int):=by
    rw [Bool.eq_iff_iff]
    simp only [List.contains_iff_mem,List.mem_append,List.mem_singleton]
    exact ⟨λh=>h.resolve_right λh=>e (by omega),.inl⟩
   rw [k2,ec]
 ·simp only [decide_eq_false_iff_not] at h
  obtain ⟨k1,k2⟩:=g2 r hr
  refine ⟨k1,λs=>?_⟩
  show bt (c r) s=_
  rw [k2,List.take_of_length_le (by omega)]
def Ms (m:Ar Int) (M:Nat->Nat->Prop):Prop:=∀ r,r<12->Bs (m r)/\∀ s,s<12->(bt (m r) s=true↔M r s)
theorem Ab {eQ:List ab} (hc:COk eQ) {b:List Int} {l:List (List Bool)} (hb:dD eQ=some b) (hL:LR eQ.length b l):Tot (ip eQ) λm=>Ms m (MT eQ l eQ.length):=by
 have hmx:=hc.max
 unfold ip
 rw [hb,ob9]
 refine .bind (P:=λm=>Ms m (MT eQ l eQ.length)) (.iter (λt=>0<=t.1/\t.1<=(eQ.length:Int)/\Ms t.2 (MT eQ l t.1.toNat)) (λt=>((eQ.length:Int)-t.1).toNat) ⟨by simp,by simp,λr hr=>⟨(show Bs 0 from ⟨by decide,by decide⟩),λs hs=>⟨λh=>?_,λh=>?_⟩⟩⟩ λt ht=>?_) λz hz=>.pure hz
 ·simp only at h
  unfold bt at h
  simp at h
 ·obtain ⟨_,i,q,h1,_⟩:=h
  simp at h1
 obtain ⟨i,m⟩:=t
 obtain ⟨g0,g1,g2⟩:=ht
 simp only at g0 g1 g2
 unfold lS
 refine .sel (λh=>?_) λh=>.inr ?_
 ·simp only [decide_eq_true_eq] at h
  dsimp only
  obtain ⟨q,hq⟩:∃ q,eQ[i.toNat]?=some q:=⟨_,List.getElem?_eq_getElem (by omega)⟩
  have hqok:=hc.q q (List.mem_of_getElem? hq)
  have ei:((i.toNat:Nat):Int)=i:=by omega
  rw [show nth eQ i=some q by unfold nth; rw [if_neg (by omega)]; exact hq,ob9,oX,ob9,au g0 (by omega)]
  refine .bind (P:=λz=>Ms z (MT eQ l (i.toNat+1))) ?_ λz hz=>.inl ⟨⟨by simp only; omega,by simp only; omega,by simp only; rw [show (i+1).toNat=i.toNat+1 by omega]; exact hz⟩,by simp only; omega⟩
  rcases mv hqok with hs | hd
  ·refine .st (by rw [hs]; decide) (.pure λr hr=>⟨(g2 r hr).1,λs hs'=>?_⟩)
   rw [(g2 r hr).2 s hs',MT.succ hq]
   refine ⟨.inl,λh=>h.resolve_right ?_⟩
   rintro ⟨_,h | h⟩ <;> (have:=h.1; rw [hs] at this; omega)
  ·have hd0:=hd
   unfold Rg at hd0
   obtain ⟨D,eD,D1,D2⟩:=oW hd
   refine .sf (by simp; omega) ?_
   rw [eD,ob9]
   refine .bind (wT hc hL g0 hq) λy ⟨y1,y2⟩=>?_
   obtain ⟨n1,n2⟩:=so y1 D1
   refine .bind (P:=λu=>Bs u/\∀ s:Nat,s<12->(bt u s=true↔(eS l q i s=true/\(s:Int)≠aH q/\¬ (q.Op=2/\q.A=(s:Int))))) (.sel (λh2=>?_) λh2=>.pure ⟨n1,λs hs=>?_⟩) λu ⟨u1,u2⟩=>?_
   ·have h2':q.Op=2:=by simpa using h2
    obtain ⟨D',eD',D1',D2'⟩:=oW (oY hqok (.inl h2'))
    rw [eD',ob9]
    obtain ⟨o1,o2⟩:=so n1 D1'
    refine .pure ⟨o1,λs hs=>?_⟩
    rw [o2,n2,y2 s hs,D2,D2']
    simp only [Bool.and_eq_true,Bool.not_eq_true',beq_eq_false_iff_ne,ne_eq,and_assoc]
    refine and_congr_right λ_=>and_congr_right λ_=>⟨λh hh=>h hh.2.symm,λh hh=>h ⟨h2',hh.symm⟩⟩
   ·have h2':q.Op≠2:=by simpa using h2
    rw [n2,y2 s hs,D2]
    simp only [Bool.and_eq_true,Bool.not_eq_true',beq_eq_false_iff_ne,ne_eq]
    exact ⟨λh=>⟨h.1,h.2,λhh=>h2' hh.1⟩,λh=>⟨h.1,h.2.1⟩⟩
   ·have hg:cn 12 m (aH q)=some (m (aH q).toNat):=by unfold cn; rw [if_pos (by omega)]
    rw [hg,ob9,ob9]
    refine .bind (C8 u1) λL ⟨L1,L2⟩=>?_
    obtain ⟨o1,o2⟩:=wv (g2 (aH q).toNat (by omega)).1 u1
    have hM:∀ r,r<12->Bs (mn m (aH q) (bj .or .u16 (m (aH q).toNat) u) r):=λr hr=>by
     unfold mn
     split
     ·exact o1
     ·exact (g2 r hr).1
    refine .bind (CI hd (λx hx=>((L2 x).1 hx).1) L1 hM) λz hz=>.pure λr hr=>⟨(hz r hr).1,λs hs=>?_⟩
    rw [(hz r hr).2 s,MT.succ hq,ei,<-(g2 r hr).2 s hs]
    have hc1:L.contains (r:Int)=true↔(eS l q i r=true/\(r:Int)≠aH q/\¬ (q.Op=2/\q.A=(r:Int))):=by
     rw [List.contains_iff_mem,L2,show ((r:Nat):Int).toNat=r by omega,u2 r hr]
     exact ⟨λh=>h.2,λh=>⟨by unfold Rg; omega,h⟩⟩
    have hc2:bt (mn m (aH q) (bj .or .u16 (m (aH q).toNat) u) r) s=true↔bt (m r) s=true\/((r:Int)=aH q/\bt u s=true):=by
     unfold mn
     by_cases e:r=(aH q).toNat
     ·subst e
      rw [if_pos rfl,o2,Bool.or_eq_true]
      exact or_congr_right ⟨λh=>⟨by omega,h⟩,λh=>h.2⟩
     ·rw [if_neg e]
      exact ⟨.inl,λh=>h.resolve_right λh=>e (by omega)⟩
    rw [Bool.or_eq_true,Bool.and_eq_true,hc1,hc2,u2 s hs,beq_iff_eq]
    unfold Clh
    constructor
    ·rintro ((h | ⟨h1,h2,h3,h4⟩) | ⟨⟨h1,h2,h3⟩,h4⟩)
     ·exact .inl h
     ·exact .inr ⟨λe=>h3 (by rw [<-e]; exact h1),.inl ⟨h1.symm,h2,h4⟩⟩
     ·exact .inr ⟨λe=>h2 (by rw [e]; exact h4),.inr ⟨h4.symm,h1,h3⟩⟩
    ·rintro (h | ⟨hne,⟨h1,h2,h3⟩ | ⟨h1,h2,h3⟩⟩)
     ·exact .inl (.inl h)
     ·exact .inl (.inr ⟨h1.symm,h2,by rw [h1]; omega,h3⟩)
     ·exact .inr ⟨⟨h2,by rw [h1]; omega,h3⟩,h1.symm⟩
 ·simp only [decide_eq_false_iff_not] at h
  rw [show i.toNat=eQ.length by omega] at g2
  exact g2
def PLs (M:Nat->Nat->Prop) (p:Nat->Int) (k:Nat):Prop:=∀ m,m<k->0<=p m/\p m<=m/\(∀ s,s<m->M s m->p s≠p m)/\∀ x:Int,0<=x->x<p m->∃ s,s<m/\M s m/\p s=x
theorem PLs.uniq {M:Nat->Nat->Prop} {p p':Nat->Int}:∀ {k:Nat},PLs M p k->PLs M p' k->∀ m,m<k->p m=p' m
 | 0,_,_,m,hm=>by omega
 | k+1,h,h',m,hm=>by
  have ih:∀ m,m<k->p m=p' m:=PLs.uniq (λm hm=>h m (by omega)) (λm hm=>h' m (by omega))
  by_cases e:m=k
  ·subst e
   obtain ⟨a1,a2,a3,a4⟩:=h m hm
   obtain ⟨b1,b2,b3,b4⟩:=h' m hm
   rcases Int.lt_trichotomy (p m) (p' m) with hl | hl | hl
   ·obtain ⟨s,s1,s2,s3⟩:=b4 (p m) a1 hl
    exact absurd (by rw [ih s s1]; exact s3) (a3 s s1 s2)
   ·exact hl
   ·obtain ⟨s,s1,s2,s3⟩:=a4 (p' m) b1 hl
    exact absurd (by rw [<-ih s s1]; exact s3) (b3 s s1 s2)
  ·exact ih m (by omega)
theorem PLs.congr {M:Nat->Nat->Prop} {p p':Nat->Int} {k:Nat} (h:PLs M p k) (he:∀ m,m<k->p m=p' m):PLs M p' k:=λm hm=>by
 obtain ⟨a1,a2,a3,a4⟩:=h m hm
 refine ⟨by rw [<-he m hm]; exact a1,by rw [<-he m hm]; exact a2,λs hs hM=>by rw [<-he s (by omega),<-he m hm]; exact a3 s hs hM,λx h0 h1=>?_⟩
 obtain ⟨s,s1,s2,s3⟩:=a4 x h0 (by rw [he m hm]; exact h1)
 exact ⟨s,s1,s2,by rw [<-he s (by omega)]; exact s3⟩
def gl (l:List Int) (r:Nat):Int:=(l[r]?).getD 0
theorem uN {l:List Int} {x:Int} (h0:0<=x) (h1:x<l.length):nth l x=some (gl l x.toNat):=by
 unfold nth gl
 rw [if_neg (by omega),List.getElem?_eq_getElem (by omega)]
 rfl
theorem pb {l:List Int} {k r:Nat} {v:Int} (hk:k<l.length):gl (l.set k v) r=if r=k then v else gl l r:=by
 unfold gl
 by_cases e:r=k
 ·subst e; rw [List.getElem?_set_self hk,if_pos rfl]; rfl
 ·rw [List.getElem?_set_ne (λh=>e h.symm),if_neg e]
theorem wY {l:List Int} {r:Nat} {v:Int}:gl (l++[v]) r=if r=l.length then v else gl l r:=by
 unfold gl
 by_cases e:r=l.length
 ·subst e; rw [List.getElem?_append_right (Nat.le_refl _),if_pos rfl]; simp
 ·rw [if_neg e]
  rcases Nat.lt_or_ge r l.length with h | h
  ·rw [List.getElem?_append_left h]
  ·rw [List.getElem?_eq_none (by simp; omega),List.getElem?_eq_none h]
theorem BV {eQ:List ab} (hc:COk eQ) {M:Nat->Nat->Prop} (hsy:∀ r s,M r s->M s r) (hm:Tot (ip eQ) λm=>Ms m M):Tot (iq eQ) λl=>l.length=12/\PLs M (gl l) 12:=by
 unfold iq
 refine .bind hm λm hM=>.bind (.mk (by omega) (by decide)) λr1 hr1=>?_
 have hl1:r1.length=12:=by rw [hr1]; rfl
 refine .bind (P:=λl:List Int=>l.length=12/\PLs M (gl l) 12) (.iter (λs=>0<=s.1/\s.1<=12/\s.2.length=12/\PLs M (gl s.2) s.1.toNat/\∀ k:Nat,s.1<=(k:Int)->gl s.2 k=0) (λs=>(12-s.1).toNat) ⟨by simp,by simp,hl1,λm hm=>by simp at hm,λk _=>?_⟩ λs hs=>?_) λz hz=>.pure hz
 ·simp only
  rw [hr1]
  unfold gl
  rw [List.getElem?_replicate]
  split <;> rfl
 obtain ⟨i,l⟩:=s
 obtain ⟨g0,g1,g2,g3,g4⟩:=hs
 simp only at g0 g1 g2 g3 g4
 unfold lW
 refine .sel (λh=>?_) λh=>.inr ?_
 rotate_left
 ·simp only [decide_eq_false_iff_not,hl1] at h
  rw [show i.toNat=12 by omega] at g3
  exact ⟨g2,g3⟩
 simp only [decide_eq_true_eq,hl1] at h
 have hin:i.toNat<12:=by omega
 have ei:((i.toNat:Nat):Int)=i:=by omega
 have hMi:=hM i.toNat hin
 have hg:cn 12 m i=some (m i.toNat):=by unfold cn; rw [if_pos (by omega)]
 refine .bind (P:=λu=>Bs u/\∀ r:Nat,r<12->(bt u r=true↔∃ s,s<i.toNat/\M i.toNat s/\gl l s=(r:Int))) (.iter (λt=>0<=t.2/\t.2<=i/\Bs t.1/\∀ r:Nat,r<12->(bt t.1 r=true↔∃ s:Nat,(s:Int)<t.2/\M i.toNat s/\gl l s=(r:Int))) (λt=>(i-t.2).toNat) ⟨by simp,by simp only; omega,⟨by decide,by decide⟩,λr hr=>⟨λh=>by unfold bt at h; simp at h,λ⟨s,h1,_⟩=>by simp only at h1; omega⟩⟩ λt ht=>?_) λu ⟨u1,u2⟩=>?_
 ·obtain ⟨u,j⟩:=t
  obtain ⟨k0,k1,k2,k3⟩:=ht
  simp only at k0 k1 k2 k3
  unfold lU
  refine .sel (λhj=>?_) λhj=>.inr ⟨k2,λr hr=>?_⟩
  ·simp only [decide_eq_true_eq] at hj
   dsimp only
   have hjr:Rg j:=by unfold Rg; omega
   have ej:((j.toNat:Nat):Int)=j:=by omega
   obtain ⟨p1,p2,_⟩:=g3 j.toNat (by omega)
   have hpr:Rg (gl l j.toNat):=by unfold Rg; omega
   rw [hg,ob9,wS hMi.1 hjr,ob9,au k0 (by omega)]
   refine .bind (P:=λv=>Bs v/\∀ r:Nat,r<12->(bt v r=true↔∃ s:Nat,(s:Int)<j+1/\M i.toNat s/\gl l s=(r:Int))) (.sel (λhh=>?_) λhh=>.pure ⟨k2,λr hr=>?_⟩) λv hv=>.inl ⟨⟨by simp only; omega,by simp only; omega,hv⟩,by simp only; omega⟩
   ·have hMj:=(hMi.2 j.toNat (by omega)).1 hh
    obtain ⟨D,eD,D1,D2⟩:=oW hpr
    rw [uN k0 (by rw [g2]; omega),ob9,eD,ob9]
    obtain ⟨o1,o2⟩:=wv k2 D1
    refine .pure ⟨o1,λr hr=>?_⟩
    rw [o2,Bool.or_eq_true,k3 r hr,D2,beq_iff_eq]
    constructor
    ·rintro (⟨s,h1,h2,h3⟩ | h1)
     ·exact ⟨s,by omega,h2,h3⟩
     ·exact ⟨j.toNat,by omega,hMj,h1.symm⟩
    ·rintro ⟨s,h1,h2,h3⟩
     by_cases e:s=j.toNat
     ·subst e; exact .inr h3.symm
     ·exact .inl ⟨s,by omega,h2,h3⟩
   ·have hMj:¬ M i.toNat j.toNat:=λhm=>by rw [(hMi.2 j.toNat (by omega)).2 hm] at hh; cases hh
    rw [k3 r hr]
    constructor
    ·rintro ⟨s,h1,h2,h3⟩; exact ⟨s,by omega,h2,h3⟩
    ·rintro ⟨s,h1,h2,h3⟩
     by_cases e:s=j.toNat
     ·subst e; exact absurd h2 hMj
     ·exact ⟨s,by omega,h2,h3⟩
  ·simp only [decide_eq_false_iff_not] at hj
   show bt u r=true↔_
   rw [k3 r hr]
   constructor
   ·rintro ⟨s,h1,h2,h3⟩; exact ⟨s,by omega,h2,h3⟩
   ·rintro ⟨s,h1,h2,h3⟩; exact ⟨s,by omega,h2,h3⟩
 ·have hfree:bt u i.toNat=false:=by
   cases hb:bt u i.toNat
   ·rfl
   ·obtain ⟨s,s1,s2,s3⟩:=(u2 i.toNat hin).1 hb
    have:=(g3 s s1).2.1
    omega
  refine .bind (P:=λz:List Int=>∃ p:Int,0<=p/\p<=i/\z=l.set i.toNat p/\bt u p.toNat=false/\∀ x:Nat,(x:Int)<p->bt u x=true) (.iter (λt=>∃ p:Int,0<=p/\p<=i/\t=l.set i.toNat p/\∀ x:Nat,(x:Int)<p->bt u x=true) (λt=>(12-gl t i.toNat).toNat) ⟨0,by omega,g0,?_,λx hx=>by omega⟩ λt ht=>?_) λz hz=>?_
  ·exact List.ext_getElem? λj=>by
    by_cases e:j=i.toNat
    ·subst e
     have h4:=g4 i.toNat (by omega)
     unfold gl at h4
     rw [List.getElem?_set_self (by omega)]
     rw [List.getElem?_eq_getElem (show i.toNat<l.length by omega),Option.getD_some] at h4
     rw [List.getElem?_eq_getElem (show i.toNat<l.length by omega),h4]
    ·rw [List.getElem?_set_ne (λh=>e h.symm)]
  ·obtain ⟨p,p0,p1,rfl,p2⟩:=ht
   have hil:i.toNat<l.length:=by omega
   have hgi:nth (l.set i.toNat p) i=some p:=by
    rw [uN g0 (by rw [List.length_set]; omega),pb hil,if_pos rfl]
   unfold lV
   dsimp only
   have hpr:Rg p:=by unfold Rg; omega
   rw [hgi,ob9,wS u1 hpr,ob9]
   refine .sel (λhh=>?_) λhh=>.inr ⟨p,p0,p1,rfl,hh,p2⟩
   have hpi:p≠i:=λe=>by rw [e,hfree] at hh; cases hh
   rw [ob9,ob9,au p0 (by omega)]
   refine .bind (.upd g0 (by rw [List.length_set]; omega)) λr2 hr2=>.inl ⟨⟨p+1,by omega,by omega,by rw [hr2,List.set_set],λx hx=>?_⟩,?_⟩
   ·by_cases e:(x:Int)=p
    ·rw [show p.toNat=x by omega] at hh; exact hh
    ·exact p2 x (by omega)
   ·rw [hr2,List.set_set,pb hil,if_pos rfl,pb hil,if_pos rfl]
    omega
  ·obtain ⟨p,p0,p1,rfl,p2,p3⟩:=hz
   have hil:i.toNat<l.length:=by omega
   rw [au g0 (by omega)]
   refine .inl ⟨⟨by simp only; omega,by simp only; omega,by simp only; rw [List.length_set]; exact g2,?_,λk hk=>?_⟩,by simp only; omega⟩
   ·simp only
    rw [show (i+1).toNat=i.toNat+1 by omega]
    intro m' hm'
    by_cases e:m'=i.toNat
    ·subst e
     rw [pb hil,if_pos rfl]
     refine ⟨p0,by omega,λs hs hMs=>?_,λx hx0 hx1=>?_⟩
     ·rw [pb hil,if_neg (by omega)]
      intro he
      rw [(u2 p.toNat (by omega)).2 ⟨s,hs,hsy _ _ hMs,by omega⟩] at p2
      cases p2
     ·obtain ⟨s,s1,s2,s3⟩:=(u2 x.toNat (by omega)).1 (p3 x.toNat (by omega))
      exact ⟨s,s1,hsy _ _ s2,by rw [pb hil,if_neg (by omega)]; omega⟩
    ·have hlt:m'<i.toNat:=by omega
     have:=(g3.congr (p':=gl (l.set i.toNat p)) λk hk=>by rw [pb hil,if_neg (by omega)]) m' hlt
     exact this
   ·simp only at hk ⊢
    rw [pb hil,if_neg (by omega)]
    exact g4 k (by omega)
theorem Bh {q:ab} {m:Int} (hq:QOk m q) (hm:m<=600) {l:List Bool} {g:Nat->Bool} (hl:Fn l g) {r s:Nat} (hs:s<12):Tot (iu q l r s) λb=>b=true↔Clh q g r s:=by
 unfold iu Clh
 rw [uG hq hm,ob9,show nth l (s:Int)=some (g s) by unfold nth; rw [if_neg (by omega),show ((s:Nat):Int).toNat=s by omega]; exact hl.2 s hs,ob9]
 refine .bind (P:=λb=>b=false↔(aH q=(r:Int)/\g s=true)) (.sel (λh=>.pure ?_) λh=>.pure ?_) λb hb=>.sel (λh=>.pure ?_) λh=>.pure ?_
 ·have:aH q≠(r:Int):=by simpa using h
  simp [this]
 ·have:aH q=(r:Int):=by simpa using h
  simp [this]
 ·refine ⟨λh=>(by cases h),λhh=>?_⟩
  rw [hb.2 ⟨hh.1,hh.2.1⟩] at h
  cases h
 ·have hb':=hb.1 h
  simp only [Bool.or_eq_true,bne_iff_ne,ne_eq]
  refine ⟨λh=>⟨hb'.1,hb'.2,λhh=>h.elim (λh=>h hh.1) λh=>h hh.2⟩,λh=>?_⟩
  by_cases e:q.Op=2
  ·exact .inr λe2=>h.2.2 ⟨e,e2⟩
  ·exact .inl e
def AF (eQ:List ab) (l:List (List Bool)) (af:List (List Bool)):Prop:=af.length=eQ.length/\∀ (i:Nat) q,eQ[i]?=some q->∃ f,af[i]?=some f/\Fn f (eS l q i)
theorem BW {eQ:List ab} (hc:COk eQ) {l:List (List Bool)} (hl:dZ eQ=some l) (hB:ra eQ.length l):Tot (kc eQ) λaf=>AF eQ l af:=by
 have hmx:=hc.max
 unfold kc
 rw [hl,ob9]
 refine .bind (P:=λaf=>AF eQ l af) (.iter (λs=>0<=s.2/\s.2<=(eQ.length:Int)/\s.1.length=s.2.toNat/\∀ (i:Nat) q,(i:Int)<s.2->eQ[i]?=some q->∃ f,s.1[i]?=some f/\Fn f (eS l q i)) (λs=>((eQ.length:Int)-s.2).toNat) ⟨by simp,by simp,by simp,λi q hi=>by simp only at hi; omega⟩ λs hs=>?_) λz hz=>.pure hz
 obtain ⟨af,i⟩:=s
 obtain ⟨g0,g1,g2,g3⟩:=hs
 simp only at g0 g1 g2 g3
 unfold l8
 refine .sel (λh=>?_) λh=>.inr ⟨?_,λj q hj=>g3 j q ?_ hj⟩
 ·simp only [decide_eq_true_eq] at h
  obtain ⟨q,hq⟩:∃ q,eQ[i.toNat]?=some q:=⟨_,List.getElem?_eq_getElem (by omega)⟩
  refine .bind (nc hc hB g0 hq) λf hf=>.bind (.app (by simp; omega)) λr hr=>.inl ?_
  rw [au g0 (by omega)]
  subst hr
  refine ⟨⟨by simp only; omega,by simp only; omega,by simp only [List.length_append,List.length_singleton]; omega,λj q' hj hq'=>?_⟩,by simp only; omega⟩
  simp only at hj ⊢
  by_cases e:(j:Int)<i
  ·rw [List.getElem?_append_left (by omega)]
   exact g3 j q' e hq'
  ·obtain rfl:j=i.toNat:=by omega
   obtain rfl:=o9 (hq.symm.trans hq')
   exact ⟨f,by rw [List.getElem?_append_right (by omega),show i.toNat-af.length=0 by omega]; rfl,by rw [show ((i.toNat:Nat):Int)=i by omega]; exact hf⟩
 ·simp only [decide_eq_false_iff_not] at h
  show af.length=eQ.length
  omega
 ·simp only [decide_eq_false_iff_not] at h
  have:=bH hj
  omega
theorem C9 {eQ:List ab} (hc:COk eQ) {l af:List (List Bool)} (ha:AF eQ l af) {r s:Nat} (hr:r<12) (hs:s<12):Tot (lk eQ af r s) λb=>b=true↔MT eQ l eQ.length r s:=by
 have hmx:=hc.max
 unfold lk
 refine .sel (λh=>.pure ⟨λh=>(by cases h),λhh=>?_⟩) λh=>?_
 ·have:(r:Int)=s:=by simpa using h
  exact absurd (by omega) hh.1
 have hne:r≠s:=by
  have:(r:Int)≠s:=by simpa using h
  omega
 refine .bind (P:=λz:Bool⊕Unit=>match z with | .inl b=>b=true/\MT eQ l eQ.length r s | .inr _=>¬ MT eQ l eQ.length r s) (.iter (λi:Int=>0<=i/\i<=(eQ.length:Int)/\¬ MT eQ l i.toNat r s) (λi=>((eQ.length:Int)-i).toNat) ⟨by omega,by omega,λ⟨_,i,q,h1,_⟩=>by simp at h1⟩ λi ⟨g0,g1,g2⟩=>?_) λz hz=>.both (λb e=>by subst e; exact .pure ⟨λ_=>hz.2,λ_=>hz.1⟩) λu e=>by subst e; exact .pure ⟨λh=>(by cases h),λh=>absurd h hz⟩
 unfold mB
 refine .sel (λh=>?_) λh=>.inr ?_
 ·simp only [decide_eq_true_eq] at h
  obtain ⟨q,hq⟩:∃ q,eQ[i.toNat]?=some q:=⟨_,List.getElem?_eq_getElem (by omega)⟩
  have ei:((i.toNat:Nat):Int)=i:=by omega
  have hqok:=hc.q q (List.mem_of_getElem? hq)
  obtain ⟨f,ef,hf⟩:=ha.2 i.toNat q hq
  have ef':nth af i=some f:=by unfold nth; rw [if_neg (by omega)]; exact ef
  rw [show nth eQ i=some q by unfold nth; rw [if_neg (by omega)]; exact hq,ob9,ef',ob9,au g0 (by omega)]
  refine .bind (Bh hqok (by omega) hf (r:=r) hs) λb hb=>.bind (P:=λb=>b=true↔(Clh q (eS l q i.toNat) r s\/Clh q (eS l q i.toNat) s r)) (.sel (λh=>.pure ?_) λh=>?_) λb hb=>.sel (λh=>.inr ⟨rfl,hne,i.toNat,q,by omega,hq,hb.1 h⟩) λh=>.inl ⟨⟨by omega,by omega,?_⟩,by omega⟩
  ·exact ⟨λ_=>.inl (hb.1 h),λ_=>rfl⟩
  ·rw [ob9,ob9]
   refine .bind (Bh hqok (by omega) hf (r:=s) hr) λb2 hb2=>.pure ⟨λh2=>.inr (hb2.1 h2),λh2=>hb2.2 (h2.resolve_left λh3=>by rw [hb.2 h3] at h; cases h)⟩
  ·rw [show (i+1).toNat=i.toNat+1 by omega,MT.succ hq]
   exact λhh=>hh.elim g2 λhh=>by rw [hb.2 hh.2] at h; cases h
 ·simp only [decide_eq_false_iff_not] at h
  show ¬ MT eQ l eQ.length r s
  rw [show i.toNat=eQ.length by omega] at g2
  exact g2
theorem CJ {eQ:List ab} (hc:COk eQ) {l af:List (List Bool)} (ha:AF eQ l af) {pl:List Int} (hp:PLs (MT eQ l eQ.length) (gl pl) pl.length) (hl:pl.length<12):Tot (ke eQ af pl) λp=>0<=p/\p<=pl.length/\(∀ s,s<pl.length->MT eQ l eQ.length s pl.length->gl pl s≠p)/\∀ x:Int,0<=x->x<p->∃ s,s<pl.length/\MT eQ l eQ.length s pl.length/\gl pl s=x:=by
 have key:∀ p:Int,0<=p->Tot (aB (jI eQ af pl p) (true,0)) λb=>b=true↔∀ s,s<pl.length->MT eQ l eQ.length s pl.length->gl pl s≠p:=λp p0=>by
  refine .iter (λt=>0<=t.2/\t.2<=(pl.length:Int)/\(t.1=true↔∀ s:Nat,(s:Int)<t.2->MT eQ l eQ.length s pl.length->gl pl s≠p)) (λt=>((pl.length:Int)-t.2).toNat) ⟨by simp,by simp,λ_ s hs=>by simp only at hs; omega,λ_=>rfl⟩ λt ht=>?_
  obtain ⟨b,j⟩:=t
  obtain ⟨g0,g1,g2⟩:=ht
  simp only at g0 g1 g2
  unfold jI
  refine .sel (λh=>?_) λh=>.inr ?_
  ·simp only [decide_eq_true_eq] at h
   have ej:((j.toNat:Nat):Int)=j:=by omega
   rw [uN g0 h,ob9,au g0 (by omega)]
   refine .bind (P:=λz=>z=true↔∀ s:Nat,(s:Int)<j+1->MT eQ l eQ.length s pl.length->gl pl s≠p) (.bind (P:=λz=>z=true↔(gl pl j.toNat=p/\MT eQ l eQ.length j.toNat pl.length)) (.sel (λhh=>?_) λhh=>.pure ?_) λz hz=>.sel (λhh=>.pure ?_) λhh=>.pure ?_) λz hz=>.inl ⟨⟨by simp only; omega,by simp only; omega,hz⟩,by simp only; omega⟩
   ·have hh':gl pl j.toNat=p:=by simpa using hh
    have:=C9 hc ha (r:=j.toNat) (s:=pl.length) (by omega) hl
    rw [ej] at this
    exact .bind this λz hz=>.pure ⟨λh=>⟨hh',hz.1 h⟩,λh=>hz.2 h.2⟩
   ·have hh':gl pl j.toNat≠p:=by simpa using hh
    exact ⟨λh=>(by cases h),λh=>absurd h.1 hh'⟩
   ·obtain ⟨h1,h2⟩:=hz.1 hh
    exact ⟨λh=>(by cases h),λh=>absurd h1 (h j.toNat (by omega) h2)⟩
   ·simp only
    rw [g2]
    constructor
    ·intro h s hs hM
     by_cases e:s=j.toNat
     ·subst e
      intro he
      rw [hz.2 ⟨he,hM⟩] at hh
      cases hh
     ·exact h s (by omega) hM
    ·exact λh s hs=>h s (by omega)
  ·simp only [decide_eq_false_iff_not] at h
   show b=true↔_
   rw [g2]
   exact ⟨λh s hs=>h s (by omega),λh s hs=>h s (by omega)⟩
 unfold ke
 refine .bind (P:=λz:Int⊕Unit=>match z with | .inl p=>0<=p/\p<=(pl.length:Int)/\(∀ s,s<pl.length->MT eQ l eQ.length s pl.length->gl pl s≠p)/\∀ x:Int,0<=x->x<p->∃ s,s<pl.length/\MT eQ l eQ.length s pl.length/\gl pl s=x | .inr _=>∀ x:Int,0<=x->x<pl.length->∃ s,s<pl.length/\MT eQ l eQ.length s pl.length/\gl pl s=x) (.iter (λp:Int=>0<=p/\p<=(pl.length:Int)/\∀ x:Int,0<=x->x<p->∃ s,s<pl.length/\MT eQ l eQ.length s pl.length/\gl pl s=x) (λp=>((pl.length:Int)-p).toNat) ⟨by omega,by omega,λx h0 h1=>by omega⟩ λp ⟨g0,g1,g2⟩=>?_) λz hz=>.both (λp e=>by subst e; exact .pure hz) λu e=>by subst e; exact .pure ⟨by omega,by omega,λs hs hM=>by have:=(hp s hs).2.1; omega,hz⟩
 unfold l9
 refine .sel (λh=>?_) λh=>.inr λx h0 h1=>g2 x h0 (by simp only [decide_eq_false_iff_not] at h; omega)
 simp only [decide_eq_true_eq] at h
 rw [au g0 (by omega)]
 refine .bind (key p g0) λb hb=>.sel (λhh=>.inr ⟨g0,by omega,hb.1 hh,g2⟩) λhh=>.inl ⟨⟨by omega,by omega,λx h0 h1=>?_⟩,by omega⟩
 by_cases e:x=p
 ·subst e
  refine Classical.byContradiction λhno=>?_
  rw [hb.2 λs hs hM he=>hno ⟨s,hs,hM,he⟩] at hh
  cases hh
 ·exact g2 x h0 (by omega)
theorem BX {eQ:List ab} (hc:COk eQ) {l:List (List Bool)} (hl:dZ eQ=some l) (hB:ra eQ.length l):Tot (iv eQ) λpl=>pl.length=12/\PLs (MT eQ l eQ.length) (gl pl) 12:=by
 unfold iv
 rw [aM hc,ob9]
 refine .sf rfl (.bind (BW hc hl hB) λaf ha=>.bind (P:=λpl:List Int=>pl.length=12/\PLs (MT eQ l eQ.length) (gl pl) 12) (.iter (λs=>0<=s.2/\s.2<=12/\(s.1.length:Int)=s.2/\PLs (MT eQ l eQ.length) (gl s.1) s.1.length) (λs=>(12-s.2).toNat) ⟨by simp,by simp,by simp,λm hm=>by simp at hm⟩ λs hs=>?_) λz hz=>.pure hz)
 obtain ⟨pl,i⟩:=s
 obtain ⟨g0,g1,g2,g3⟩:=hs
 simp only at g0 g1 g2 g3
 unfold ma
 refine .sel (λh=>?_) λh=>.inr ?_
 ·simp only [decide_eq_true_eq] at h
  have hlt12:pl.length<12:=by omega
  refine .bind (CJ hc ha g3 hlt12) λp ⟨p0,p1,p2,p3⟩=>.bind (.app (by simp; omega)) λr hr=>.inl ?_
  rw [au g0 (by omega)]
  subst hr
  refine ⟨⟨by simp only; omega,by simp only; omega,by simp only [List.length_append,List.length_singleton]; omega,?_⟩,by simp only; omega⟩
  simp only [List.length_append,List.length_singleton]
  have hcg:PLs (MT eQ l eQ.length) (gl (pl++[p])) pl.length:=g3.congr λm hm=>by rw [wY,if_neg (by omega)]
  intro m hm
  by_cases e:m=pl.length
  ·subst e
   rw [wY,if_pos rfl]
   refine ⟨p0,p1,λs hs hM=>by rw [wY,if_neg (by omega)]; exact p2 s hs hM,λx h0 h1=>?_⟩
   obtain ⟨s,s1,s2,s3⟩:=p3 x h0 h1
   exact ⟨s,s1,s2,by rw [wY,if_neg (Nat.ne_of_lt s1)]; exact s3⟩
  ·exact hcg m (by omega)
 ·simp only [decide_eq_false_iff_not] at h
  have:pl.length=12:=by omega
  rw [this] at g3
  exact ⟨this,g3⟩
theorem Ac {eQ:List ab} (hc:COk eQ):∃ pl,iq eQ=some pl/\iv eQ=some pl/\pl.length=12/\gl pl 0=0/\∀ r,r<12->Rg (gl pl r):=by
 obtain ⟨b,l,eb,el,hL⟩:=Cc hc
 obtain ⟨pl,ep,h1,h2⟩:=BV hc (λr s h=>MT.symm h) (Ab hc eb hL)
 obtain ⟨pl',ep',h1',h2'⟩:=BX hc el hL.ok
 have hu:=h2.uniq h2'
 have e:pl=pl':=List.ext_getElem? λi=>by
  rcases Nat.lt_or_ge i 12 with hi | hi
  ·have:=hu i hi
   unfold gl at this
   rw [List.getElem?_eq_getElem (by omega),List.getElem?_eq_getElem (by omega)] at this ⊢
   simp only [Option.getD_some] at this
   rw [this]
  ·rw [List.getElem?_eq_none (by omega),List.getElem?_eq_none (by omega)]
 subst e
 refine ⟨pl,ep,ep',h1,?_,λr hr=>?_⟩
 ·have:=h2 0 (by decide)
  omega
 ·have:=h2 r hr
  unfold Rg
  omega
end
noncomputable section
def rnQ (q:ab) (pl:List Int):ab:=⟨q.Op,gl pl q.Dst.toNat,gl pl q.A.toNat,gl pl q.B.toNat,q.N⟩
theorem Cf {q:ab} {m:Int} (h:QOk m q):Rg q.Dst/\Rg q.A/\Rg q.B/\(aH q<0->q.Dst=0)/\(¬ (q.Op=2\/q.Op=5\/q.Op=6\/q.Op=9)->q.Op≠3->q.A=0)/\(q.Op≠3->q.B=0):=by
 unfold QOk at h
 unfold aH
 rcases h with h | h | h | h | h | h | h | h | h
 all_goals
  simp only [Rg] at h ⊢
  refine ⟨by omega,by omega,by omega,?_,by omega,by omega⟩
  split <;> omega
theorem Da {q:ab} {m:Int} (h:QOk m q) {pl:List Int} (h0:gl pl 0=0) (hp:∀ r,r<12->Rg (gl pl r)):QOk m (rnQ q pl):=by
 have hr:∀ x,Rg x->Rg (gl pl x.toNat):=λx hx=>hp _ (by unfold Rg at hx; omega)
 have hz:∀ x:Int,x=0->gl pl x.toNat=0:=λx hx=>by rw [hx]; exact h0
 unfold QOk at h ⊢
 unfold rnQ
 simp only
 rcases h with h | h | h | h | h | h | h | h | h
 ·exact .inl ⟨h.1,hr _ h.2.1,hz _ h.2.2.1,hz _ h.2.2.2.1,h.2.2.2.2⟩
 ·exact .inr (.inl ⟨h.1,hr _ h.2.1,hr _ h.2.2.1,hz _ h.2.2.2.1,h.2.2.2.2⟩)
 ·exact .inr (.inr (.inl ⟨h.1,hr _ h.2.1,hr _ h.2.2.1,hr _ h.2.2.2.1,h.2.2.2.2⟩))
 ·exact .inr (.inr (.inr (.inl ⟨h.1,hz _ h.2.1,hz _ h.2.2.1,hz _ h.2.2.2.1,h.2.2.2.2⟩)))
 ·exact .inr (.inr (.inr (.inr (.inl ⟨h.1,hz _ h.2.1,hr _ h.2.2.1,hz _ h.2.2.2.1,h.2.2.2.2⟩))))
 ·exact .inr (.inr (.inr (.inr (.inr (.inl ⟨h.1,hz _ h.2.1,hr _ h.2.2.1,hz _ h.2.2.2.1,h.2.2.2.2⟩)))))
 ·exact .inr (.inr (.inr (.inr (.inr (.inr (.inl ⟨h.1,hr _ h.2.1,hz _ h.2.2.1,hz _ h.2.2.2.1,h.2.2.2.2⟩))))))
 ·exact .inr (.inr (.inr (.inr (.inr (.inr (.inr (.inl ⟨h.1,hz _ h.2.1,hr _ h.2.2.1,hz _ h.2.2.2.1,h.2.2.2.2⟩)))))))
 ·exact .inr (.inr (.inr (.inr (.inr (.inr (.inr (.inr ⟨h.1,hz _ h.2.1,hz _ h.2.2.1,hz _ h.2.2.2.1,h.2.2.2.2⟩)))))))
theorem BZ {q:ab} {m:Int} (hq:QOk m q) (hm:m<=600) {pl:List Int} (hl:pl.length=12) (h0:gl pl 0=0):i9 q pl=some (rnQ q pl):=by
 obtain ⟨rD,rA,rB,zD,zA,zB⟩:=Cf hq
 have hn:∀ x,Rg x->nth pl x=some (gl pl x.toNat):=λx hx=>by unfold Rg at hx; exact uN (by omega) (by omega)
 have hz:∀ x:Int,x=0->x=gl pl x.toNat:=λx hx=>by rw [hx]; exact h0.symm
 refine Tot.eq ?_
 unfold i9 rnQ
 rw [uG hq hm,ob9]
 refine .bind (P:=λz=>z=ab.mk q.Op (gl pl q.Dst.toNat) q.A q.B q.N) (.sel (λh=>?_) λh=>.pure ?_) λz hz'=>?_
 ·rw [hn _ rD,ob9]; exact .pure rfl
 ·rw [<-hz q.Dst (zD (by simpa using h))]
 ·subst hz'
  simp only
  refine .bind (P:=λb=>b=true↔(q.Op=2\/q.Op=5\/q.Op=6\/q.Op=9)) (.sel (λh=>.pure ?_) λh=>.sel (λh'=>.pure ?_) λh'=>.sel (λh''=>.pure ?_) λh''=>.pure ?_) λb hb=>.sel (λhbt=>?_) λhbf=>.sel (λh=>?_) λh=>.pure ?_
  ·simp only [beq_iff_eq] at *; simp [h]
  ·simp only [beq_iff_eq] at *; simp [h']
  ·simp only [beq_iff_eq] at *; simp [h'']
  ·simp only [beq_eq_false_iff_ne,ne_eq] at *; simp [h,h',h'']
  ·have hb':=hb.1 hbt
   rw [hn _ rA,ob9,<-hz q.B (zB (by omega))]
   exact .pure rfl
  ·rw [hn _ rA,ob9,hn _ rB,ob9]
   exact .pure rfl
  ·have h3:q.Op≠3:=by simpa using h
   rw [<-hz q.B (zB h3),<-hz q.A (zA (λhh=>by rw [hb.2 hh] at hbf; cases hbf) h3)]
theorem COk.rn {eQ:List ab} (hc:COk eQ) {pl:List Int} (h0:gl pl 0=0) (hp:∀ r,r<12->Rg (gl pl r)):COk (eQ.map λq=>rnQ q pl):=hc.alike ⟨by simp,λi q' hq'=>by
 rw [List.getElem?_map] at hq'
 cases hq:eQ[i]? with
 | none=>rw [hq] at hq'; cases hq'
 | some q =>
  rw [hq] at hq'
  obtain rfl:=o9 hq'
  exact ⟨q,rfl,Da (hc.q q (List.mem_of_getElem? hq)) h0 hp,id⟩⟩
theorem Bi:mb eE gv:=λ{eQ} hc=>by
 have hmx:=hc.max
 obtain ⟨pl,e1,e2,hl,h0,hp⟩:=Ac hc
 have hn:∀ x,Rg x->nth pl x=some (gl pl x.toNat):=λx hx=>by unfold Rg at hx; exact uN (by omega) (by omega)
 have A:Tot (aB (fh eQ pl) (0,eQ)) λout=>out.length=eQ.length/\∀ (i:Nat) (q':ab),out[i]?=some q'->∃ q,eQ[i]?=some q/\q'=rnQ q pl:=by
  refine oZ (λ(i:Nat) (q':ab)=>∃ q,eQ[i]?=some q/\q'=rnQ q pl) hmx (λi out q g0 g1 g2 hq ho=>?_) λout=>?_
  ·unfold fh
   dsimp only
   obtain ⟨rD,rA,rB,_⟩:=Cf (hc.q q (List.mem_of_getElem? hq))
   have hil:i.toNat<out.length:=by omega
   have up:∀ (v:ab) (o:List ab),o.length=out.length->X.upd o i v=some (o.set i.toNat v):=λv o h=>by unfold X.upd; rw [if_pos (by omega)]
   have nt:∀ (v:ab),nth (out.set i.toNat v) i=some v:=λv=>by unfold nth; rw [if_neg (by omega),List.getElem?_set_self hil]
   refine .st (by simpa using g1) ?_
   rw [show nth eQ i=some q by unfold nth; rw [if_neg (by omega)]; exact hq,ob9,hn _ rD,ob9,hn _ rA,ob9,hn _ rB,ob9,show nth out i=some q by unfold nth; rw [if_neg (by omega)]; exact ho,ob9,up _ _ rfl,ob9,nt,ob9,up _ _ (by rw [List.length_set]),ob9,List.set_set,nt,ob9,up _ _ (by rw [List.length_set]),ob9,List.set_set,au g0 (by omega)]
   exact .pure ⟨_,rfl,q,hq,rfl⟩
  ·unfold fh; rw [aj (by simp)]
 have B:Tot (aB (fD eQ pl) ([],0)) λout=>out.length=eQ.length/\∀ (i:Nat) (q':ab),out[i]?=some q'->∃ q,eQ[i]?=some q/\q'=rnQ q pl:=by
  refine lu (n:=eQ.length) (λ(i:Nat) (q':ab)=>∃ q,eQ[i]?=some q/\q'=rnQ q pl) hmx (λi out g0 g1 g2=>?_) λout=>?_
  ·unfold fD
   dsimp only
   obtain ⟨q,hq⟩:∃ q,eQ[i.toNat]?=some q:=⟨_,List.getElem?_eq_getElem (by omega)⟩
   refine .st (by simpa using g1) ?_
   rw [show nth eQ i=some q by unfold nth; rw [if_neg (by omega)]; exact hq,ob9,BZ (hc.q q (List.mem_of_getElem? hq)) (by omega) hl h0,ob9]
   exact .bind (.app (by simp; omega)) λr hr=>.inl ⟨_,by rw [au g0 (by omega),hr],q,hq,rfl⟩
  ·unfold fD; rw [aj (by simp)]
 obtain ⟨a,ea,ha⟩:=A
 obtain ⟨b,eb,hb⟩:=B
 have hab:=nL ha hb λi q q' ⟨x,hx,h⟩ ⟨x',hx',h'⟩=>by
  obtain rfl:=o9 (hx.symm.trans hx')
  rw [h,h']
 have hm:a=eQ.map λq=>rnQ q pl:=List.ext_getElem? λi=>by
  rw [List.getElem?_map]
  rcases Nat.lt_or_ge i eQ.length with h | h
  ·have h1:a[i]?=some (a[i]'(by rw [ha.1]; exact h)):=List.getElem?_eq_getElem (by rw [ha.1]; exact h)
   obtain ⟨q,hq,e⟩:=ha.2 i _ h1
   rw [h1,hq,e]
   rfl
  ·rw [List.getElem?_eq_none (by rw [ha.1]; exact h),List.getElem?_eq_none h]
   rfl
 refine ⟨a,?_,?_,by rw [hm]; exact hc.rn h0 hp,by rw [ha.1]; exact Nat.le_refl _⟩
 ·unfold eE
  rw [mx hc,ob9,bE (show (!true)=false from rfl),e1,ob9,nM eQ hmx,ob9,ea]
  rfl
 ·unfold gv
  rw [aM hc,ob9,bE (show (!true)=false from rfl),e2,ob9,eb,hab]
  rfl
theorem B0 {eQ:List ab} (hc:COk eQ) (t i:Int) (hi:i<t):∃ r,bu t (eQ,i)=some (.inl (r,w64 (i+1)))/\bw t (eQ,i)=some (.inl (r,w64 (i+1)))/\COk r/\r.length<=eQ.length:=by
 obtain ⟨r1,a1,b1,c1,d1⟩:=BM hc
 obtain ⟨r2,a2,b2,c2,d2⟩:=BU c1
 obtain ⟨r3,a3,b3,c3,d3⟩:=BJ c2
 obtain ⟨r4,a4,b4,c4,d4⟩:=BK c3
 obtain ⟨r5,a5,b5,c5,d5⟩:=yF c4
 refine ⟨r5,?_,?_,c5,by omega⟩
 ·unfold bu
  simp only [a1,a2,a3,a4,a5,ob9]
  rw [ga (by simpa using hi)]
  rfl
 ·unfold bw mP
  simp only [b1,b2,b3,b4,b5,ob9]
  rw [ga (by simpa using hi)]
theorem xU {eQ:List ab} (hc:COk eQ) {t:Int} (h0:0<=t) (h4:t<=4):∃ r,bI eQ t=some (r,true)/\bT eQ t=some (r,true)/\COk r/\r.length<=eQ.length:=by
 have hmx:=hc.max
 have A:Tot (aB (bu t) (eQ,0)) λz=>∃ r,z=.inr r/\aB (bw t) (eQ,0)=some r/\COk r/\r.length<=eQ.length:=by
  have key:∀ (k:Nat) (c:List ab) (i:Int),0<=i->i<=t->(t-i).toNat=k->COk c->∃ r,aB (bu t) (c,i)=some (.inr r)/\aB (bw t) (c,i)=some r/\COk r/\r.length<=c.length:=λk=>by
   induction k with
   | zero =>
    intro c i g0 g1 hk hcc
    refine ⟨c,?_,?_,hcc,Nat.le_refl _⟩
    ·rw [bn,show bu t (c,i)=some (.inr (.inr c)) by unfold bu; exact bE (by simp; omega)]
    ·rw [bn,show bw t (c,i)=some (.inr c) by unfold bw; exact bE (by simp; omega)]
   | succ k ih =>
    intro c i g0 g1 hk hcc
    obtain ⟨r,e1,e2,h1,h2⟩:=B0 hcc t i (by omega)
    rw [au g0 (by omega)] at e1 e2
    obtain ⟨r',f1,f2,f3,f4⟩:=ih r (i+1) (by omega) (by omega) (by omega) h1
    exact ⟨r',by rw [bn,e1]; exact f1,by rw [bn,e2]; exact f2,f3,by omega⟩
  obtain ⟨r,e1,e2,h1,h2⟩:=key t.toNat eQ 0 (by omega) h0 (by simp) hc
  exact ⟨_,e1,r,rfl,e2,h1,h2⟩
 obtain ⟨z,ez,r,rfl,es,h1,h2⟩:=A
 refine ⟨r,?_,?_,h1,h2⟩
 ·unfold bI
  rw [mx hc,ob9,bE (by simp; omega),nM eQ hmx,ob9,ez]
  rfl
 ·unfold bT
  rw [aM hc,ob9,bE (show (!true)=false from rfl)]
  have h6:bh t 0 4=some true:=by unfold bh; simp; omega
  rw [h6,ob9,ob9,bE (show (!true)=false from rfl)]
  obtain ⟨r0,e0,hr0⟩:=Tot.app (bytes:=40) (l:=([]:List ab)) (m:=eQ) (by simp; omega)
  rw [List.nil_append] at hr0
  rw [e0,ob9,hr0,es]
  rfl
theorem wZ {eQ:List ab} (hl:eQ.length<=4611686018427387904) {t:Int} (h:¬ COk eQ\/t<0\/4<t):bI eQ t=some ([],false)/\bT eQ t=some ([],false):=by
 have hv:∃ b,ba eQ=some b/\aO eQ=some b/\(b=true->COk eQ):=by
  rcases qm eQ hl with ⟨h1,h2,h3⟩ | ⟨h1,h2,h3⟩
  ·exact ⟨true,h2,h3,λ_=>h1⟩
  ·exact ⟨false,h2,h3,λh=>by cases h⟩
 obtain ⟨b,e1,e2,hb⟩:=hv
 have h6:bh t 0 4=some (decide (0<=t)&&decide (t<=4)):=rfl
 constructor
 ·unfold bI
  rw [e1,ob9]
  refine ga ?_
  cases b
  ·rfl
  ·simp only [Bool.not_true,Bool.false_or,Bool.or_eq_true,decide_eq_true_eq]
   rcases h with h | h | h
   ·exact absurd (hb rfl) h
   ·exact .inl h
   ·exact .inr h
 ·unfold bT
  rw [e2,ob9]
  cases b
  ·rw [ga (show (!false)=true from rfl),ob9,ga rfl]
  ·rw [bE (show (!true)=false from rfl),h6,ob9,ob9]
   refine ga ?_
   simp only [Bool.not_eq_true',Bool.and_eq_false_iff,decide_eq_false_iff_not]
   rcases h with h | h | h
   ·exact absurd (hb rfl) h
   ·exact .inl (by omega)
   ·exact .inr (by omega)
end
noncomputable section
theorem Db {α:Type} {l:List α} (h:l.length=2):∃ a b,l=[a,b]:=by
 match l,h with
 | [a,b],_=>exact ⟨a,b,rfl⟩
theorem Cg {d:Nat} {e:Expr} {a b:Expr} (hl:e.Args=[a,b]) (h0:e.Op≠0) (h13:e.Op≠13):EOk (d+1) e↔(1<=e.Op/\e.Op<=12)/\e.N=0/\EOk d a/\EOk d b:=by
 constructor
 ·rintro (h | h | ⟨h1,h2,a',b',h3,h4,h5⟩)
  ·exact absurd h.1 h0
  ·exact absurd h.1 h13
  ·rw [hl] at h3
   injection h3 with h6 h7
   injection h7 with h7 _
   subst h6 h7
   exact ⟨h1,h2,h4,h5⟩
 ·rintro ⟨h1,h2,h4,h5⟩
  exact .inr (.inr ⟨h1,h2,a,b,hl,h4,h5⟩)
theorem uO:∀ (d k:Nat) (e:Expr) (dd:Int),d<k->dd=(d:Int)->d<=1000->Tot (kQ k e dd) λb=>b=true↔EOk d e
 | 0,k+1,e,dd,_,hd,_=>by
  show Tot (fu k (kQ k) e dd) _
  unfold fu
  exact .st (by simp; omega) (.pure ⟨λh=>(by cases h),λh=>h.elim⟩)
 | d+1,k+1,e,dd,hk,hd,hm=>by
  show Tot (fu k (kQ k) e dd) _
  unfold fu
  refine .sf (by simp; omega) (.sel (λh=>?_) λh=>.sel (λh'=>?_) λh'=>?_)
  ·have h0:e.Op=0:=by simpa using h
   rw [oS,ob9]
   refine .pure ⟨λhh=>.inl ?_,λhh=>?_⟩
   ·simp at hh
    exact ⟨h0,by omega,by omega,hh.2⟩
   ·rcases hh with hh | hh | hh
    ·simp [hh.2.2.2]; omega
    ·omega
    ·omega
  ·have h13:e.Op=13:=by simpa using h'
   rw [oS,ob9]
   refine .pure ⟨λhh=>.inr (.inl ?_),λhh=>?_⟩
   ·simp at hh
    exact ⟨h13,by omega,by omega,hh.2⟩
   ·rcases hh with hh | hh | hh
    ·omega
    ·simp [hh.2.2.2]; omega
    ·omega
  ·have h0:e.Op≠0:=by simpa using h
   have h13:e.Op≠13:=by simpa using h'
   rw [nY,ob9,a8 (by omega) (by omega)]
   by_cases hg:(1<=e.Op/\e.Op<=12)/\e.N=0/\e.Args.length=2
   ·obtain ⟨a,b,hl⟩:=Db hg.2.2
    have e1:nth e.Args 0=some a:=by rw [hl]; rfl
    have e2:nth e.Args 1=some b:=by rw [hl]; rfl
    rw [Cg hl h0 h13,ga (by simp [hg.1,hg.2.1,hg.2.2]),e1,e2]
    simp only [ob9,Expr.eta']
    refine .bind (P:=λz=>z=true↔EOk d a) (.bind (uO d k a (dd-1) (by omega) (by omega) (by omega)) λz hz=>.pure hz) λz hz=>.bind (P:=λw=>w=true↔(EOk d a/\EOk d b)) (.sel (λhzt=>.bind (uO d k b (dd-1) (by omega) (by omega) (by omega)) λw hw=>.pure ⟨λh=>⟨hz.1 hzt,hw.1 h⟩,λh=>hw.2 h.2⟩) λhzf=>.pure ⟨λh=>(by cases h),λh=>?_⟩) λw hw=>.pure ⟨λh=>⟨hg.1,hg.2.1,hw.1 h⟩,λh=>hw.2 h.2.2⟩
    rw [hz.2 h.1] at hzf
    cases hzf
   ·rw [bE (by
     simp only [Bool.and_eq_false_iff,beq_eq_false_iff_ne,ne_eq,decide_eq_false_iff_not]
     by_cases a1:(1<=e.Op/\e.Op<=12)
     ·by_cases a2:e.N=0
      ·exact .inr (λa3=>hg ⟨a1,a2,by omega⟩)
      ·exact .inl (.inr a2)
     ·exact .inl (.inl a1)),ob9,bE rfl,ob9]
    refine .pure ⟨λh=>(by cases h),λhh=>?_⟩
    rcases hh with hh | hh | ⟨q1,q2,a,b,q3,_⟩
    ·exact absurd hh.1 h0
    ·exact absurd hh.1 h13
    ·exact absurd ⟨q1,q2,by rw [q3]; rfl⟩ hg
theorem sq:∀ (d k:Nat) (e:Expr) (dd:Int),d<k->dd=(d:Int)->d<=1000->Tot (iP k e dd) λb=>b=true↔EOk d e
 | d,k+1,e,dd,hk,hd,hm=>by
  show Tot (gi k (iP k) e dd) _
  unfold gi
  refine .sel (λh=>.pure ?_) λh=>.sel (λh'=>.pure ?_) λh'=>?_
  ·have h0:e.Op=0:=by simpa using h
   cases d with
   | zero=>simp [EOk]; omega
   | succ d =>
    simp only [Bool.and_eq_true,decide_eq_true_eq,beq_iff_eq]
    refine ⟨λhh=>.inl ⟨h0,by omega,by omega,List.eq_nil_of_length_eq_zero (by omega)⟩,λhh=>?_⟩
    rcases hh with hh | hh | hh
    ·refine ⟨⟨⟨hh.2.1,hh.2.2.1⟩,by simp [hh.2.2.2]⟩,by omega⟩
    ·omega
    ·omega
  ·have h13:e.Op=13:=by simpa using h'
   cases d with
   | zero=>simp [EOk]; omega
   | succ d =>
    simp only [Bool.and_eq_true,decide_eq_true_eq,beq_iff_eq]
    refine ⟨λhh=>.inr (.inl ⟨h13,by omega,by omega,List.eq_nil_of_length_eq_zero (by omega)⟩),λhh=>?_⟩
    rcases hh with hh | hh | hh
    ·omega
    ·refine ⟨⟨⟨hh.2.1,by omega⟩,by simp [hh.2.2.2]⟩,by omega⟩
    ·omega
  ·have h0:e.Op≠0:=by simpa using h
   have h13:e.Op≠13:=by simpa using h'
   rw [AX,ob9,a8 (by omega) (by omega)]
   by_cases hg:((1<=e.Op/\e.Op<=12)/\e.N=0/\e.Args.length=2)/\1<dd
   ·obtain ⟨hg,hdd⟩:=hg
    obtain ⟨d,rfl⟩:∃ j,d=j+1:=⟨d-1,by omega⟩
    obtain ⟨a,b,hl⟩:=Db hg.2.2
    have e1:nth e.Args 0=some a:=by rw [hl]; rfl
    have e2:nth e.Args 1=some b:=by rw [hl]; rfl
    rw [Cg hl h0 h13,ga (by simp [hg.1,hg.2.1,hg.2.2]; exact hdd),e1,e2]
    simp only [ob9,Expr.eta']
    refine .bind (P:=λz=>z=true↔EOk d a) (.bind (sq d k a (dd-1) (by omega) (by omega) (by omega)) λz hz=>.pure hz) λz hz=>.bind (P:=λw=>w=true↔(EOk d a/\EOk d b)) (.sel (λhzt=>.bind (sq d k b (dd-1) (by omega) (by omega) (by omega)) λw hw=>.pure ⟨λh=>⟨hz.1 hzt,hw.1 h⟩,λh=>hw.2 h.2⟩) λhzf=>.pure ⟨λh=>(by cases h),λh=>?_⟩) λw hw=>.pure ⟨λh=>⟨hg.1,hg.2.1,hw.1 h⟩,λh=>hw.2 h.2.2⟩
    rw [hz.2 h.1] at hzf
    cases hzf
   ·rw [bE (by
     simp only [Bool.and_eq_false_iff,beq_eq_false_iff_ne,ne_eq,decide_eq_false_iff_not]
     by_cases a1:(1<=e.Op/\e.Op<=12)
     ·by_cases a2:e.N=0
      ·by_cases a3:e.Args.length=2
       ·exact .inr (λa4=>hg ⟨⟨a1,a2,a3⟩,by omega⟩)
       ·exact .inl (.inr (by omega))
      ·exact .inl (.inl (.inr a2))
     ·exact .inl (.inl (.inl a1))),ob9,bE rfl,ob9]
    refine .pure ⟨λh=>(by cases h),λhh=>?_⟩
    cases d with
    | zero=>exact hh.elim
    | succ d =>
     rcases hh with hh | hh | ⟨q1,q2,a,b,q3,q4,_⟩
     ·exact absurd hh.1 h0
     ·exact absurd hh.1 h13
     ·cases d with
      | zero=>exact q4.elim
      | succ d=>exact absurd ⟨⟨q1,q2,by rw [q3]; rfl⟩,by omega⟩ hg
 | _,0,_,_,hk,_,_=>by omega
theorem w4 {k:Nat} (hk:6<=k) (e:Expr):Tot (bK k e) λb=>b=true↔EOk 5 e:=by
 unfold bK
 rw [Expr.eta']
 exact .bind (uO 5 k e 5 (by omega) rfl (by omega)) λb hb=>.pure hb
theorem CK {k:Nat} (hk:6<=k) (e:Expr):Tot (gk k e) λb=>b=true↔EOk 5 e:=by
 unfold gk
 rw [Expr.eta']
 exact .bind (sq 5 k e 5 (by omega) rfl (by omega)) λb hb=>.pure hb
theorem sr {e:Expr}:((e.Op==0&&e.N==0)&&((e.Args.length:Int)==0))=true↔e=⟨0,0,[]⟩:=by
 simp only [Bool.and_eq_true,beq_iff_eq]
 constructor
 ·rintro ⟨⟨h1,h2⟩,h3⟩
  have h4:e.Args=[]:=List.eq_nil_of_length_eq_zero (by omega)
  cases e
  simp_all
 ·rintro rfl
  simp
def mS (R:Int) (s:ae):Prop:=s.Body=[]/\s.Else=[]/\((s.Kind=1/\(0<=s.Var/\s.Var<=3)/\s.Box=0/\EOk 5 s.Expr)\/(s.Kind=4/\s.Var=0/\(0<=s.Box/\s.Box<R)/\EOk 5 s.Expr) \/
 (s.Kind=5/\(0<=s.Var/\s.Var<=3)/\(0<=s.Box/\s.Box<R)/\s.Expr=⟨0,0,[]⟩)\/(s.Kind=6/\s.Var=0/\s.Box=0/\s.Expr=⟨0,0,[]⟩)\/(s.Kind=7/\s.Var=0/\s.Box=0/\EOk 5 s.Expr))
def HdR (s:ae):Prop:=(s.Kind=2\/(s.Kind=3/\s.Else=[]))/\s.Var=0/\s.Box=0/\EOk 5 s.Expr
def SR (R:Int):Nat->ae->Prop
 | 0,s=>mS R s
 | n+1,s=>mS R s\/(HdR s/\(∀ x∈s.Body,SR R n x)/\∀ x∈s.Else,SR R n x)
theorem mS.simp {R:Int} (hR:R<=3) {s:ae} (h:mS R s):pM s:=by
 obtain ⟨h1,h2,h3⟩:=h
 refine ⟨h1,h2,?_⟩
 rcases h3 with h | h | h | h | h
 ·exact .inl h
 ·exact .inr (.inl ⟨h.1,h.2.1,⟨h.2.2.1.1,by omega⟩,h.2.2.2⟩)
 ·exact .inr (.inr (.inl ⟨h.1,h.2.1,⟨h.2.2.1.1,by omega⟩,h.2.2.2⟩))
 ·exact .inr (.inr (.inr (.inl h)))
 ·exact .inr (.inr (.inr (.inr h)))
theorem SR.ok {R:Int} (hR:R<=3):∀ {n:Nat} {s:ae},SR R n s->SOk n s
 | 0,s,h=>mS.simp hR h
 | n+1,s,h=>h.imp (mS.simp hR) λ⟨h1,h2,h3⟩=>⟨h1.1,h1.2.1,h1.2.2.1,h1.2.2.2,λx hx=>(h2 x hx).ok hR,λx hx=>(h3 x hx).ok hR⟩
theorem mS.up {R:Int} (hR:R<=3) {s:ae} (h:mS R s):mS 3 s:=by
 obtain ⟨h1,h2,h3⟩:=h
 refine ⟨h1,h2,?_⟩
 rcases h3 with h | h | h | h | h
 ·exact .inl h
 ·exact .inr (.inl ⟨h.1,h.2.1,⟨h.2.2.1.1,by omega⟩,h.2.2.2⟩)
 ·exact .inr (.inr (.inl ⟨h.1,h.2.1,⟨h.2.2.1.1,by omega⟩,h.2.2.2⟩))
 ·exact .inr (.inr (.inr (.inl h)))
 ·exact .inr (.inr (.inr (.inr h)))
theorem SR.up {R:Int} (hR:R<=3):∀ {n:Nat} {s:ae},SR R n s->SR 3 n s
 | 0,s,h=>mS.up hR h
 | n+1,s,h=>h.imp (mS.up hR) λ⟨h1,h2,h3⟩=>⟨h1,λx hx=>(h2 x hx).up hR,λx hx=>(h3 x hx).up hR⟩
theorem mS.kind {R:Int} {s:ae} (h:mS R s):s.Kind≠2/\s.Kind≠3:=by
 obtain ⟨_,_,h⟩:=h
 rcases h with h | h | h | h | h <;> (have:=h.1; omega)
theorem Dc {a b c d e:Prop}:a/\b/\c/\d/\e↔d/\e/\a/\b/\c:=⟨λ⟨h1,h2,h3,h4,h5⟩=>⟨h4,h5,h1,h2,h3⟩,λ⟨h4,h5,h1,h2,h3⟩=>⟨h1,h2,h3,h4,h5⟩⟩
theorem Dd {a b c e:Prop}:a/\b/\c/\e↔e/\a/\b/\c:=⟨λ⟨h1,h2,h3,h5⟩=>⟨h5,h1,h2,h3⟩,λ⟨h5,h1,h2,h3⟩=>⟨h1,h2,h3,h5⟩⟩
def fl (kd:Int):pL⊕Bool:=if kd=1 then .inl (pL.mk true false true false false) else if kd=2 then .inl (pL.mk false false true true true) else if kd=3 then .inl (pL.mk false false true true false) else if kd=4 then .inl (pL.mk false true true false false) else if kd=5 then .inl (pL.mk true true false false false) else if kd=7 then .inl (pL.mk false false true false false) else if kd=6 then .inl (pL.mk false false false false false) else .inr false
theorem Ad {k:Nat} (hk:6<=k) (x:ae) {R:Int}:Tot (iQ k x R) λb=>b=true↔(mS R x\/HdR x):=by
 have main:∀ (va bo ex bd el:Bool),Tot ((cW x.Var 4 va).bind λy2 =>
   (sel (!y2) (some true) ((cW x.Box R bo).bind λb_1=>some (!b_1))).bind λb1 =>
   sel (b1||(bo&&(decide (x.Box>=R)))) (some false) <|
   (sel ex ((gk k (Expr.mk x.Expr.Op x.Expr.N x.Expr.Args)).bind λy4=>some (!y4)) (some false):Option (Bool)).bind λb2 =>
   sel (b2||((!ex)&&(((x.Expr.Op !=0)||(x.Expr.N !=0))||(decide ((x.Expr.Args.length:Int)>0))))) (some false) <|
   some ((bd||((x.Body.length:Int)==0))&&(el||((x.Else.length:Int)==0))))
   λb=>b=true↔((if va then 0<=x.Var/\x.Var<=3 else x.Var=0)/\(if bo then 0<=x.Box/\x.Box<R else x.Box=0)/\(if ex then EOk 5 x.Expr else x.Expr=⟨0,0,[]⟩)/\(bd=true\/x.Body=[])/\(el=true\/x.Else=[])):=λva bo ex bd el=>by
  unfold cW
  rw [Expr.eta',ob9]
  refine .bind (P:=λb=>b=false↔((if va then 0<=x.Var/\x.Var<=3 else x.Var=0)/\(x.Box=0\/(bo=true/\0<x.Box/\x.Box<R)))) ?_ λb1 hb1=>.sel (λh=>.pure ⟨λh=>(by cases h),λh2=>?_⟩) λh=>.bind (P:=λb2=>(b2||((!ex)&&(((x.Expr.Op !=0)||(x.Expr.N !=0))||(decide ((x.Expr.Args.length:Int)>0)))))=false↔(if ex then EOk 5 x.Expr else x.Expr=⟨0,0,[]⟩)) ?_ λb2 hb2=>.sel (λh2=>.pure ⟨λh=>(by cases h),λh3=>?_⟩) λh2=>.pure ?_
  ·rw [ob9]
   cases va <;> cases bo <;> refine .sel (λh=>.pure ?_) λh=>.pure ?_
   all_goals
    simp at h ⊢
    try omega
  ·rw [Bool.or_eq_true] at h
   rcases h with h | h
   ·have:b1=false:=hb1.2 ⟨h2.1,by
     have:=h2.2.1
     cases bo
     ·left; simpa using this
     ·simp at this ⊢; omega⟩
    rw [this] at h
    cases h
   ·cases bo
    ·cases h
    ·have:=h2.2.1
     simp at h this
     omega
  ·cases ex
   ·refine .sf rfl (.pure ?_)
    rw [Bool.false_or,Bool.not_false,Bool.true_and]
    rw [if_neg (by decide),<-sr]
    simp
   ·refine .st rfl (.bind (CK hk x.Expr) λy hy=>.pure ?_)
    rw [if_pos rfl,<-hy]
    cases y <;> simp
  ·have:(b2||((!ex)&&(((x.Expr.Op !=0)||(x.Expr.N !=0))||(decide ((x.Expr.Args.length:Int)>0)))))=false:=hb2.2 h3.2.2.1
   rw [this] at h2
   cases h2
  ·have h5:=hb2.1 h2
   rw [Bool.or_eq_false_iff] at h
   have h6:=hb1.1 h.1
   have h7:(if bo then 0<=x.Box/\x.Box<R else x.Box=0):=by
    cases bo
    ·have:=h6.2; simp at this ⊢; exact this
    ·have:=h6.2; have h8:=h.2; simp at this h8 ⊢; omega
   have e1:((x.Body.length:Int)==0)=true↔x.Body=[]:=by simp
   have e2:((x.Else.length:Int)==0)=true↔x.Else=[]:=by simp
   rw [Bool.and_eq_true,Bool.or_eq_true,Bool.or_eq_true,e1,e2]
   exact ⟨λhh=>⟨h6.1,h7,h5,hh⟩,λhh=>hh.2.2.2⟩
 unfold iQ
 refine .bind (P:=λy=>y=fl x.Kind) ?_ λy hy=>?_
 ·unfold fl
  refine .sel (λh=>.pure ?_) λh1=>.sel (λh=>.pure ?_) λh2=>.sel (λh=>.pure ?_) λh3=>.sel (λh=>.pure ?_) λh4=>.sel (λh=>.pure ?_) λh5=>.sel (λh=>.pure ?_) λh7=>.sel (λh=>.pure ?_) λh6=>.pure ?_
  all_goals
   simp only [beq_iff_eq,beq_eq_false_iff_ne,ne_eq] at *
   simp [*]
 ·subst hy
  by_cases hkd:x.Kind=1\/x.Kind=2\/x.Kind=3\/x.Kind=4\/x.Kind=5\/x.Kind=6\/x.Kind=7
  ·rcases hkd with h | h | h | h | h | h | h
   all_goals
    rw [h]
    refine (main _ _ _ _ _).mono λb hb=>hb.trans ?_
    unfold mS HdR
    simp [h]
    try first
     | exact Dc
     | exact Dd
  ·have:fl x.Kind=.inr false:=by
    unfold fl
    rw [if_neg (by omega),if_neg (by omega),if_neg (by omega),if_neg (by omega),if_neg (by omega),if_neg (by omega),if_neg (by omega)]
   rw [this]
   refine .pure ⟨λh=>(by cases h),λh=>?_⟩
   rcases h with ⟨_,_,h⟩ | ⟨h,_⟩
   ·omega
   ·omega
theorem SR.head {R:Int} {n:Nat} {s:ae} (h:SR R n s):mS R s\/HdR s:=by
 cases n with
 | zero=>exact .inl h
 | succ n=>exact h.imp id λh=>h.1
theorem SR.iff_simp {R:Int} {n:Nat} {s:ae} (hk:s.Kind≠2/\s.Kind≠3):SR R n s↔mS R s:=by
 cases n with
 | zero=>exact Iff.rfl
 | succ n=>exact ⟨λh=>h.resolve_right λh=>by have:=h.1.1; omega,.inl⟩
def sub:List ae->Nat
 | []=>0
 | x::l=>cts x.Body+cts x.Else+sub l
theorem Bj:∀ l:List ae,l.length+sub l=cts l
 | []=>rfl
 | x::l=>by
  have:=Bj l
  have:=oV x
  simp only [List.length_cons,sub,cts]
  omega
theorem xV:∀ (l:List ae) (i:Nat) (s:ae),l[i]?=some s->sub (l.take (i+1))=sub (l.take i)+cts s.Body+cts s.Else
 | [],_,_,h=>by simp at h
 | x::l,0,s,h=>by
  have:x=s:=by simpa using h
  subst this; simp [sub]
 | x::l,i+1,s,h=>by
  have:=xV l i s (by simpa using h)
  simp only [List.take_succ_cons,sub,this]; omega
theorem tC:∀ (l:List ae) (i:Nat),sub (l.take i)<=sub l
 | [],_=>by simp [sub]
 | x::l,0=>by simp [sub]
 | x::l,i+1=>by have:=tC l i; simp only [List.take_succ_cons,sub]; omega
theorem qD {R:Int}:∀ (n k:Nat) {l:List ae} {dp c:Int},n+8<=k->dp=3-(n:Int)->n<=3->0<=c->c<=16->cts l<=2000000->Tot (eW k l R dp c) λz=>(z.1=true↔((∀ x∈l,SR R n x)/\c+cts l<=16))/\(z.1=true->z.2=c+cts l)
 | n,0,_,_,_,hk,_,_,_,_,_=>by omega
 | n,k+1,l,dp,c,hk,hd,hn,hc,hc16,hcm=>by
  have hsl:=Bj l
  show Tot (fi k (eW k) l R dp c) _
  unfold fi
  rw [a8 (by omega) (by omega)]
  refine .sel (λh=>.pure ⟨⟨λh=>(by cases h),λhh=>?_⟩,λh=>(by cases h)⟩) λh=>?_
  ·simp only [decide_eq_true_eq] at h
   omega
  simp only [decide_eq_false_iff_not] at h
  have good:Tot (aB (gU l R dp (eW k) k) (0,c+l.length)) λz=>match z with
    | .inl o=>o.1=false/\¬ ((∀ x∈l,SR R n x)/\c+cts l<=16)
    | .inr o=>o=c+cts l/\(∀ x∈l,SR R n x)/\c+cts l<=16:=by
   refine .iter (λs=>0<=s.1/\s.1<=(l.length:Int)/\s.2=c+l.length+sub (l.take s.1.toNat)/\s.2<=16/\∀ (j:Nat) x,(j:Int)<s.1->l[j]?=some x->SR R n x) (λs=>((l.length:Int)-s.1).toNat) ⟨by simp,by simp,by simp [sub],by simp only; omega,λj x hj=>by simp only at hj; omega⟩ λs hs=>?_
   obtain ⟨i,c'⟩:=s
   obtain ⟨g0,g1,g2,g3,g4⟩:=hs
   simp only at g0 g1 g2 g3 g4
   unfold gU
   dsimp only
   refine .sel (λhlt=>?_) λhge=>.inr ?_
   ·simp only [decide_eq_true_eq] at hlt
    refine .bind (P:=λz:Int⊕(Bool×Int)=>match z with
     | .inl o=>o=c+l.length+sub (l.take (i.toNat+1))/\o<=16/\∀ (j:Nat) x,(j:Int)<i+1->l[j]?=some x->SR R n x
     | .inr o=>o.1=false/\¬ ((∀ x∈l,SR R n x)/\c+cts l<=16)) ?_ λz hz=>.both (λo e=>?_) λo e=>by subst e; exact .inr hz
    ·refine .bind (.nth g0 hlt) λx ⟨hx,hxm⟩=>?_
     rw [ae.eta']
     have hst:=xV l i.toNat x hx
     have hsle:=tC l (i.toNat+1)
     have step:SR R n x->∀ (j:Nat) y,(j:Int)<i+1->l[j]?=some y->SR R n y:=λhS j y hj hy=>by
      by_cases e:(j:Int)<i
      ·exact g4 j y e hy
      ·obtain rfl:j=i.toNat:=by omega
       obtain rfl:=o9 (hx.symm.trans hy)
       exact hS
     refine .bind (Ad (by omega) x) λb hb=>.sel (λh1=>.pure ⟨rfl,λhh=>?_⟩) λh1=>?_
     ·have:=hb.2 (hh.1 x hxm).head
      rw [this] at h1
      simp at h1
      omega
     ·simp only [Bool.or_eq_false_iff,Bool.not_eq_false'] at h1
      have hV:=hb.1 h1.1
      refine .sel (λh2=>.pure ?_) λh2=>?_
      ·have hkd:x.Kind≠2/\x.Kind≠3:=by simpa using h2
       have hS:mS R x:=hV.resolve_right λh=>by have:=h.1; omega
       have e1:cts x.Body=0:=by rw [hS.1]; rfl
       have e2:cts x.Else=0:=by rw [hS.2.1]; rfl
       exact ⟨by omega,g3,step ((SR.iff_simp hkd).2 hS)⟩
      ·have hkd:x.Kind=2\/x.Kind=3:=by
        simp at h2
        by_cases e:x.Kind=2
        ·exact .inl e
        ·exact .inr (h2 e)
       have hH:HdR x:=hV.resolve_left λh=>by have:=h.kind; omega
       cases n with
       | zero =>
        rw [ga (b:=decide (dp>=3)) (by simp; omega),ob9,ga rfl,ob9]
        exact .st rfl (.pure ⟨rfl,λhh=>by have:=mS.kind (hh.1 x hxm); omega⟩)
       | succ n =>
        rw [bE (b:=decide (dp>=3)) (by simp; omega),a8 (by omega) (by omega)]
        have hlb:=lw x.Body
        have hle:=lw x.Else
        refine .bind (P:=λz:Bool×Int=>(z.1=false↔((∀ y∈x.Body,SR R n y)/\c'+cts x.Body<=16))/\(z.1=false->z.2=c'+cts x.Body)) ?_ λz hz=>.bind (P:=λz:Bool×Int=>(z.1=false↔(((∀ y∈x.Body,SR R n y)/\∀ y∈x.Else,SR R n y)/\c'+cts x.Body+cts x.Else<=16))/\(z.1=false->z.2=c'+cts x.Body+cts x.Else)) ?_ λw hw=>.sel (λh3=>.pure ⟨rfl,λhh=>?_⟩) λh3=>.pure ?_
        ·exact .bind (qD (R:=R) n k (l:=x.Body) (dp:=dp+1) (c:=c') (by omega) (by omega) (by omega) (by omega) (by omega) (by omega)) λz hz=>.pure ⟨by rw [<-hz.1]; cases z.1 <;> simp,λh=>hz.2 (by simpa using h)⟩
        ·refine .sel (λhz1=>.pure ⟨⟨λh=>(by cases h),λhh=>?_⟩,λh=>(by cases h)⟩) λhz1=>?_
         ·rw [hz.1.2 ⟨hh.1.1,by omega⟩] at hz1
          cases hz1
         ·have hz2:=hz.2 hz1
          have hz3:=hz.1.1 hz1
          refine .bind (qD (R:=R) n k (l:=x.Else) (dp:=dp+1) (c:=z.2) (by omega) (by omega) (by omega) (by omega) (by omega) (by omega)) λw hw=>.pure ⟨?_,λh=>by have:=hw.2 (by simpa using h); omega⟩
          have e:((!w.1)=false)↔w.1=true:=by cases w.1 <;> simp
          rw [e,hw.1,hz2]
          exact ⟨λh=>⟨⟨hz3.1,h.1⟩,h.2⟩,λh=>⟨h.1.2,h.2⟩⟩
        ·rcases hh.1 x hxm with h | h
         ·have:=h.kind; omega
         ·have:=hw.1.2 ⟨h.2,by omega⟩
          rw [this] at h3
          cases h3
        ·have hw1:=hw.1.1 h3
         have hw2:=hw.2 h3
         exact ⟨by omega,by omega,step (.inr ⟨hH,hw1.1⟩)⟩
    ·subst e
     rw [au g0 (by omega)]
     refine .inl ⟨⟨by simp only; omega,by simp only; omega,by simp only; rw [show (i+1).toNat=i.toNat+1 by omega]; exact hz.1,hz.2.1,hz.2.2⟩,by simp only; omega⟩
   ·simp only [decide_eq_false_iff_not] at hge
    show c'=c+cts l/\_
    rw [List.take_of_length_le (by omega)] at g2
    refine ⟨by omega,λx hx=>?_,by omega⟩
    obtain ⟨j,hj,e⟩:=List.mem_iff_getElem.1 hx
    exact g4 j x (by omega) (by rw [List.getElem?_eq_getElem hj,e])
  refine .bind good λz hz=>.both (λo e=>?_) λo e=>?_
  ·subst e
   refine .pure ⟨⟨λh=>?_,λh=>absurd h hz.2⟩,λh=>?_⟩ <;> (rw [hz.1] at h; cases h)
  ·subst e
   exact .pure ⟨⟨λ_=>hz.2,λ_=>rfl⟩,λ_=>hz.1⟩
theorem xW {k:Nat} (hk:6<=k) (x:ae) (hkd:x.Kind≠2/\x.Kind≠3):Tot (dm k x) λb=>b=true↔mS 3 x:=by
 have hp:fJ x.Expr=some ((x.Expr.Op==0&&x.Expr.N==0)&&((x.Expr.Args.length:Int)==0)):=rfl
 have fin:∀ (u v:Bool) (E:Option Bool) (P:Prop),Tot E (λb=>b=true↔P)->Tot ((dV x u).bind λy1 =>
   (sel y1 ((dW x v).bind λy2=>some y2) (some false):Option (Bool)).bind λb1 =>
   (sel b1 (E.bind λy3=>some y3) (some false):Option (Bool)).bind λb2 =>
   some b2) λb=>b=true↔((if u then 0<=x.Var/\x.Var<=3 else x.Var=0)/\(if v then 0<=x.Box/\x.Box<3 else x.Box=0)/\P):=λu v E P hE=>by
  obtain ⟨e,he,hP⟩:=hE
  rw [wP,wQ,he]
  have h1:(if u then decide (0<=x.Var)&&decide (x.Var<=3) else x.Var==0)=true↔(if u then 0<=x.Var/\x.Var<=3 else x.Var=0):=by cases u <;> simp
  have h2:(if v then decide (0<=x.Box)&&decide (x.Box<=2) else x.Box==0)=true↔(if v then 0<=x.Box/\x.Box<3 else x.Box=0):=by cases v <;> simp <;> omega
  rw [<-h1,<-h2,<-hP]
  generalize (if u then decide (0<=x.Var)&&decide (x.Var<=3) else x.Var==0)=a
  generalize (if v then decide (0<=x.Box)&&decide (x.Box<=2) else x.Box==0)=b
  cases a <;> cases b <;> cases e <;> exact ⟨_,rfl,by simp⟩
 unfold dm
 simp only [ae.eta',Expr.eta']
 refine .sel (λh=>.pure ⟨λh=>(by cases h),λhh=>?_⟩) λh=>?_
 ·rw [hh.1,hh.2.1] at h
  simp at h
 ·simp at h
  have hb:=h.1
  have he:=h.2
  refine .sel (λh1=>(fin true false _ _ (w4 hk x.Expr)).mono λb hb=>hb.trans ?_) λh1=>.sel (λh4=>(fin false true _ _ (w4 hk x.Expr)).mono λb hb=>hb.trans ?_) λh4=>.sel (λh5=>(fin true true _ _ (by rw [hp]; exact .pure sr)).mono λb hb=>hb.trans ?_) λh5=>.sel (λh6=>(fin false false _ _ (by rw [hp]; exact .pure sr)).mono λb hb=>hb.trans ?_) λh6=>.sel (λh7=>(fin false false _ _ (w4 hk x.Expr)).mono λb hb=>hb.trans ?_) λh7=>.pure ⟨λh=>(by cases h),λhh=>?_⟩
  rotate_right
  ·simp only [beq_eq_false_iff_ne,ne_eq] at h1 h4 h5 h6 h7
   rcases hh.2.2 with h | h | h | h | h <;> (have:=h.1; omega)
  all_goals
   unfold mS
   simp only [beq_iff_eq] at *
   simp [*]
theorem uP:∀ {n k:Nat} {l:List ae},n+2<=k->(∀ x∈l,SOk n x)->cts l<=2000000->Tot (bW k l) λr=>r=(cts l:Int)
 | n,0,_,h,_,_=>by omega
 | n,k+1,l,hk,hl,hc=>by
  show Tot (ca k (bW k) l) _
  unfold ca
  have hlen:=lw l
  refine .bind (P:=λr=>r=(cts l:Int)) (.iter (λs=>0<=s.2/\s.2<=(l.length:Int)/\s.1=(cts (l.take s.2.toNat):Int)) (λs=>((l.length:Int)-s.2).toNat) ⟨by simp,by simp,by simp [cts]⟩ λs hs=>?_) λr hr=>.pure hr
  obtain ⟨c,i⟩:=s
  obtain ⟨g0,g1,g2⟩:=hs
  simp only at g0 g1 g2
  unfold gf
  refine .sel (λhlt=>?_) λhge=>.inr (show c=_ from ?_)
  ·simp only [decide_eq_true_eq] at hlt
   refine .bind (.nth g0 hlt) λx ⟨hx,hxm⟩=>.bind (.nth g0 hlt) λx' ⟨hx',_⟩=>?_
   obtain rfl:x=x':=o9 (hx.symm.trans hx')
   have h1:=nJ l i.toNat x hx
   have h2:=jl l (i.toNat+1)
   have h3:=oV x
   have hb:=(hl x hxm).body
   have sub:∀ bl,(∀ y∈bl,SOk (n-1) y)->(n=0->bl=[])->cts bl<=2000000->Tot (bW k bl) λr=>r=(cts bl:Int):=λbl hbl hn hcb=>by
    cases n with
    | zero=>rw [hn rfl,wt (by omega)]; exact .pure rfl
    | succ n=>exact uP (by omega) hbl hcb
   refine .bind (sub x.Body hb.1 (λh=>(hb.2.2 h).1) (by omega)) λy hy=>.bind (sub x.Else hb.2.1 (λh=>(hb.2.2 h).2) (by omega)) λz hz=>.inl ?_
   subst hy hz
   rw [a8 (i:=c+1) (by omega) (by omega),a8 (i:=c+1+_) (by omega) (by omega),a8 (by omega) (by omega),au g0 (by omega)]
   refine ⟨⟨by simp only; omega,by simp only; omega,?_⟩,by simp only; omega⟩
   simp only
   rw [show (i+1).toNat=i.toNat+1 by omega,h1,h3,g2]; omega
  ·simp only [decide_eq_false_iff_not] at hge
   rw [g2,List.take_of_length_le (by omega)]
theorem pc:∀ (n k:Nat) {l:List ae},2*n+9<=k->n<=3->cts l<=2000000->Tot (br k l n) λb=>b=true↔∀ x∈l,SR 3 n x
 | n,0,_,hk,_,_=>by omega
 | n,1,_,hk,_,_=>by omega
 | n,k+2,l,hk,hn,hc=>by
  have hlen:=lw l
  show Tot (cY (k+1) (br (k+1)) (m8 (k+1)) l n) _
  unfold cY
  refine .bind (P:=λz:Bool⊕Unit=>match z with | .inl b=>b=false/\¬ ∀ x∈l,SR 3 n x | .inr _=>∀ x∈l,SR 3 n x) (.iter (λi:Int=>0<=i/\i<=l.length/\∀ (j:Nat) x,(j:Int)<i->l[j]?=some x->SR 3 n x) (λi=>(l.length-i).toNat) ⟨by omega,by omega,λj x hj=>by omega⟩ λi ⟨g0,g1,g2⟩=>?_) λz hz=>.both (λb e=>by subst e; refine .pure ⟨λh=>?_,λh=>absurd h hz.2⟩; rw [hz.1] at h; cases h) λu e=>by subst e; exact .pure ⟨λ_=>hz,λ_=>rfl⟩
  unfold iB
  refine .sel (λh=>?_) λh=>.inr λx hx=>?_
  rotate_left
  ·simp only [decide_eq_false_iff_not] at h
   obtain ⟨j,hj,e⟩:=List.mem_iff_getElem.1 hx
   exact g2 j x (by omega) (by rw [List.getElem?_eq_getElem hj,e])
  simp only [decide_eq_true_eq] at h
  refine .bind (.nth g0 h) λx ⟨hx,hm⟩=>?_
  rw [ae.eta']
  have hcx:=uK hm
  have hce:=oV x
  refine .bind (P:=λb=>b=true↔SR 3 n x) ?_ λb hb=>.sel (λhf=>.inr ⟨rfl,λhh=>by rw [hb.2 (hh x hm)] at hf; cases hf⟩) λhf=>.inl ?_
  ·show Tot (gW k (br k) (m8 k) x n) _
   unfold gW
   simp only [ae.eta',Expr.eta',wP,wQ]
   refine .sel (λh2=>?_) λh2=>?_
   ·have hkd:x.Kind≠2/\x.Kind≠3:=by simpa using h2
    rw [SR.iff_simp hkd]
    exact .bind (xW (by omega) x hkd) λb hb=>.pure hb
   ·have hkd:x.Kind=2\/x.Kind=3:=by
     simp at h2
     by_cases e:x.Kind=2
     ·exact .inl e
     ·exact .inr (h2 e)
    have hns:¬ mS 3 x:=λh=>by have:=h.kind; omega
    refine .sel (λh3=>.pure ⟨λh=>(by cases h),λhh=>?_⟩) λh3=>?_
    ·cases n with
     | zero=>exact absurd hh hns
     | succ n =>
      have hH:=(hh.resolve_left hns).1
      simp at h3
      rcases h3 with h3 | h3
      ·omega
      ·rcases hH.1 with h | h
       ·omega
       ·have h4:=h3.2
        rw [h.2] at h4
        simp at h4
    ·simp only [Bool.or_eq_false_iff,decide_eq_false_iff_not] at h3
     cases n with
     | zero=>exact absurd (show ((0:Nat):Int)<1 by omega) h3.1
     | succ n =>
      have hEl:x.Kind=2\/(x.Kind=3/\x.Else=[]):=by
       rcases hkd with h | h
       ·exact .inl h
       ·right
        refine ⟨h,?_⟩
        have:=h3.2
        simp [h] at this
        exact this
      rw [a8 (by omega) (by omega),show ((n+1:Nat):Int)-1=(n:Int) by omega]
      have hsr:SR 3 (n+1) x↔(x.Var=0/\x.Box=0/\EOk 5 x.Expr)/\(∀ y∈x.Body,SR 3 n y)/\∀ y∈x.Else,SR 3 n y:=⟨λh=>by
       obtain ⟨h1,h2,h3⟩:=h.resolve_left hns
       exact ⟨h1.2,h2,h3⟩,λ⟨h1,h2,h3⟩=>.inr ⟨⟨hEl,h1⟩,h2,h3⟩⟩
      rw [hsr]
      obtain ⟨e,he,hE⟩:=w4 (k:=k) (by omega) x.Expr
      obtain ⟨e1,he1,hE1⟩:=pc n k (l:=x.Body) (by omega) (by omega) (by omega)
      obtain ⟨e2,he2,hE2⟩:=pc n k (l:=x.Else) (by omega) (by omega) (by omega)
      rw [he,he1,he2,<-hE,<-hE1,<-hE2]
      have hv:x.Var=0↔(x.Var==0)=true:=by simp
      have hb:x.Box=0↔(x.Box==0)=true:=by simp
      rw [hv,hb]
      rw [if_neg (by decide),if_neg (by decide)]
      generalize (x.Var==0)=a
      generalize (x.Box==0)=b
      cases a <;> cases b <;> cases e <;> cases e1 <;> cases e2 <;> exact ⟨_,rfl,by simp⟩
  ·rw [au g0 (by omega)]
   refine ⟨⟨by omega,by omega,λj y hj hy=>?_⟩,by omega⟩
   by_cases e:(j:Int)<i
   ·exact g2 j y e hy
   ·obtain rfl:j=i.toNat:=by omega
    obtain rfl:=o9 (hx.symm.trans hy)
    exact hb.1 (by simpa using hf)
theorem qE {R:Int} (hR:R<=3):∀ (n k:Nat) {l:List ae},n+2<=k->cts l<=2000000->(∀ x∈l,SR 3 n x)->Tot (dX k l R) λb=>b=true↔∀ x∈l,SR R n x
 | n,0,_,hk,_,_=>by omega
 | n,k+1,l,hk,hc,hl=>by
  have hlen:=lw l
  show Tot (dF k (dX k) l R) _
  unfold dF
  refine .bind (P:=λz:Bool⊕Unit=>match z with | .inl b=>b=false/\¬ ∀ x∈l,SR R n x | .inr _=>∀ x∈l,SR R n x) (.iter (λi:Int=>0<=i/\i<=l.length/\∀ (j:Nat) x,(j:Int)<i->l[j]?=some x->SR R n x) (λi=>(l.length-i).toNat) ⟨by omega,by omega,λj x hj=>by omega⟩ λi ⟨g0,g1,g2⟩=>?_) λz hz=>.both (λb e=>by subst e; refine .pure ⟨λh=>?_,λh=>absurd h hz.2⟩; rw [hz.1] at h; cases h) λu e=>by subst e; exact .pure ⟨λ_=>hz,λ_=>rfl⟩
  unfold lZ
  refine .sel (λh=>?_) λh=>.inr λx hx=>?_
  rotate_left
  ·simp only [decide_eq_false_iff_not] at h
   obtain ⟨j,hj,e⟩:=List.mem_iff_getElem.1 hx
   exact g2 j x (by omega) (by rw [List.getElem?_eq_getElem hj,e])
  simp only [decide_eq_true_eq] at h
  refine .bind (.nth g0 h) λx ⟨hx,hm⟩=>?_
  have hS:=hl x hm
  have hcx:=uK hm
  have hce:=oV x
  have step:SR R n x->∀ (j:Nat) y,(j:Int)<i+1->l[j]?=some y->SR R n y:=λhS j y hj hy=>by
   by_cases e:(j:Int)<i
   ·exact g2 j y e hy
   ·obtain rfl:j=i.toNat:=by omega
    obtain rfl:=o9 (hx.symm.trans hy)
    exact hS
  refine .sel (λh1=>.inr ⟨rfl,λhh=>?_⟩) λh1=>?_
  ·have hx2:=hh x hm
   simp only [Bool.and_eq_true,Bool.or_eq_true,beq_iff_eq,decide_eq_true_eq] at h1
   rcases hx2.head with h | h
   ·rcases h.2.2 with h | h | h | h | h <;> (have h3:=h.1; first | omega | (have:=h.2.2.1.2; omega))
   ·have:=h.1; omega
  ·rcases hS.head with hsim | hhd
   ·have hR2:mS R x:=by
     refine ⟨hsim.1,hsim.2.1,?_⟩
     have hbx:x.Kind=4\/x.Kind=5->x.Box<R:=λhk=>by
      refine Classical.byContradiction λhge=>?_
      have:(((x.Kind==4)||(x.Kind==5))&&(decide (x.Box>=R)))=true:=by
       simp only [Bool.and_eq_true,Bool.or_eq_true,beq_iff_eq,decide_eq_true_eq]
       exact ⟨hk,by omega⟩
      rw [this] at h1
      cases h1
     rcases hsim.2.2 with h | h | h | h | h
     ·exact .inl h
     ·exact .inr (.inl ⟨h.1,h.2.1,⟨h.2.2.1.1,hbx (.inl h.1)⟩,h.2.2.2⟩)
     ·exact .inr (.inr (.inl ⟨h.1,h.2.1,⟨h.2.2.1.1,hbx (.inr h.1)⟩,h.2.2.2⟩))
     ·exact .inr (.inr (.inr (.inl h)))
     ·exact .inr (.inr (.inr (.inr h)))
    have hnil:dX k [] R=some true:=by
     obtain ⟨k,rfl⟩:∃ j,k=j+1:=⟨k-1,by omega⟩
     show dF k (dX k) [] R=_
     unfold dF
     rw [bn]
     rfl
    rw [hsim.1,hsim.2.1,hnil]
    refine .inl ⟨⟨by rw [au g0 (by omega)]; omega,by rw [au g0 (by omega)]; omega,by rw [au g0 (by omega)]; exact step ((SR.iff_simp hsim.kind).2 hR2)⟩,by rw [au g0 (by omega)]; omega⟩
   ·have hns:∀ R,¬ mS R x:=λR h=>by have:=h.kind; have:=hhd.1; omega
    cases n with
    | zero=>exact absurd hS (hns 3)
    | succ n =>
     obtain ⟨_,hB,hE⟩:=hS.resolve_left (hns 3)
     obtain ⟨b1,e1,hb1⟩:=qE hR n k (l:=x.Body) (by omega) (by omega) hB
     obtain ⟨b2,e2,hb2⟩:=qE hR n k (l:=x.Else) (by omega) (by omega) hE
     rw [e1,e2]
     simp only [ob9]
     refine .bind (P:=λz=>z=false↔((∀ y∈x.Body,SR R n y)/\∀ y∈x.Else,SR R n y)) (.of (r:=!b1||!b2) (by cases b1 <;> cases b2 <;> rfl) (by rw [<-hb1,<-hb2]; cases b1 <;> cases b2 <;> simp)) λz hz=>.sel (λhf=>.inr ⟨rfl,λhh=>?_⟩) λhf=>.inl ?_
     ·have:=(hh x hm).resolve_left (hns R)
      rw [hz.2 this.2] at hf
      cases hf
     ·rw [au g0 (by omega)]
      exact ⟨⟨by omega,by omega,step (.inr ⟨hhd,hz.1 hf⟩)⟩,by omega⟩
def VL (R:Int) (l:List ae):Prop:=(∀ x∈l,SR R 3 x)/\cts l<=16
theorem yJ {k:Nat} (hk:11<=k) {l:List ae} (hc:cts l<=2000000) (R:Int):Tot (ic k l R) λb=>b=true↔VL R l:=by
 unfold ic
 exact .bind (qD 3 k (l:=l) (dp:=0) (c:=0) (by omega) (by omega) (by omega) (by omega) (by omega) hc) λz hz=>.pure ⟨λh=>by have:=hz.1.1 h; exact ⟨this.1,by omega⟩,λh=>hz.1.2 ⟨h.1,by have:=h.2; omega⟩⟩
theorem uQ {k:Nat} (hk:20<=k) {l:List ae} (hc:cts l<=2000000):Tot (cd k l) λb=>b=true↔VL 3 l:=by
 unfold cd
 have h1:=pc 3 k (l:=l) (by omega) (by omega) hc
 rw [show ((3:Nat):Int)=3 from rfl] at h1
 refine .bind h1 λb hb=>.bind (P:=λb=>b=true↔VL 3 l) (.sel (λh=>?_) λh=>.pure ⟨λh=>(by cases h),λhh=>by rw [hb.2 hh.1] at h; cases h⟩) λz hz=>.pure hz
 exact .bind (uP (n:=3) (by omega) (λx hx=>((hb.1 h) x hx).ok (by omega)) hc) λr hr=>.pure (by
  subst hr
  simp only [decide_eq_true_eq]
  exact ⟨λh'=>⟨hb.1 h,by omega⟩,λh'=>by have:=h'.2; omega⟩)
theorem yK {k:Nat} (hk:20<=k) {l:List ae} (hc:cts l<=2000000) {R:Int} (hR:R<=3):Tot ((cd k l).bind λy6=>(sel (!y6) (some true) ((dX k l R).bind λb_2=>some (!b_2)))) λb=>b=false↔VL R l:=by
 refine .bind (uQ hk hc) λb hb=>.sel (λh=>.pure ⟨λh=>(by cases h),λhh=>?_⟩) λh=>?_
 ·rw [hb.2 ⟨λx hx=>(hh.1 x hx).up hR,hh.2⟩] at h
  cases h
 ·have h3:=hb.1 (by simpa using h)
  exact .bind (qE hR 3 k (by omega) hc h3.1) λz hz=>.pure ⟨λh=>⟨hz.1 (by simpa using h),h3.2⟩,λh=>by rw [hz.2 h.1]; rfl⟩
def VP (p:aJ):Prop:=((∀ r∈p.Rooms,1<=r/\r<=4)/\p.Rooms.length<=3)/\(1<=p.Tasks.length/\p.Tasks.length<=3)/\∀ l∈p.Tasks,VL p.Rooms.length l
theorem rh {α:Type} {f:Int->Option (Int⊕(Bool⊕Unit))} {l:List α} (P:α->Prop) (hl:l.length<=4611686018427387904)
  (h:∀ (i:Int) (x:α),0<=i->i<l.length->l[i.toNat]?=some x->x∈l->Tot (f i) λz=>(P x/\z=.inl (w64 (i+1)))\/(¬ P x/\z=.inr (.inl false)))
  (he:∀ i:Int,i=l.length->f i=some (.inr (.inr ()))):Tot (aB f 0) λz=>(z=.inr ()/\∀ x∈l,P x)\/(z=.inl false/\¬ ∀ x∈l,P x):=by
 refine .iter (λi:Int=>0<=i/\i<=l.length/\∀ (j:Nat) x,(j:Int)<i->l[j]?=some x->P x) (λi=>(l.length-i).toNat) ⟨by omega,by omega,λj x hj=>by omega⟩ λi ⟨g0,g1,g2⟩=>?_
 by_cases hlt:i<l.length
 ·obtain ⟨x,hx⟩:∃ x,l[i.toNat]?=some x:=⟨_,List.getElem?_eq_getElem (by omega)⟩
  refine (h i x g0 hlt hx (List.mem_of_getElem? hx)).mono λz hz=>?_
  rcases hz with ⟨hp,rfl⟩ | ⟨hp,rfl⟩
  ·rw [au g0 (by omega)]
   refine ⟨⟨by omega,by omega,λj y hj hy=>?_⟩,by omega⟩
   by_cases e:(j:Int)<i
   ·exact g2 j y e hy
   ·obtain rfl:j=i.toNat:=by omega
    obtain rfl:=o9 (hx.symm.trans hy)
    exact hp
  ·exact .inr ⟨rfl,λhh=>hp (hh x (List.mem_of_getElem? hx))⟩
 ·rw [he i (by omega)]
  refine .pure (.inl ⟨rfl,λx hx=>?_⟩)
  obtain ⟨j,hj,e⟩:=List.mem_iff_getElem.1 hx
  exact g2 j x (by omega) (by rw [List.getElem?_eq_getElem hj,e])
theorem uc {Q:Prop} {z:Bool⊕Unit} {c:Bool} (hz:(z=.inr ()/\Q)\/(z=.inl false/\¬ Q)):Tot (ia z (λo3=>some o3) (λ_=>some c)) λb=>b=true↔(Q/\c=true):=by
 rcases hz with ⟨rfl,h⟩ | ⟨rfl,h⟩
 ·exact .pure ⟨λhc=>⟨h,hc⟩,λhc=>hc.2⟩
 ·exact .pure ⟨λh=>(by cases h),λhc=>absurd hc.1 h⟩
theorem yL {l:List Int} (hl:l.length<=4611686018427387904):Tot (ie l) λb=>b=true↔((∀ r∈l,1<=r/\r<=4)/\l.length<=3):=by
 unfold ie
 refine .bind (rh (l:=l) (λr=>1<=r/\r<=4) hl (λi x h0 h1 hx hm=>?_) λi e=>?_) λz hz=>(uc hz).mono λb hb=>hb.trans ?_
 ·unfold gV
  refine .st (by simpa using h1) ?_
  rw [show nth l i=some x by unfold nth; rw [if_neg (by omega)]; exact hx,ob9]
  refine .sel (λh=>.pure (.inr ⟨λhh=>?_,rfl⟩)) λh=>.pure (.inl ⟨?_,rfl⟩)
  ·simp at h; omega
  ·simp at h; omega
 ·unfold gV; rw [bE (by simp [e])]
 ·rw [decide_eq_true_eq]
  exact and_congr_right λ_=>⟨λh=>by omega,λh=>by omega⟩
theorem yM {l:List Int} (hl:l.length<=4611686018427387904):Tot (j5 l) λb=>b=true↔((∀ r∈l,1<=r/\r<=4)/\l.length<=3):=by
 unfold j5
 refine .bind (rh (l:=l) (λr=>1<=r/\r<=4) hl (λi x h0 h1 hx hm=>?_) λi e=>?_) λz hz=>(uc hz).mono λb hb=>hb.trans ?_
 ·unfold jx
  refine .st (by simpa using h1) ?_
  rw [show nth l i=some x by unfold nth; rw [if_neg (by omega)]; exact hx,ob9,oS,ob9]
  refine .sel (λh=>.pure (.inr ⟨λhh=>?_,rfl⟩)) λh=>.pure (.inl ⟨?_,rfl⟩)
  ·simp at h; omega
  ·simp at h; omega
 ·unfold jx; rw [bE (by simp [e])]
 ·rw [decide_eq_true_eq]
  exact and_congr_right λ_=>⟨λh=>by omega,λh=>by omega⟩
theorem Ae {k:Nat} (hk:20<=k) {p:aJ} (hr:p.Rooms.length<=2000000) (ht:∀ l∈p.Tasks,cts l<=2000000) (hn:p.Tasks.length<=2000000):Tot (fk k p) λb=>b=true↔VP p:=by
 unfold fk
 refine .bind (yL (by omega)) λb hb=>.sel (λh=>.pure ⟨λh=>(by cases h),λhh=>?_⟩) λh=>?_
 ·have:=hb.2 hh.1
  have h2:=hh.2.1
  rw [this] at h
  simp at h
  omega
 ·simp only [Bool.or_eq_false_iff,Bool.not_eq_false',decide_eq_false_iff_not] at h
  have hb':=hb.1 h.1.1
  refine .bind (rh (l:=p.Tasks) (λl=>VL p.Rooms.length l) (by omega) (λi x h0 h1 hx hm=>?_) λi e=>?_) λz hz=>(uc hz).mono λb hb=>hb.trans ?_
  ·unfold fj
   refine .st (by simpa using h1) ?_
   rw [show nth p.Tasks i=some x by unfold nth; rw [if_neg (by omega)]; exact hx,ob9]
   refine .bind (yJ (by omega) (ht x hm) _) λv hv=>.sel (λh=>.pure (.inr ⟨λhh=>?_,rfl⟩)) λh=>.pure (.inl ⟨hv.1 (by simpa using h),rfl⟩)
   rw [hv.2 hh] at h
   cases h
  ·unfold fj; rw [bE (by simp [e])]
  ·unfold VP
   exact ⟨λhh=>⟨hb',by omega,hh.1⟩,λhh=>⟨hh.2.2,rfl⟩⟩
theorem Af {k:Nat} (hk:20<=k) {p:aJ} (hr:p.Rooms.length<=2000000) (ht:∀ l∈p.Tasks,cts l<=2000000) (hn:p.Tasks.length<=2000000):Tot (fw k p) λb=>b=true↔VP p:=by
 unfold fw
 refine .bind (yM (by omega)) λb hb=>.bind (P:=λz=>z=false↔(b=true/\1<=p.Tasks.length/\p.Tasks.length<=3)) (.sel (λh=>.pure ?_) λh=>?_) λz hz=>.sel (λh=>.pure ⟨λh=>(by cases h),λhh=>?_⟩) λh=>?_
 ·have:b=false:=by simpa using h
  simp [this]
 ·have:b=true:=by simpa using h
  rw [oS,ob9]
  refine .pure ?_
  simp [this]
  omega
 ·rw [hz.2 ⟨hb.2 hh.1,hh.2.1⟩] at h
  cases h
 ·have hz':=hz.1 h
  have hb':=hb.1 hz'.1
  refine .bind (rh (l:=p.Tasks) (λl=>VL p.Rooms.length l) (by omega) (λi x h0 h1 hx hm=>?_) λi e=>?_) λz hz=>(uc hz).mono λb hb=>hb.trans ?_
  ·unfold fv
   refine .st (by simpa using h1) ?_
   have e1:nth p.Tasks i=some x:=by unfold nth; rw [if_neg (by omega)]; exact hx
   obtain ⟨v,ev,hv⟩:=yK hk (ht x hm) (R:=(p.Rooms.length:Int)) (by omega)
   obtain ⟨y,ey,_⟩:=uQ hk (ht x hm)
   rw [ey,ob9] at ev
   rw [e1,ob9,ey,ob9,ob9,ev,ob9]
   refine .sel (λh=>.pure (.inr ⟨λhh=>?_,rfl⟩)) λh=>.pure (.inl ⟨hv.1 h,rfl⟩)
   rw [hv.2 hh] at h
   cases h
  ·unfold fv; rw [bE (by simp [e])]
  ·unfold VP
   exact ⟨λhh=>⟨hb',hz'.2,hh.1⟩,λhh=>⟨hh.2.2,rfl⟩⟩
end
noncomputable section
def cE:Nat->Expr->Int->List ab
 | 0,_,_=>[]
 | d+1,e,at_=>if e.Op=0 then [⟨1,at_,0,0,e.N⟩] else if e.Op=13 then [⟨2,at_,e.N,0,0⟩] else match e.Args with
  | [a,b]=>cE d a at_++cE d b (at_+1)++[⟨3,at_,at_,at_+1,e.Op⟩]
  | _=>[]
def dT (f:ae->Int->List ab):List ae->Int->List ab
 | [],_=>[]
 | x::l,b=>f x b++dT f l (b+(f x b).length)
def xX (x:ae):List ab:=if x.Kind=1 then cE 5 x.Expr 4++[⟨2,x.Var,4,0,0⟩] else if x.Kind=4 then cE 5 x.Expr 4++[⟨6,0,4,0,x.Box⟩] else if x.Kind=7 then cE 5 x.Expr 4++[⟨9,0,4,0,0⟩] else if x.Kind=5 then [⟨7,x.Var,0,0,x.Box⟩] else [⟨8,0,0,0,0⟩]
def cS:Nat->ae->Int->List ab
 | 0,x,_=>xX x
 | n+1,x,b =>
  if x.Kind=2 then (if x.Else.length=0 then
    cE 5 x.Expr 4++[⟨5,0,4,0,b+(cE 5 x.Expr 4).length+1+(dT (cS n) x.Body (b+(cE 5 x.Expr 4).length+1)).length⟩]++dT (cS n) x.Body (b+(cE 5 x.Expr 4).length+1)
   else
    cE 5 x.Expr 4++[⟨5,0,4,0,b+(cE 5 x.Expr 4).length+1+(dT (cS n) x.Body (b+(cE 5 x.Expr 4).length+1)).length+1⟩]++dT (cS n) x.Body (b+(cE 5 x.Expr 4).length+1)++[⟨4,0,0,0,b+(cE 5 x.Expr 4).length+1+(dT (cS n) x.Body (b+(cE 5 x.Expr 4).length+1)).length+1+(dT (cS n) x.Else (b+(cE 5 x.Expr 4).length+1+(dT (cS n) x.Body (b+(cE 5 x.Expr 4).length+1)).length+1)).length⟩]++dT (cS n) x.Else (b+(cE 5 x.Expr 4).length+1+(dT (cS n) x.Body (b+(cE 5 x.Expr 4).length+1)).length+1))
  else if x.Kind=3 then
   cE 5 x.Expr 4++[⟨5,0,4,0,b+(cE 5 x.Expr 4).length+1+(dT (cS n) x.Body (b+(cE 5 x.Expr 4).length+1)).length+1⟩]++dT (cS n) x.Body (b+(cE 5 x.Expr 4).length+1)++[⟨4,0,0,0,b⟩]
  else xX x
theorem uR {f:ae->Int->List ab}:∀ (l:List ae) (x:ae) (b:Int),dT f (l++[x]) b=dT f l b++f x (b+(dT f l b).length)
 | [],x,b=>by simp [dT]
 | y::l,x,b=>by
  simp only [List.cons_append,dT,uR l x,List.append_assoc,List.length_append]
  congr 3
  omega
theorem qF:∀ {d:Nat} {e:Expr} {at_:Int},EOk d e->(cE d e at_).length+1<=2^d/\1<=(cE d e at_).length
 | 0,_,_,h=>h.elim
 | d+1,e,at_,h=>by
  have hp:2<=2^(d+1):=by rw [Nat.pow_succ]; have:=Nat.two_pow_pos d; omega
  unfold cE
  rcases h with ⟨h1,h2,h3,h4⟩ | ⟨h1,h2,h3,h4⟩ | ⟨h1,h2,a,b,h3,h4,h5⟩
  ·rw [if_pos h1]; simp; omega
  ·rw [if_neg (by omega),if_pos h1]; simp; omega
  ·rw [if_neg (by omega),if_neg (by omega),h3]
   have i1:=qF (at_:=at_) h4
   have i2:=qF (at_:=at_+1) h5
   simp only [List.length_append,List.length_singleton,Nat.pow_succ]
   omega
theorem cE5 {e:Expr} (h:EOk 5 e):(cE 5 e 4).length<=31/\1<=(cE 5 e 4).length:=by
 have:=qF (at_:=4) h
 omega
theorem nQ:∀ {d k:Nat} {e:Expr} {at_:Int},EOk d e->0<=at_->at_+d<=12->d<=k->ce k e at_=some (cE d e at_)
 | 0,_,_,_,h,_,_,_=>h.elim
 | d+1,0,_,_,_,_,_,h=>by omega
 | d+1,k+1,e,at_,h,h0,h12,hk=>by
  show eI k (ce k) e at_=_
  unfold eI cE
  rcases h with ⟨h1,h2,h3,h4⟩ | ⟨h1,h2,h3,h4⟩ | ⟨h1,h2,a,b,h3,h4,h5⟩
  ·rw [if_pos h1,ga (by simpa using h1)]
  ·rw [if_neg (by omega),if_pos h1,bE (by simp [h1]),ga (by simpa using h1)]
  ·rw [if_neg (by omega),if_neg (by omega),bE (by simp; omega),bE (by simp; omega)]
   have hd:1<=d:=by cases d with
    | zero=>exact h4.elim
    | succ d=>omega
   have h256:2^d<=4096:=Nat.le_trans (Nat.pow_le_pow_right (by omega) (show d<=12 by omega)) (by decide)
   have i1:=qF (at_:=at_) h4
   have i2:=qF (at_:=at_+1) h5
   have e1:nth e.Args 0=some a:=by rw [h3]; rfl
   have e2:nth e.Args 1=some b:=by rw [h3]; rfl
   rw [e1,e2,h3]
   simp only [ob9,Expr.eta']
   rw [a8 (by omega) (by omega),nQ h4 h0 (by omega) (by omega),nQ (k:=k) h5 (show 0<=at_+1 by omega) (by omega) (by omega)]
   simp only [ob9]
   refine Tot.eq (.bind (.app (by omega)) λr hr=>.bind (.app (by subst hr; simp; omega)) λr2 hr2=>.pure ?_)
   rw [hr2,hr]
theorem uS:∀ {d k:Nat} {e:Expr} {at_:Int} {out:List ab},EOk d e->0<=at_->at_+d<=12->d<=k->out.length+2^d<=1000000->d7 k e at_ out=some (out++cE d e at_)
 | 0,_,_,_,_,h,_,_,_,_=>h.elim
 | d+1,0,_,_,_,_,_,_,h,_=>by omega
 | d+1,k+1,e,at_,out,h,h0,h12,hk,hl=>by
  have hp:2<=2^(d+1):=by rw [Nat.pow_succ]; have:=Nat.two_pow_pos d; omega
  show eF k (d7 k) e at_ out=_
  unfold eF cE
  rcases h with ⟨h1,h2,h3,h4⟩ | ⟨h1,h2,h3,h4⟩ | ⟨h1,h2,a,b,h3,h4,h5⟩
  ·rw [if_pos h1,ga (by simpa using h1)]
   exact Tot.eq (.bind (.app (by simp; omega)) λr hr=>.pure hr)
  ·rw [if_neg (by omega),if_pos h1,bE (by simp [h1]),ga (by simpa using h1)]
   exact Tot.eq (.bind (.app (by simp; omega)) λr hr=>.pure hr)
  ·rw [if_neg (by omega),if_neg (by omega),bE (by simp; omega),bE (by simp; omega)]
   have hd:1<=d:=by cases d with
    | zero=>exact h4.elim
    | succ d=>omega
   have hps:2^(d+1)=2^d*2:=Nat.pow_succ ..
   have i1:=qF (at_:=at_) h4
   have i2:=qF (at_:=at_+1) h5
   have e1:nth e.Args 0=some a:=by rw [h3]; rfl
   have e2:nth e.Args 1=some b:=by rw [h3]; rfl
   rw [e1,e2,h3]
   simp only [ob9,Expr.eta']
   rw [a8 (by omega) (by omega),uS h4 h0 (by omega) (by omega) (by omega)]
   simp only [ob9]
   rw [uS (k:=k) h5 (show 0<=at_+1 by omega) (by omega) (by omega) (by simp; omega)]
   simp only [ob9]
   refine Tot.eq (.bind (.app (by simp; omega)) λr hr=>.pure ?_)
   rw [hr]
   simp
theorem uT:EOk 5 ⟨0,0,[]⟩:=.inl ⟨rfl,Int.le_refl _,by decide,rfl⟩
theorem SOk.expr {n:Nat} {x:ae} (hx:SOk n x):EOk 5 x.Expr:=by
 have hs:pM x->EOk 5 x.Expr:=λh=>by
  rcases h.2.2 with h | h | h | h | h
  ·exact h.2.2.2
  ·exact h.2.2.2
  ·rw [h.2.2.2]; exact uT
  ·rw [h.2.2.2]; exact uT
  ·exact h.2.2.2
 cases n with
 | zero=>exact hs hx
 | succ n =>
  rcases hx with h | h
  ·exact hs h
  ·exact h.2.2.2.1
theorem xY {x:ae} (h:EOk 5 x.Expr):(xX x).length<=33:=by
 have:=cE5 h
 unfold xX
 split
 ·simp; omega
 ·split
  ·simp; omega
  ·split
   ·simp; omega
   ·split <;> simp
theorem jm {f:ae->Int->List ab}:∀ {l:List ae} {b:Int},(∀ x∈l,∀ b,(f x b).length<=33*ct x)->(dT f l b).length<=33*cts l
 | [],_,_=>by simp [dT]
 | x::l,b,h=>by
  have h1:=h x (by simp) b
  have h2:=jm (l:=l) (b:=b+(f x b).length) λy hy=>h y (by simp [hy])
  simp only [dT,cts,List.length_append]
  omega
theorem nd:∀ {n:Nat} {x:ae},SOk n x->∀ b,(cS n x b).length<=33*ct x
 | 0,x,h,b=>by
  have:=xY (SOk.expr (n:=0) h)
  have:=yA x
  unfold cS
  omega
 | n+1,x,h,b=>by
  have he:=cE5 (SOk.expr h)
  have h1:=xY (SOk.expr h)
  have h2:=oV x
  have hb:∀ b,(dT (cS n) x.Body b).length<=33*cts x.Body:=λb=>jm λy hy=>nd (h.body.1 y hy)
  have hl:∀ b,(dT (cS n) x.Else b).length<=33*cts x.Else:=λb=>jm λy hy=>nd (h.body.2.1 y hy)
  unfold cS
  have k1:=hb (b+(cE 5 x.Expr 4).length+1)
  split
  ·split
   ·simp; omega
   ·have k2:=hl (b+(cE 5 x.Expr 4).length+1+(dT (cS n) x.Body (b+(cE 5 x.Expr 4).length+1)).length+1)
    simp; omega
  ·split
   ·simp; omega
   ·omega
theorem xZ {n k:Nat} (ih:∀ {x:ae} {base:Int},SOk n x->0<=base->base+33*ct x<=100000->bO k x base=some (cS n x base)) {l:List ae} {base:Int} (hl:∀ x∈l,SOk n x) (h0:0<=base) (h1:base+33*cts l<=100000):bA (k+1) l base=some (dT (cS n) l base):=by
 refine Tot.eq ?_
 show Tot (eJ k (bA k) (bO k) (fK k) (co k) l base) _
 unfold eJ
 have hlen:=lw l
 refine .bind (P:=λz=>z=dT (cS n) l base) (.iter (λs=>0<=s.2/\s.2<=(l.length:Int)/\s.1=dT (cS n) (l.take s.2.toNat) base) (λs=>((l.length:Int)-s.2).toNat) ⟨by simp,by simp,by simp [dT]⟩ λs hs=>?_) λr hr=>.pure hr
 obtain ⟨out,i⟩:=s
 obtain ⟨g0,g1,g2⟩:=hs
 simp only at g0 g1 g2
 unfold kx
 refine .sel (λh=>?_) λh=>.inr (show out=_ from ?_)
 ·simp only [decide_eq_true_eq] at h
  refine .bind (.nth g0 h) λx ⟨hx,hm⟩=>?_
  have t1:=nJ l i.toNat x hx
  have t2:=jl l (i.toNat+1)
  have hol:out.length<=33*cts (l.take i.toNat):=by rw [g2]; exact jm λy hy=>nd (hl y (List.mem_of_mem_take hy))
  have hxl:=nd (hl x hm) (base+out.length)
  dsimp only
  rw [ae.eta',a8 (by omega) (by omega),ih (hl x hm) (by omega) (by omega),ob9]
  refine .bind (.app (by omega)) λr hr=>.inl ?_
  rw [au g0 (by omega)]
  refine ⟨⟨by simp only; omega,by simp only; omega,?_⟩,by simp only; omega⟩
  simp only
  rw [hr,show (i+1).toNat=i.toNat+1 by omega,List.take_add_one,hx]
  show _=dT (cS n) (l.take i.toNat++[x]) base
  rw [uR,<-g2]
 ·simp only [decide_eq_false_iff_not] at h
  rw [g2,List.take_of_length_le (by omega)]
theorem ya:∀ (n k:Nat) {x:ae} {base:Int},3*n+7<=k->SOk n x->0<=base->base+33*ct x<=100000->bO k x base=some (cS n x base)
 | n,0,_,_,hk,_,_,_=>by omega
 | n,k+1,x,base,hk,hx,h0,h1=>by
  have hee:=hx.expr
  have he:=cE5 hee
  have hce:=oV x
  refine Tot.eq ?_
  show Tot (cG k (bA k) (bO k) (fK k) (co k) x base) _
  have simp_case:(x.Kind≠2)->(x.Kind≠3)->Tot (cG k (bA k) (bO k) (fK k) (co k) x base) λz=>z=xX x:=λhk2 hk3=>by
   unfold cG xX
   simp only [ae.eta',Expr.eta']
   rw [nQ hee (by decide) (by decide) (by omega),ob9]
   have ap:∀ q:ab,Tot ((X.app 40 (cE 5 x.Expr 4) [q]).bind λr=>some r) (λz=>z=cE 5 x.Expr 4++[q]):=λq=>.bind (.app (by simp; omega)) λr hr=>.pure hr
   refine .sf (by simpa using hk2) (.sf (by simpa using hk3) (.sel (λh=>?_) λh1=>.sel (λh=>?_) λh4=>.sel (λh=>?_) λh7=>.sel (λh=>.pure ?_) λh5=>.pure ?_))
   ·rw [if_pos (by simpa using h)]; exact ap _
   ·rw [if_neg (by simpa using h1),if_pos (by simpa using h)]; exact ap _
   ·rw [if_neg (by simpa using h1),if_neg (by simpa using h4),if_pos (by simpa using h)]; exact ap _
   ·rw [if_neg (by simpa using h1),if_neg (by simpa using h4),if_neg (by simpa using h7),if_pos (by simpa using h)]
   ·rw [if_neg (by simpa using h1),if_neg (by simpa using h4),if_neg (by simpa using h7),if_neg (by simpa using h5)]
  cases n with
  | zero =>
   have hkd:=pM.kind hx
   exact simp_case hkd.1 hkd.2
  | succ n =>
   by_cases hkd:x.Kind≠2/\x.Kind≠3
   ·unfold cS
    rw [if_neg hkd.1,if_neg hkd.2]
    exact simp_case hkd.1 hkd.2
   ·have hns:¬ pM x:=λh=>hkd h.kind
    obtain ⟨hk23,_,_,_,hbd,hel⟩:=hx.resolve_left hns
    obtain ⟨k,rfl⟩:∃ j,k=j+2:=⟨k-2,by omega⟩
    have hL:∀ {l:List ae} {b:Int},(∀ y∈l,SOk n y)->0<=b->b+33*cts l<=100000->bA (k+1) l b=some (dT (cS n) l b):=λhl hb0 hb1=>xZ (λhx h0 h1=>ya n k (by omega) hx h0 h1) hl hb0 hb1
    have lb:∀ b,(dT (cS n) x.Body b).length<=33*cts x.Body:=λb=>jm λy hy=>nd (hbd y hy)
    have ll:∀ b,(dT (cS n) x.Else b).length<=33*cts x.Else:=λb=>jm λy hy=>nd (hel y hy)
    unfold cG cS
    simp only [ae.eta',Expr.eta']
    rw [nQ hee (by decide) (by decide) (by omega),ob9]
    have k1:=lb (base+(cE 5 x.Expr 4).length+1)
    by_cases h2:x.Kind=2
    ·rw [if_pos h2]
     refine .st (by simpa using h2) ?_
     show Tot ((gX (k+1) (bA (k+1)) (bO (k+1)) (fK (k+1)) (co (k+1)) x base).bind λy2=>some y2) _
     unfold gX
     simp only [Expr.eta']
     rw [nQ hee (by decide) (by decide) (by omega),ob9,a8 (i:=base+(cE 5 x.Expr 4).length) (by omega) (by omega),a8 (i:=base+(cE 5 x.Expr 4).length+1) (by omega) (by omega),hL hbd (by omega) (by omega),ob9,a8 (i:=base+(cE 5 x.Expr 4).length+1+_) (by omega) (by omega)]
     by_cases hnil:x.Else.length=0
     ·rw [if_pos hnil,ga (by simpa using hnil)]
      refine .bind (P:=λz=>z=_) (.bind (.app (by simp; omega)) λr hr=>.bind (.app (by subst hr; simp; omega)) λr2 hr2=>.pure (show r2=_ from ?_)) λz hz=>.pure hz
      rw [hr2,hr]
     ·rw [if_neg hnil,bE (by simpa using hnil),a8 (i:=base+(cE 5 x.Expr 4).length+1+_+1) (by omega) (by omega)]
      have k2:=ll (base+(cE 5 x.Expr 4).length+1+(dT (cS n) x.Body (base+(cE 5 x.Expr 4).length+1)).length+1)
      rw [hL hel (by omega) (by omega),ob9,a8 (i:=base+(cE 5 x.Expr 4).length+1+_+1+_) (by omega) (by omega)]
      refine .bind (.bind (.app (by simp; omega)) λr hr=>.bind (.app (by subst hr; simp; omega)) λr2 hr2=>.bind (.app (by subst hr hr2; simp; omega)) λr3 hr3=>.bind (.app (by subst hr hr2 hr3; simp; omega)) λr4 hr4=>.pure (show r4=_ from ?_)) λz hz=>.pure hz
      rw [hr4,hr3,hr2,hr]
    ·have h3:x.Kind=3:=by omega
     rw [if_neg h2,if_pos h3]
     refine .sf (by simpa using h2) (.st (by simpa using h3) ?_)
     show Tot ((dG (k+1) (bA (k+1)) (bO (k+1)) (fK (k+1)) (co (k+1)) x base).bind λy2=>some y2) _
     unfold dG
     simp only [Expr.eta']
     rw [nQ hee (by decide) (by decide) (by omega),ob9,a8 (i:=base+(cE 5 x.Expr 4).length) (by omega) (by omega),a8 (i:=base+(cE 5 x.Expr 4).length+1) (by omega) (by omega),hL hbd (by omega) (by omega),ob9,a8 (i:=base+(cE 5 x.Expr 4).length+1+_) (by omega) (by omega),a8 (i:=base+(cE 5 x.Expr 4).length+1+_+1) (by omega) (by omega)]
     refine .bind (.bind (.app (by simp; omega)) λr hr=>.bind (.app (by subst hr; simp; omega)) λr2 hr2=>.bind (.app (by subst hr hr2; simp; omega)) λr3 hr3=>.pure (show r3=_ from ?_)) λz hz=>.pure hz
     rw [hr3,hr2,hr]
theorem yb {n k:Nat} (ih:∀ {x:ae} {out:List ab},SOk n x->out.length+33*ct x<=100000->d8 k x out=some (out++cS n x out.length)) {l:List ae} {out:List ab} (hl:∀ x∈l,SOk n x) (h1:out.length+33*cts l<=100000):bS (k+1) l out=some (out++dT (cS n) l out.length):=by
 refine Tot.eq ?_
 show Tot (dI k (bS k) (d8 k) l out) _
 unfold dI
 have hlen:=lw l
 refine .bind (P:=λz=>z=out++dT (cS n) l out.length) (.iter (λs=>0<=s.2/\s.2<=(l.length:Int)/\s.1=out++dT (cS n) (l.take s.2.toNat) out.length) (λs=>((l.length:Int)-s.2).toNat) ⟨by simp,by simp,by simp [dT]⟩ λs hs=>?_) λr hr=>.pure hr
 obtain ⟨o,i⟩:=s
 obtain ⟨g0,g1,g2⟩:=hs
 simp only at g0 g1 g2
 unfold iO
 refine .sel (λh=>?_) λh=>.inr (show o=_ from ?_)
 ·simp only [decide_eq_true_eq] at h
  refine .bind (.nth g0 h) λx ⟨hx,hm⟩=>?_
  have t1:=nJ l i.toNat x hx
  have t2:=jl l (i.toNat+1)
  have hol:(dT (cS n) (l.take i.toNat) out.length).length<=33*cts (l.take i.toNat):=jm λy hy=>nd (hl y (List.mem_of_mem_take hy))
  have hol2:o.length=out.length+(dT (cS n) (l.take i.toNat) out.length).length:=by rw [g2]; simp
  dsimp only
  rw [ae.eta',ih (hl x hm) (by omega),ob9,au g0 (by omega)]
  refine .inl ⟨⟨by simp only; omega,by simp only; omega,?_⟩,by simp only; omega⟩
  simp only
  rw [show (i+1).toNat=i.toNat+1 by omega,List.take_add_one,hx]
  show _=out++dT (cS n) (l.take i.toNat++[x]) out.length
  rw [uR,<-List.append_assoc,<-g2,hol2]
  congr 2
 ·simp only [decide_eq_false_iff_not] at h
  rw [g2,List.take_of_length_le (by omega)]
theorem zx {A B:List ab} {q:ab} {o d a b n m:Int} (hq:q=⟨o,d,a,b,n⟩):nth (A++[q]++B) (A.length:Int)=some q/\X.upd (A++[q]++B) (A.length:Int) ⟨o,d,a,b,m⟩=some (A++[⟨o,d,a,b,m⟩]++B):=by
 constructor
 ·unfold nth
  rw [if_neg (by omega),Int.toNat_natCast,List.append_assoc,List.getElem?_append_right (Nat.le_refl _),Nat.sub_self]
  rfl
 ·unfold X.upd
  rw [if_pos (by simp; omega),Int.toNat_natCast,List.append_assoc,List.set_append_right _ _ (Nat.le_refl _),Nat.sub_self,List.append_assoc]
  rfl
theorem yc:∀ (n k:Nat) {x:ae} {out:List ab},3*n+7<=k->SOk n x->out.length+33*ct x<=100000->d8 k x out=some (out++cS n x out.length)
 | n,0,_,_,hk,_,_=>by omega
 | n,k+1,x,out,hk,hx,h1=>by
  have hee:=hx.expr
  have he:=cE5 hee
  have hce:=oV x
  refine Tot.eq ?_
  show Tot (cj k (bS k) (d8 k) x out) _
  have hx1:d7 k x.Expr 4 out=some (out++cE 5 x.Expr 4):=uS hee (by decide) (by decide) (by omega) (by have:(2:Nat)^5=32:=rfl; omega)
  have simp_case:pM x->Tot (cj k (bS k) (d8 k) x out) λz=>z=out++xX x:=λhs=>by
   unfold cj xX
   simp only [Expr.eta',hx1,ob9]
   have ap:∀ (o:List ab) (q:ab),o.length<=100000->Tot ((X.app 40 o [q]).bind λr=>some r) (λz=>z=o++[q]):=λo q ho=>.bind (.app (by simp; omega)) λr hr=>.pure hr
   rcases hs.2.2 with h | h | h | h | h
   ·simp only [h.1]
    refine (ap (out++cE 5 x.Expr 4) _ (by simp; omega)).mono λz hz=>?_
    rw [hz]; simp
   ·simp only [h.1]
    refine (ap (out++cE 5 x.Expr 4) _ (by simp; omega)).mono λz hz=>?_
    rw [hz]; simp
   ·simp only [h.1]
    exact ap out _ (by omega)
   ·simp only [h.1]
    exact ap out _ (by omega)
   ·simp only [h.1]
    refine (ap (out++cE 5 x.Expr 4) _ (by simp; omega)).mono λz hz=>?_
    rw [hz]; simp
  cases n with
  | zero=>exact simp_case hx
  | succ n =>
   by_cases hs:pM x
   ·have hkd:=hs.kind
    unfold cS
    rw [if_neg hkd.1,if_neg hkd.2]
    exact simp_case hs
   ·obtain ⟨hk23,_,_,_,hbd,hel⟩:=hx.resolve_left hs
    obtain ⟨k,rfl⟩:∃ j,k=j+1:=⟨k-1,by omega⟩
    have hL:∀ {l:List ae} {o:List ab},(∀ y∈l,SOk n y)->o.length+33*cts l<=100000->bS (k+1) l o=some (o++dT (cS n) l o.length):=λhl hb=>yb (λhx h=>yc n k (by omega) hx h) hl hb
    have lb:∀ b,(dT (cS n) x.Body b).length<=33*cts x.Body:=λb=>jm λy hy=>nd (hbd y hy)
    have ll:∀ b,(dT (cS n) x.Else b).length<=33*cts x.Else:=λb=>jm λy hy=>nd (hel y hy)
    unfold cj cS
    simp only [Expr.eta',hx1,ob9]
    have k1:=lb (out.length+(cE 5 x.Expr 4).length+1)
    rw [ga (b:=(x.Kind !=5)&&(x.Kind !=6)) (by rcases hk23 with h | h <;> simp [h]),ob9]
    refine .sf (by rcases hk23 with h | h <;> simp [h]) (.sf (by rcases hk23 with h | h <;> simp [h]) (.sf (by rcases hk23 with h | h <;> simp [h]) (.sf (by rcases hk23 with h | h <;> simp [h]) (.sf (by rcases hk23 with h | h <;> simp [h]) (.bind (.app (by simp; omega)) λr6 hr6=>?_)))))
    have hr6l:r6.length=out.length+(cE 5 x.Expr 4).length+1:=by rw [hr6]; simp; omega
    rw [hL hbd (by omega),ob9,hr6l]
    have hb0:((out.length+(cE 5 x.Expr 4).length+1:Nat):Int)=(out.length:Int)+(cE 5 x.Expr 4).length+1:=by omega
    rw [hb0]
    have k2:=ll ((out.length:Int)+(cE 5 x.Expr 4).length+1+(dT (cS n) x.Body ((out.length:Int)+(cE 5 x.Expr 4).length+1)).length+1)
    generalize hEL:dT (cS n) x.Else ((out.length:Int)+(cE 5 x.Expr 4).length+1+(dT (cS n) x.Body ((out.length:Int)+(cE 5 x.Expr 4).length+1)).length+1)=el at k2 ⊢
    generalize hB:dT (cS n) x.Body ((out.length:Int)+(cE 5 x.Expr 4).length+1)=bd at k1 hEL ⊢
    generalize hE:cE 5 x.Expr 4=e at he hr6 hr6l hEL ⊢
    subst hr6
    by_cases h3:x.Kind=3
    ·have hel0:x.Else=[]:=by
      rcases hk23 with h | h
      ·omega
      ·exact h.2
     rw [if_neg (by omega),if_pos h3,hel0]
     refine .bind (P:=λz=>z=(out++e)++[ab.mk 5 0 4 0 0]++(bd++[ab.mk 4 0 0 0 out.length])) (.st (by simpa using h3) (.bind (.app (by simp; omega)) λr hr=>.pure ?_)) λy4 h4=>?_
     ·rw [hr]; simp
     ·rw [bE (b:=decide ((([]:List ae).length:Int)>0)) (by simp),ob9]
      obtain ⟨p1,p2⟩:=zx (A:=out++e) (B:=bd++[ab.mk 4 0 0 0 out.length]) (q:=ab.mk 5 0 4 0 0) (m:=(y4.length:Int)) rfl
      rw [<-h4] at p1 p2
      rw [p1,ob9,p2,ob9,bE (by simp)]
      refine .pure ?_
      have hy4:(y4.length:Int)=(out.length:Int)+e.length+1+bd.length+1:=by rw [h4]; simp; omega
      rw [hy4]
      simp
    ·have h2:x.Kind=2:=by omega
     rw [if_pos h2]
     refine .bind (P:=λz=>z=(out++e)++[ab.mk 5 0 4 0 0]++bd) (.sf (by simpa using h3) (.pure rfl)) λy4 h4=>?_
     have hy4:y4.length=out.length+e.length+1+bd.length:=by rw [h4]; simp; omega
     by_cases hnil:x.Else.length=0
     ·rw [if_pos hnil,bE (b:=decide ((x.Else.length:Int)>0)) (by simp [hnil]),ob9]
      obtain ⟨p1,p2⟩:=zx (A:=out++e) (B:=bd) (q:=ab.mk 5 0 4 0 0) (m:=(y4.length:Int)) rfl
      rw [<-h4] at p1 p2
      rw [p1,ob9,p2,ob9,bE (by simp [hnil])]
      refine .pure ?_
      rw [show (y4.length:Int)=(out.length:Int)+e.length+1+bd.length by omega]
      simp
     ·rw [if_neg hnil,ga (b:=decide ((x.Else.length:Int)>0)) (by simp; omega)]
      refine .bind (P:=λz=>z=(out++e)++[ab.mk 5 0 4 0 0]++(bd++[ab.mk 4 0 0 0 0])) (.bind (.app (by simp; omega)) λr hr=>.pure ?_) λy5 h5=>?_
      ·rw [hr,h4]; simp
      ·have hy5:y5.length=out.length+e.length+1+bd.length+1:=by rw [h5]; simp; omega
       obtain ⟨p1,p2⟩:=zx (A:=out++e) (B:=bd++[ab.mk 4 0 0 0 0]) (q:=ab.mk 5 0 4 0 0) (m:=(y5.length:Int)) rfl
       rw [<-h5] at p1 p2
       rw [p1,ob9,p2,ob9,ga (by simp; omega)]
       have hr9:((out++e)++[ab.mk 5 0 4 0 y5.length]++(bd++[ab.mk 4 0 0 0 0])).length=out.length+e.length+1+bd.length+1:=by simp; omega
       rw [hL hel (by omega),ob9,hr9,show ((out.length+e.length+1+bd.length+1:Nat):Int)=(out.length:Int)+e.length+1+bd.length+1 by omega,hEL]
       have hsplit:(out++e)++[ab.mk 5 0 4 0 y5.length]++(bd++[ab.mk 4 0 0 0 0])++el=((out++e)++[ab.mk 5 0 4 0 y5.length]++bd)++[ab.mk 4 0 0 0 0]++el:=by simp
       have hal:((out++e)++[ab.mk 5 0 4 0 y5.length]++bd).length=y4.length:=by rw [hy4]; simp; omega
       rw [hsplit,<-hal]
       obtain ⟨s1,s2⟩:=zx (A:=(out++e)++[ab.mk 5 0 4 0 y5.length]++bd) (B:=el) (q:=ab.mk 4 0 0 0 0) (m:=(((out++e)++[ab.mk 5 0 4 0 y5.length]++bd++[ab.mk 4 0 0 0 0]++el).length:Int)) rfl
       rw [s1,ob9,s2,ob9]
       refine .pure ?_
       have hlen:(((out++e)++[ab.mk 5 0 4 0 y5.length]++bd++[ab.mk 4 0 0 0 0]++el).length:Int)=(out.length:Int)+e.length+1+bd.length+1+el.length:=by simp; omega
       rw [hlen,show (y5.length:Int)=(out.length:Int)+e.length+1+bd.length+1 by omega]
       simp
def gJ (l:List ae):List ab:=dT (cS 3) l 0++[⟨10,0,0,0,0⟩]
theorem VL.block {R:Int} (hR:R<=3) {l:List ae} (h:VL R l):wO 3 16 l:=⟨λx hx=>(h.1 x hx).ok hR,h.2⟩
theorem Bk {k:Nat} (hk:20<=k) {R:Int} (hR:R<=3) {l:List ae} (h:VL R l):gh k l=some (gJ l):=by
 obtain ⟨k,rfl⟩:∃ j,k=j+1:=⟨k-1,by omega⟩
 have h2:=h.2
 unfold gh
 rw [yb (n:=3) (λhx hl=>yc 3 k (by omega) hx hl) (out:=[]) (λx hx=>(h.1 x hx).ok hR) (by simp; omega),ob9]
 have hl:(dT (cS 3) l 0).length<=33*cts l:=jm λy hy=>nd ((h.1 y hy).ok hR)
 refine Tot.eq (.bind (.app (by simp; omega)) λr hr=>.pure ?_)
 rw [hr]
 rfl
theorem uU {k:Nat} (hk:20<=k) {R:Int} (hR:R<=3) {l:List ae} (h:VL R l):cl k l=some (gJ l,true)/\COk (gJ l):=by
 have hb:=h.block hR
 have h2:=h.2
 have he:cl k l=some (gJ l,true):=by
  unfold cl
  rw [ql hk hb,ob9,bE (show (!true)=false from rfl)]
  obtain ⟨k,rfl⟩:∃ j,k=j+1:=⟨k-1,by omega⟩
  rw [xZ (n:=3) (λhx h0 hl=>ya 3 k (by omega) hx h0 hl) (λx hx=>hb.1 x hx) (by omega) (by omega),ob9]
  have hl:(dT (cS 3) l 0).length<=33*cts l:=jm λy hy=>nd ((h.1 y hy).ok hR)
  refine Tot.eq (.bind (.app (by simp; omega)) λr hr=>.pure ?_)
  rw [hr]
  rfl
 obtain ⟨r,er,_,hr⟩:=xR hk hb
 rw [he] at er
 obtain rfl:=o9 er
 exact ⟨he,hr⟩
end
noncomputable section
theorem uV {α β ρ:Type} {f:List β×Int->Option ((List β×Int)⊕ρ)} {e:List β->ρ} {l:List α} {g:α->β} (hl:l.length<=4611686018427387904)
  (h:∀ (out:List β) (i:Int) (x:α),0<=i->i<l.length->l[i.toNat]?=some x->x∈l->out.length<=l.length->f (out,i)=some (.inl (out++[g x],w64 (i+1))))
  (he:∀ out,f (out,(l.length:Int))=some (.inr (e out))):aB f ([],0)=some (e (l.map g)):=by
 refine Tot.eq (.iter (λs=>0<=s.2/\s.2<=(l.length:Int)/\s.1=(l.take s.2.toNat).map g) (λs=>((l.length:Int)-s.2).toNat) ⟨by simp,by simp,by simp⟩ λs hs=>?_)
 obtain ⟨out,i⟩:=s
 obtain ⟨g0,g1,g2⟩:=hs
 simp only at g0 g1 g2
 by_cases hlt:i<l.length
 ·obtain ⟨x,hx⟩:∃ x,l[i.toNat]?=some x:=⟨_,List.getElem?_eq_getElem (by omega)⟩
  rw [h out i x g0 hlt hx (List.mem_of_getElem? hx) (by rw [g2]; simp; omega),au g0 (by omega)]
  refine .inl ⟨⟨by simp only; omega,by simp only; omega,?_⟩,by simp only; omega⟩
  simp only
  rw [g2,show (i+1).toNat=i.toNat+1 by omega,List.take_add_one,hx]
  simp
 ·obtain rfl:i=l.length:=by omega
  rw [he out,g2]
  refine .inr ?_
  rw [List.take_of_length_le (by omega)]
def oF (t:Int) (c:List ab):List ab:=((bI c t).getD ([],false)).1
def pF (c:List ab):List ab:=((eE c).getD ([],false)).1
theorem yd {t:Int} (h0:0<=t) (h4:t<=4) {c:List ab} (hc:COk c):bI c t=some (oF t c,true)/\bT c t=some (oF t c,true)/\COk (oF t c)/\(oF t c).length<=c.length:=by
 obtain ⟨r,h1,h2,h3,h5⟩:=xU hc h0 h4
 have:oF t c=r:=by unfold oF; rw [h1]; rfl
 rw [this]
 exact ⟨h1,h2,h3,h5⟩
theorem Bl {c:List ab} (hc:COk c):eE c=some (pF c,true)/\gv c=some (pF c,true)/\COk (pF c)/\(pF c).length<=c.length:=by
 obtain ⟨r,h1,h2,h3,h5⟩:=Bi hc
 have:pF c=r:=by unfold pF; rw [h1]; rfl
 rw [this]
 exact ⟨h1,h2,h3,h5⟩
def PB (p:aJ):Prop:=p.Rooms.length<=2000000/\(∀ l∈p.Tasks,cts l<=2000000)/\p.Tasks.length<=2000000
theorem VP.tasks {p:aJ} (h:VP p):∀ l∈p.Tasks,VL p.Rooms.length l:=h.2.2
theorem VP.rooms {p:aJ} (h:VP p):(p.Rooms.length:Int)<=3:=by have:=h.1.2; omega
theorem Bm {k:Nat} (hk:20<=k) {p:aJ} (hb:PB p):(VP p/\cL k p=some (p.Tasks.map gJ,true)/\cN k p=some (p.Tasks.map gJ,true))\/(¬ VP p/\cL k p=some ([],false)/\cN k p=some ([],false)):=by
 obtain ⟨b1,e1,h1⟩:=Ae hk hb.1 hb.2.1 hb.2.2
 obtain ⟨b2,e2,h2⟩:=Af hk hb.1 hb.2.1 hb.2.2
 have ee:(⟨p.Rooms,p.Tasks⟩:aJ)=p:=rfl
 unfold cL cN
 rw [ee,e1,e2,ob9,ob9]
 by_cases hv:VP p
 ·refine .inl ⟨hv,?_,?_⟩
  ·rw [h1.2 hv,bE (show (!true)=false from rfl),uV (l:=p.Tasks) (g:=gJ) (e:=id) (by have:=hb.2.2; omega) (λout i x g0 g1 hx hm ho=>?_) λout=>?_]
   ·rfl
   ·unfold dN
    rw [ga (by simpa using g1),show nth p.Tasks i=some x by unfold nth; rw [if_neg (by omega)]; exact hx,ob9,Bk hk hv.rooms (hv.tasks x hm),ob9]
    have h3:=hv.2.1.2
    exact Tot.eq (.bind (.app (by simp; omega)) λr hr=>.pure (by rw [hr]))
   ·unfold dN
    exact bE (by simp)
  ·rw [h2.2 hv,bE (show (!true)=false from rfl),uV (l:=p.Tasks) (g:=gJ) (e:=id) (by have:=hb.2.2; omega) (λout i x g0 g1 hx hm ho=>?_) λout=>?_]
   ·rfl
   ·unfold dQ
    rw [ga (by simpa using g1),show nth p.Tasks i=some x by unfold nth; rw [if_neg (by omega)]; exact hx,ob9,(uU hk hv.rooms (hv.tasks x hm)).1,ob9]
    have h3:=hv.2.1.2
    exact Tot.eq (.bind (.app (by simp; omega)) λr hr=>.pure (by rw [hr]))
   ·unfold dQ
    exact bE (by simp)
 ·refine .inr ⟨hv,?_,?_⟩
  ·rw [show b1=false by cases b1; rfl; exact absurd (h1.1 rfl) hv]
   exact ga rfl
  ·rw [show b2=false by cases b2; rfl; exact absurd (h2.1 rfl) hv]
   exact ga rfl
theorem B1 {l:List (List ab)} (hl:1<=l.length/\l.length<=3) (hc:∀ c∈l,COk c) (t:Int):((0<=t/\t<=4)/\cX l t=some (l.map (oF t),true)/\db l t=some (l.map (oF t),true))\/(¬ (0<=t/\t<=4)/\cX l t=some ([],false)/\db l t=some ([],false)):=by
 have hg1:((decide ((l.length:Int)<1))||(decide ((l.length:Int)>3)))=false:=by simp; omega
 have hg2:bh (l.length:Int) 1 3=some true:=by unfold bh; simp; omega
 by_cases ht:0<=t/\t<=4
 ·refine .inl ⟨ht,?_,?_⟩
  ·unfold cX
   rw [bE hg1,uV (l:=l) (g:=oF t) (e:=λx=>.inr x) (by omega) (λout i x g0 g1 hx hm ho=>?_) λout=>?_]
   ·rfl
   ·unfold cM
    rw [ga (by simpa using g1),show nth l i=some x by unfold nth; rw [if_neg (by omega)]; exact hx,ob9,(yd ht.1 ht.2 (hc x hm)).1,ob9,bE (by rfl)]
    exact Tot.eq (.bind (.app (by simp; omega)) λr hr=>.pure (by rw [hr]))
   ·unfold cM
    exact bE (by simp)
  ·unfold db
   rw [hg2,ob9,bE (show (!true)=false from rfl),uV (l:=l) (g:=oF t) (e:=λx=>.inr x) (by omega) (λout i x g0 g1 hx hm ho=>?_) λout=>?_]
   ·rfl
   ·unfold cP
    rw [ga (by simpa using g1),show nth l i=some x by unfold nth; rw [if_neg (by omega)]; exact hx,ob9,(yd ht.1 ht.2 (hc x hm)).2.1,ob9,bE (by rfl)]
    exact Tot.eq (.bind (.app (by simp; omega)) λr hr=>.pure (by rw [hr]))
   ·unfold cP
    exact bE (by simp)
 ·obtain ⟨c,hcx⟩:∃ c,l[0]?=some c:=⟨_,List.getElem?_eq_getElem (by omega)⟩
  have hck:=hc c (List.mem_of_getElem? hcx)
  have hmx:=hck.max
  have ht':t<0\/4<t:=by omega
  obtain ⟨b1,b2⟩:=wZ (eQ:=c) (t:=t) (by omega) (.inr ht')
  have h0:nth l 0=some c:=hcx
  refine .inr ⟨ht,?_,?_⟩
  ·unfold cX
   rw [bE hg1,bn,show cM l t ([],0)=some (.inr (.inl ([],false))) by
    unfold cM
    rw [ga (by simp; omega)]
    dsimp only
    rw [h0,ob9,b1,ob9]
    exact ga rfl]
   rfl
  ·unfold db
   rw [hg2,ob9,bE (show (!true)=false from rfl),bn,show cP l t ([],0)=some (.inr (.inl ([],false))) by
    unfold cP
    rw [ga (by simp; omega)]
    dsimp only
    rw [h0,ob9,b2,ob9]
    exact ga rfl]
   rfl
def bF (t:Int) (l:List ae):List ab:=pF (oF t (gJ l))
theorem De {t:Int} (h0:0<=t) (h4:t<=4) {R:Int} (hR:R<=3) {l:List ae} (h:VL R l):COk (bF t l)/\(bF t l).length<=(gJ l).length:=by
 have h1:=(uU (Nat.le_refl 20) hR h).2
 obtain ⟨_,_,h2,h3⟩:=yd h0 h4 h1
 obtain ⟨_,_,h5,h6⟩:=Bl h2
 exact ⟨h5,by unfold bF; omega⟩
theorem Ag {k:Nat} (hk:20<=k) {p:aJ} (hb:PB p) (t:Int):((VP p/\0<=t/\t<=4)/\cR k p t=some (p.Tasks.map (bF t),true)/\dH k p t=some (p.Tasks.map (bF t),true))\/(¬ (VP p/\0<=t/\t<=4)/\cR k p t=some ([],false)/\dH k p t=some ([],false)):=by
 have ee:(⟨p.Rooms,p.Tasks⟩:aJ)=p:=rfl
 unfold cR dH
 rw [ee]
 rcases Bm hk hb with ⟨hv,c1,c2⟩ | ⟨hv,c1,c2⟩
 ·have hn:=hv.2.1
  have hcs:∀ c∈p.Tasks.map gJ,COk c:=λc hc=>by
   obtain ⟨l,hl,rfl⟩:=List.mem_map.1 hc
   exact (uU hk hv.rooms (hv.tasks l hl)).2
  rw [c1,c2,ob9,ob9,bE (by rfl),bE (by rfl)]
  rcases B1 (l:=p.Tasks.map gJ) (by simpa using hn) hcs t with ⟨ht,o1,o2⟩ | ⟨ht,o1,o2⟩
  ·refine .inl ⟨⟨hv,ht⟩,?_,?_⟩
   ·rw [o1,ob9,bE (by rfl)]
    have hlen:((p.Tasks.map gJ).map (oF t)).length=p.Tasks.length:=by simp
    have hok:∀ (i:Nat) (c:List ab),((p.Tasks.map gJ).map (oF t))[i]?=some c->COk c:=λi c hc=>by
     obtain ⟨x,hx,rfl⟩:=List.mem_map.1 (List.mem_of_getElem? hc)
     exact (yd ht.1 ht.2 (hcs x hx)).2.2.1
    have hmm:((p.Tasks.map gJ).map (oF t)).map pF=p.Tasks.map (bF t):=by simp [bF]
    rw [<-hmm]
    generalize (p.Tasks.map gJ).map (oF t)=L at hlen hok
    refine Tot.eq (.bind (P:=λz=>z=.inr (L.map pF)) (.iter (λs=>0<=s.1/\s.1<=(L.length:Int)/\s.2=(L.take s.1.toNat).map pF++L.drop s.1.toNat) (λs=>((L.length:Int)-s.1).toNat) ⟨by simp,by simp,by simp⟩ λs hs=>?_) λz hz=>by rw [hz]; exact .pure rfl)
    obtain ⟨i,a⟩:=s
    obtain ⟨g0,g1,g2⟩:=hs
    simp only at g0 g1 g2
    unfold kN
    refine .sel (λh=>?_) λh=>.inr ?_
    ·simp only [decide_eq_true_eq] at h
     obtain ⟨c,hc⟩:∃ c,L[i.toNat]?=some c:=⟨_,List.getElem?_eq_getElem (by omega)⟩
     have htl:((L.take i.toNat).map pF).length=i.toNat:=by simp; omega
     have hdr:L.drop i.toNat=c::L.drop (i.toNat+1):=by
      rw [List.drop_eq_getElem_cons (by omega)]
      rw [List.getElem?_eq_getElem (by omega)] at hc
      rw [o9 hc]
     have hna:nth a i=some c:=by
      unfold nth
      rw [if_neg (by omega),g2,List.getElem?_append_right (by omega),htl,Nat.sub_self,hdr]
      rfl
     dsimp only
     rw [hna,ob9,(Bl (hok _ c hc)).1,ob9]
     refine .sf rfl (.inl ?_)
     rw [au g0 (by omega)]
     refine ⟨⟨by simp only; omega,by simp only; omega,?_⟩,by simp only; omega⟩
     simp only
     rw [g2,List.set_append_right _ _ (by omega),htl,Nat.sub_self,hdr,show (i+1).toNat=i.toNat+1 by omega,List.take_add_one,hc]
     simp
    ·simp only [decide_eq_false_iff_not] at h
     rw [g2,List.take_of_length_le (by omega),List.drop_eq_nil_of_le (by omega)]
     simp
   ·rw [o2,ob9,bE (by rfl)]
    have hok:∀ c∈(p.Tasks.map gJ).map (oF t),COk c:=λc hc=>by
     obtain ⟨x,hx,rfl⟩:=List.mem_map.1 hc
     exact (yd ht.1 ht.2 (hcs x hx)).2.2.1
    have hlen:((p.Tasks.map gJ).map (oF t)).length=p.Tasks.length:=by simp
    have hmm:((p.Tasks.map gJ).map (oF t)).map pF=p.Tasks.map (bF t):=by simp [bF]
    rw [<-hmm]
    generalize (p.Tasks.map gJ).map (oF t)=L at hlen hok
    rw [uV (l:=L) (g:=pF) (e:=id) (by omega) (λout i x g0 g1 hx hm ho=>?_) λout=>?_]
    ·rfl
    ·unfold g9
     rw [ga (by simpa using g1),show nth L i=some x by unfold nth; rw [if_neg (by omega)]; exact hx,ob9,(Bl (hok x hm)).2.1,ob9]
     exact Tot.eq (.bind (.app (by simp; omega)) λr hr=>.pure (by rw [hr]))
    ·unfold g9
     exact bE (by simp)
  ·refine .inr ⟨λh=>ht h.2,?_,?_⟩
   ·rw [o1,ob9]; exact ga rfl
   ·rw [o2,ob9]; exact ga rfl
 ·refine .inr ⟨λh=>hv h.1,?_,?_⟩
  ·rw [c1,ob9]; exact ga rfl
  ·rw [c2,ob9]; exact ga rfl
end
noncomputable section
theorem B2 {α:Type} {b:Bool} {x y r:α} (h:b=true) (k:x=r):sel b x y=r:=by subst h; exact k
def nt {α:Type} (n:α->Nat):List α->Nat
 | []=>0
 | x::r=>n x+nt n r
def lft (c:Int) (n:Nat):Int:=if c-n<0 then -1 else c-n
def Bn (c:Int) (n:Nat):Int⊕Int:=if c-n<0 then .inl (-1) else .inr (c-n)
def CM (c:Int) (n:Nat) (i:Nat):(Int×Int)⊕(Int⊕Int):=if c-n<0 then .inr (.inl (-1)) else .inl (c-n,((i+1:Nat):Int))
theorem mL {c:Int} {n:Nat} (h:c-n<0):lft c n = -1:=if_pos h
theorem oh {c:Int} {n:Nat} (h:¬ c-n<0):lft c n=c-n:=if_neg h
theorem w5 {c:Int} {n:Nat} (h:c-n<0):Bn c n=.inl (-1):=if_pos h
theorem w6 {c:Int} {n:Nat} (h:¬ c-n<0):Bn c n=.inr (c-n):=if_neg h
theorem ss {c:Int} {n i:Nat} (h:c-n<0):CM c n i=.inr (.inl (-1)):=if_pos h
theorem w7 {c:Int} {n i:Nat} (h:¬ c-n<0):CM c n i=.inl (c-n,((i+1:Nat):Int)):=if_neg h
theorem w8 {c d:Int} {n m:Nat} (h:c-n=d-m):ia (Bn c n) (λo3=>some o3) (λo4=>some o4)=some (lft d m):=by
 by_cases hn:c-n<0
 ·rw [w5 hn,mL (by omega)]; rfl
 ·rw [w6 hn,oh (by omega),h]; rfl
theorem w9 {α:Type} {f:Int×Int->Option ((Int×Int)⊕(Int⊕Int))} {l:List α} (n:α->Nat) (hl:l.length<=1048576)
  (h:∀ (i:Nat) x c,l[i]?=some x->x∈l->0<=c->c<=1048576->f (c,(i:Int))=some (CM c (n x) i))
  (he:∀ c,f (c,(l.length:Int))=some (.inr (.inr c))) {c:Int} (h0:0<=c) (h1:c<=1048576):aB f (c,0)=some (Bn c (nt n l)):=by
 have key:∀ (xs pre:List α) (c:Int),pre++xs=l->0<=c->c<=1048576->aB f (c,(pre.length:Int))=some (Bn c (nt n xs)):=by
  intro xs
  induction xs with
  | nil =>
   intro pre c hp h0 h1
   rw [List.append_nil] at hp
   subst hp
   rw [bn,he,w6 (by simp only [nt]; omega)]
   simp [nt]
  | cons x xs ih =>
   intro pre c hp h0 h1
   have hx:l[pre.length]?=some x:=by subst hp; simp
   rw [bn,h _ x c hx (List.mem_of_getElem? hx) h0 h1]
   by_cases hn:c-n x<0
   ·rw [ss hn,w5 (by simp only [nt]; omega)]
   ·rw [w7 hn]
    have:=ih (pre++[x]) (c-n x) (by rw [<-hp]; simp) (by omega) (by omega)
    rw [List.length_append,List.length_singleton] at this
    rw [show nt n (x::xs)=n x+nt n xs from rfl]
    simp only [this]
    by_cases hm:c-n x-nt n xs<0
    ·rw [w5 hm,w5 (by omega)]
    ·rw [w6 hm,w6 (by omega)]
     congr 2
     omega
 exact key l [] c rfl h0 h1
theorem ud {α β:Type} {f:Int×List β->Option ((Int×List β)⊕List β)} {l:List α} (g:α->β) (z:β) (hl:l.length<=1048576)
  (h:∀ (i:Nat) x a,l[i]?=some x->x∈l->a.length=l.length->f ((i:Int),a)=some (.inl (((i+1:Nat):Int),a.set i (g x))))
  (he:∀ a,f ((l.length:Int),a)=some (.inr a)):aB f (0,List.replicate l.length z)=some (l.map g):=by
 have:=ze (f:=f) (λi=>((i:Int),(l.take i).map g++List.replicate (l.length-i) z)) l.length (r:=l.map g) (λi hi=>?_) ?_
 ·simpa using this
 ·obtain ⟨x,hx⟩:∃ x,l[i]?=some x:=⟨_,List.getElem?_eq_getElem hi⟩
  rw [h i x _ hx (List.mem_of_getElem? hx) (by simp; omega)]
  congr 3
  rw [List.set_append_right _ _ (by simp; omega)]
  have:i-((l.take i).map g).length=0:=by simp; omega
  rw [this,show l.length-i=(l.length-(i+1))+1 by omega,List.replicate_succ,List.set_cons_zero,List.take_add_one,hx]
  simp
 ·rw [he]
  simp
theorem uW {α:Type} {mk:α->Int->Option (Int×α)} {sz:α->Nat}:∀ {l:List α} {c:Int},(∀ x∈l,∀ c:Int,1<=c->c+sz x<=1000000000000->∃ x',mk x c=some (c+sz x,x'))->1<=c->c+szs sz l<=1000000000000->∃ l',oQ mk l c=some (c+szs sz l,l')
 | [],c,_,_,_=>⟨[],by simp [oQ,szs]⟩
 | x::xs,c,h,h1,h2=>by
  simp only [szs] at h2
  obtain ⟨x',k1⟩:=h x (by simp) c h1 (by omega)
  obtain ⟨l',k3⟩:=uW (l:=xs) (c:=c+sz x) (λy hy=>h y (by simp [hy])) (by omega) (by omega)
  refine ⟨x'::l',?_⟩
  simp only [oQ,k1,k3,szs]
  congr 2
  omega
theorem uX {i:Nat} (h:i<=1048576):w64 ((i:Int)+1)=((i+1:Nat):Int):=mg (by omega)
theorem uY {α:Type} {l:List α} {i:Nat} {x:α} (h:l[i]?=some x):nth l (i:Int)=some x:=by
 obtain ⟨h1,h2⟩:=List.getElem?_eq_some_iff.1 h
 rw [gF h1,h2]
theorem B3 {α:Type} {l:List α} {i:Nat} (h:i<l.length) (x:α):nth (l.set i x) (i:Int)=some x:=by
 rw [gF (by simpa using h)]
 simp
theorem B4 {α:Type} {l:List α} {i:Nat} (h:i<l.length) (x y:α):upd (l.set i x) (i:Int) y=some (l.set i y):=by
 rw [wI (by simpa using h),List.set_set]
theorem yN {α:Type} {l:List α} {i:Nat} {x:α} (h:l[i]?=some x):i<l.length:=(List.getElem?_eq_some_iff.1 h).1
theorem Ah {l:List Int} {k:Int} (hl:l.length<=maxLen) (hk:0<=k) (hk2:k<=1048576):mr l k=some (lft k l.length):=by
 have hm:(maxLen:Int)=9223372036854775807:=by decide
 unfold mr
 rw [jX (by omega) (by omega)]
 by_cases h:k-l.length<0
 ·rw [mL h,a9 (by simpa using h)]
 ·rw [oh h,aj (by simpa using h)]
theorem Ai (l:List Int) (h:l.length<=1048576):ms l=some l:=by
 unfold ms
 rw [zf (by omega),ob9,ud (l:=l) id 0 h (λi x a hx _ ha=>?_) λa=>?_]
 ·simp
 ·have hi:=yN hx
  unfold ln
  rw [a9 (by simpa using hi)]
  simp only [uY hx,gF (ha▸hi),wI (ha▸hi),ob9,uX (show i<=1048576 by omega),id]
 ·unfold ln
  rw [aj (by simp)]
theorem Aj (l:List Int) (h:l.length<=1048576):mu l l=some true:=by
 unfold mu
 rw [aj (by simp)]
 have e:aB (jh l l) 0=some (.inr ()):=pE (l:=l) (by omega) (λi hi=>by
  unfold jh
  rw [a9 (by simpa using hi)]
  simp only [gF hi,ob9]
  rw [aj (by simp)]) (by
  unfold jh
  rw [aj (by simp)])
 rw [e]
 rfl
theorem ye {l:List Int} {c:Int} (hl:l.length<=1048576) (h1:1<=c) (h2:c<=1000000000):∃ r,kq l c=some (c+l.length,r):=by
 have e:szs (λ_:Int=>1) l=l.length:=zg l
 obtain ⟨l',k⟩:=uW (l:=l) (mk:=λ_ k=>some (w64 (k+1),k)) (sz:=λ_=>1) (c:=c) (λx _ c h1 h2=>⟨c,by rw [jX (by omega) (by omega)]; rfl⟩) h1 (by omega)
 rw [e] at k
 refine ⟨l',?_⟩
 unfold kq
 rw [pG (f:=gy) _ (λk l i hi k' x' hm hlen=>?_) (λk l=>?_) (by omega) k]
 ·rfl
 ·simp only [Option.some.injEq,Prod.mk.injEq] at hm
  obtain ⟨rfl,rfl⟩:=hm
  unfold gy
  rw [a9 (by simpa using hi)]
  simp only [gF hi,wI hi,ob9,mg (show i<=9223372036854775806 by omega)]
 ·unfold gy
  rw [aj (by simp)]
mutual
def ax.n:ax->Nat
 | ⟨_,_,a⟩=>ax.ns a
def ax.ns:List ax->Nat
 | []=>0
 | x::r=>1+ax.n x+ax.ns r
end
mutual
def ax.ok:ax->Prop
 | ⟨_,_,a⟩=>a.length<=maxLen/\ax.oks a
def ax.oks:List ax->Prop
 | []=>True
 | x::r=>ax.ok x/\ax.oks r
end
mutual
def ax.to:ax->Expr
 | ⟨o,n,a⟩=>⟨o,n,ax.tos a⟩
def ax.tos:List ax->List Expr
 | []=>[]
 | x::r=>ax.to x::ax.tos r
end
mutual
def Expr.n:Expr->Nat
 | ⟨_,_,a⟩=>Expr.ns a
def Expr.ns:List Expr->Nat
 | []=>0
 | x::r=>1+Expr.n x+Expr.ns r
end
mutual
def aq.n:aq->Nat
 | ⟨_,_,_,e,a,b⟩=>ax.n e+aq.ns a+aq.ns b
def aq.ns:List aq->Nat
 | []=>0
 | x::r=>1+aq.n x+aq.ns r
end
mutual
def aq.ok:aq->Prop
 | ⟨_,_,_,e,a,b⟩=>ax.ok e/\(a.length<=maxLen/\aq.oks a)/\b.length<=maxLen/\aq.oks b
def aq.oks:List aq->Prop
 | []=>True
 | x::r=>aq.ok x/\aq.oks r
end
mutual
def aq.to:aq->ae
 | ⟨k,v,x,e,a,b⟩=>⟨k,v,x,ax.to e,aq.tos a,aq.tos b⟩
def aq.tos:List aq->List ae
 | []=>[]
 | x::r=>aq.to x::aq.tos r
end
mutual
def ae.n:ae->Nat
 | ⟨_,_,_,e,a,b⟩=>Expr.n e+ae.ns a+ae.ns b
def ae.ns:List ae->Nat
 | []=>0
 | x::r=>1+ae.n x+ae.ns r
end
theorem xa:∀ l:List ax,ax.ns l=l.length+nt ax.n l
 | []=>rfl
 | x::r=>by simp only [ax.ns,nt,List.length_cons,xa r]; omega
theorem xb:∀ l:List aq,aq.ns l=l.length+nt aq.n l
 | []=>rfl
 | x::r=>by simp only [aq.ns,nt,List.length_cons,xb r]; omega
theorem xc:∀ l:List Expr,Expr.ns l=l.length+nt Expr.n l
 | []=>rfl
 | x::r=>by simp only [Expr.ns,nt,List.length_cons,xc r]; omega
theorem xd:∀ l:List ae,ae.ns l=l.length+nt ae.n l
 | []=>rfl
 | x::r=>by simp only [ae.ns,nt,List.length_cons,xd r]; omega
theorem n3 {α:Type} {n:α->Nat}:∀ {l:List α} {x:α},x∈l->n x<=nt n l
 | [],x,h=>by simp at h
 | y::r,x,h=>by
  simp only [nt]
  rcases List.mem_cons.1 h with rfl | h
  ·omega
  ·have:=n3 (n:=n) h; omega
theorem ue {α:Type} {l:List α} {x:α} (h:x∈l):1<=l.length:=by cases l <;> simp at h ⊢
theorem zy {l:List ax} {x:ax} (h:x∈l):ax.ns x.Args+1<=ax.ns l:=by
 have:=n3 (n:=ax.n) h; have:=ue h; rw [xa l]; obtain ⟨o,n,a⟩:=x; simp only [ax.n] at this; simp only; omega
theorem Bo {l:List Expr} {x:Expr} (h:x∈l):Expr.ns x.Args+1<=Expr.ns l:=by
 have:=n3 (n:=Expr.n) h; have:=ue h; rw [xc l]; obtain ⟨o,n,a⟩:=x; simp only [Expr.n] at this; simp only; omega
theorem zC {l:List aq} {x:aq} (h:x∈l):ax.ns x.Expr.Args+aq.ns x.Body+aq.ns x.Else+1<=aq.ns l:=by
 have:=n3 (n:=aq.n) h; have:=ue h; rw [xb l]; obtain ⟨k,v,b,⟨o,n,a⟩,s,t⟩:=x; simp only [aq.n,ax.n] at this; simp only; omega
theorem CN {l:List ae} {x:ae} (h:x∈l):Expr.ns x.Expr.Args+ae.ns x.Body+ae.ns x.Else+1<=ae.ns l:=by
 have:=n3 (n:=ae.n) h; have:=ue h; rw [xd l]; obtain ⟨k,v,b,⟨o,n,a⟩,s,t⟩:=x; simp only [ae.n,Expr.n] at this; simp only; omega
theorem yf:∀ {l:List ax} {x:ax},ax.oks l->x∈l->ax.ok x
 | [],x,_,h=>by simp at h
 | y::r,x,⟨h1,h2⟩,h=>by
  rcases List.mem_cons.1 h with rfl | h
  ·exact h1
  ·exact yf h2 h
theorem yg:∀ {l:List aq} {x:aq},aq.oks l->x∈l->aq.ok x
 | [],x,_,h=>by simp at h
 | y::r,x,⟨h1,h2⟩,h=>by
  rcases List.mem_cons.1 h with rfl | h
  ·exact h1
  ·exact yg h2 h
theorem zE:∀ l:List ax,ax.tos l=l.map ax.to
 | []=>rfl
 | x::r=>by simp only [ax.tos,List.map_cons,zE r]
theorem zF:∀ l:List aq,aq.tos l=l.map aq.to
 | []=>rfl
 | x::r=>by simp only [aq.tos,List.map_cons,zF r]
mutual
theorem Df:∀ e:ax,Expr.n (ax.to e)=ax.n e
 | ⟨o,n,a⟩=>by simp only [ax.to,Expr.n,ax.n]; exact Ch a
theorem Ch:∀ l:List ax,Expr.ns (ax.tos l)=ax.ns l
 | []=>rfl
 | x::r=>by simp only [ax.tos,Expr.ns,ax.ns,Df x,Ch r]
end
mutual
theorem Dg:∀ e:aq,ae.n (aq.to e)=aq.n e
 | ⟨k,v,x,e,a,b⟩=>by simp only [aq.to,ae.n,aq.n,Df e,uZ a,uZ b]
theorem uZ:∀ l:List aq,ae.ns (aq.tos l)=aq.ns l
 | []=>rfl
 | x::r=>by simp only [aq.tos,ae.ns,aq.ns,Dg x,uZ r]
end
mutual
theorem Dy:∀ e:ae,ct e<=1+ae.n e
 | ⟨k,v,x,e,a,b⟩=>by have h1:=zG a; have h2:=zG b; simp only [ct,ae.n]; omega
theorem zG:∀ l:List ae,cts l<=ae.ns l
 | []=>Nat.le_refl _
 | x::r=>by have h1:=Dy x; have h2:=zG r; simp only [cts,ae.ns]; omega
end
theorem u5:∀ (k:Nat) {l:List ax} {c:Int},2*ax.ns l+1<=k->l.length<=maxLen->ax.oks l->0<=c->c<=1048576->lm k l c=some (lft c (ax.ns l))
 | 0,l,c,hk,_,_,_,_=>by omega
 | k+1,l,c,hk,hl,ho,h0,h1=>by
  have hm:(maxLen:Int)=9223372036854775807:=by decide
  have hns:=xa l
  show ja k (jb k) (lm k) l c=_
  unfold ja
  rw [jX (by omega) (by omega)]
  by_cases h:c-l.length<0
  ·rw [a9 (by simpa using h),mL (by omega)]
  rw [aj (by simpa using h),w9 (l:=l) ax.n (by omega) (λi x c hx hm h0 h1=>?_) (λc=>?_) (c:=c-l.length) (by omega) (by omega),ob9]
  ·exact w8 (by omega)
  ·unfold kC
   have hmm:=zy hm
   have hi:=yN hx
   have hok:=yf ho hm
   obtain ⟨o,n,a⟩:=x
   simp only [ax.ok] at hok
   simp only at hmm
   match k,hk with
   | 0,hk=>omega
   | k+1,hk =>
   rw [a9 (by simpa using hi),uY hx,ob9]
   show ((fY k (jb k) (lm k) ⟨o,n,a⟩ c).bind _)=_
   unfold fY
   rw [u5 k (l:=a) (c:=c) (by omega) hok.1 hok.2 h0 h1]
   rw [show ax.n ⟨o,n,a⟩=ax.ns a from rfl,ob9]
   by_cases hn:c-ax.ns a<0
   ·rw [mL hn,ss hn]; rfl
   ·rw [oh hn,w7 hn,aj (by simpa using hn),ob9,aj (by simpa using hn),uX (by omega)]
  ·unfold kC
   rw [aj (by simp)]
theorem Ak {k:Nat} {e:ax} {c:Int} (hk:2*ax.n e+2<=k) (ho:ax.ok e) (h0:0<=c) (h1:c<=1048576):jb k e c=some (lft c (ax.n e)):=by
 obtain ⟨o,n,a⟩:=e
 simp only [ax.ok] at ho
 rw [show ax.n ⟨o,n,a⟩=ax.ns a from rfl] at hk ⊢
 match k,hk with
 | k+1,hk =>
  show fY k (jb k) (lm k) ⟨o,n,a⟩ c=_
  unfold fY
  rw [u5 k (l:=a) (by omega) ho.1 ho.2 h0 h1,ob9]
  by_cases hn:c-ax.ns a<0
  ·rw [mL hn]; rfl
  ·rw [oh hn,aj (by simpa using hn)]
theorem qG:∀ (k:Nat) {l:List aq} {c:Int},2*aq.ns l+3<=k->l.length<=maxLen->aq.oks l->0<=c->c<=1048576->jJ k l c=some (lft c (aq.ns l))
 | 0,l,c,hk,_,_,_,_=>by omega
 | k+1,l,c,hk,hl,ho,h0,h1=>by
  have hm:(maxLen:Int)=9223372036854775807:=by decide
  have hns:=xb l
  show jc k (jJ k) (oO k) l c=_
  unfold jc
  rw [jX (by omega) (by omega)]
  by_cases h:c-l.length<0
  ·rw [a9 (by simpa using h),mL (by omega)]
  rw [aj (by simpa using h),w9 (l:=l) aq.n (by omega) (λi x c hx hm h0 h1=>?_) (λc=>?_) (c:=c-l.length) (by omega) (by omega),ob9]
  ·exact w8 (by omega)
  ·unfold kD
   have hmm:=zC hm
   have hi:=yN hx
   have hok:=yg ho hm
   obtain ⟨kd,v,bx,⟨o,n,a⟩,s,t⟩:=x
   simp only [aq.ok] at hok
   simp only at hmm
   match k,hk with
   | 0,hk=>omega
   | k+1,hk =>
   rw [a9 (by simpa using hi),uY hx,ob9]
   show ((kg k (jJ k) (oO k) ⟨kd,v,bx,⟨o,n,a⟩,s,t⟩ c).bind _)=_
   unfold kg
   rw [Ak (k:=k) (c:=c) (by simp only [ax.n]; omega) hok.1 h0 h1]
   rw [show aq.n ⟨kd,v,bx,⟨o,n,a⟩,s,t⟩=ax.ns a+aq.ns s+aq.ns t from rfl,show ax.n ⟨o,n,a⟩=ax.ns a from rfl,ob9]
   by_cases hn:c-ax.ns a<0
   ·rw [mL hn,ss (by omega)]; rfl
   rw [oh hn,aj (by simpa using hn),qG k (l:=s) (by omega) hok.2.1.1 hok.2.1.2 (by omega) (by omega),ob9]
   by_cases hn2:c-ax.ns a-aq.ns s<0
   ·rw [mL hn2,ss (by omega)]; rfl
   rw [oh hn2,aj (by simpa using hn2),qG k (l:=t) (by omega) hok.2.2.1 hok.2.2.2 (by omega) (by omega),ob9]
   by_cases hn3:c-ax.ns a-aq.ns s-aq.ns t<0
   ·rw [mL hn3,ss (by omega)]; rfl
   rw [oh hn3,aj (by simpa using hn3),ob9,aj (by simpa using hn3),uX (by omega),w7 (by omega)]
   congr 3
   omega
  ·unfold kD
   rw [aj (by simp)]
def aq.nss (l:List (List aq)):Nat:=l.length+nt aq.ns l
theorem yh {k:Nat} {l:List (List aq)} {c:Int} (hk:∀ x∈l,2*aq.ns x+3<=k) (hl:l.length<=maxLen) (ho:∀ x∈l,x.length<=maxLen/\aq.oks x) (h0:0<=c) (h1:c<=1048576):kh k l c=some (lft c (aq.nss l)):=by
 have hm:(maxLen:Int)=9223372036854775807:=by decide
 unfold kh aq.nss
 rw [jX (by omega) (by omega)]
 by_cases h:c-l.length<0
 ·rw [a9 (by simpa using h),mL (by omega)]
 rw [aj (by simpa using h),w9 (l:=l) aq.ns (by omega) (λi x c hx hm h0 h1=>?_) (λc=>?_) (c:=c-l.length) (by omega) (by omega),ob9]
 ·exact w8 (by omega)
 ·unfold jK
  have hi:=yN hx
  rw [a9 (by simpa using hi),uY hx,ob9,qG k (hk x hm) (ho x hm).1 (ho x hm).2 h0 h1,ob9]
  by_cases hn:c-aq.ns x<0
  ·rw [mL hn,ss hn]; rfl
  ·rw [oh hn,w7 hn,aj (by simpa using hn),uX (by omega)]
 ·unfold jK
  rw [aj (by simp)]
theorem u6:∀ (k:Nat) {l:List ax},2*ax.ns l+1<=k->ax.ns l<=1048576->lp k l=some (ax.tos l)
 | 0,l,hk,_=>by omega
 | k+1,l,hk,hb=>by
  have hns:=xa l
  show je k (jf k) (lp k) l=_
  unfold je
  rw [zf (by omega),ob9,ud (l:=l) ax.to ⟨0,0,[]⟩ (by omega) (λi x a hx hm ha=>?_) λa=>?_,zE]
  ·rfl
  ·have hi:=yN hx
   have hmm:=zy hm
   unfold kE
   rw [a9 (by simpa using hi),uY hx,ob9]
   obtain ⟨o,n,b⟩:=x
   simp only at hmm
   match k,hk with
   | 0,hk=>omega
   | k+1,hk =>
   show ((fZ k (jf k) (lp k) ⟨o,n,b⟩).bind _)=_
   unfold fZ
   rw [u6 k (l:=b) (by omega) (by omega)]
   simp only [gF (ha▸hi),ob9,uX (show i<=1048576 by omega),Int.toNat_natCast,ax.to]
  ·unfold kE
   rw [aj (by simp)]
theorem Al {k:Nat} {e:ax} (hk:2*ax.n e+2<=k) (hb:ax.n e<=1048576):jf k e=some (ax.to e):=by
 obtain ⟨o,n,a⟩:=e
 simp only [ax.n] at hk hb
 match k,hk with
 | k+1,hk =>
  show fZ k (jf k) (lp k) ⟨o,n,a⟩=_
  unfold fZ
  rw [u6 k (l:=a) (by omega) hb]
  rfl
theorem qH:∀ (k:Nat) {l:List aq},2*aq.ns l+3<=k->aq.ns l<=1048576->jL k l=some (aq.tos l)
 | 0,l,hk,_=>by omega
 | k+1,l,hk,hb=>by
  have hns:=xb l
  show jg k (jL k) (oP k) l=_
  unfold jg
  rw [zf (by omega),ob9,ud (l:=l) aq.to ⟨0,0,0,⟨0,0,[]⟩,[],[]⟩ (by omega) (λi x a hx hm ha=>?_) λa=>?_,zF]
  ·rfl
  ·have hi:=yN hx
   have hmm:=zC hm
   unfold kF
   rw [a9 (by simpa using hi),uY hx,ob9]
   obtain ⟨kd,v,bx,⟨o,n,b⟩,s,t⟩:=x
   simp only at hmm
   match k,hk with
   | 0,hk=>omega
   | k+1,hk =>
   show ((ki k (jL k) (oP k) ⟨kd,v,bx,⟨o,n,b⟩,s,t⟩).bind _)=_
   unfold ki
   rw [Al (k:=k) (by simp only [ax.n]; omega) (by simp only [ax.n]; omega),ob9,qH k (l:=s) (by omega) (by omega),ob9,qH k (l:=t) (by omega) (by omega)]
   simp only [gF (ha▸hi),ob9,uX (show i<=1048576 by omega),Int.toNat_natCast,aq.to,ax.to]
  ·unfold kF
   rw [aj (by simp)]
theorem yi {k:Nat} {l:List (List aq)} (hk:∀ x∈l,2*aq.ns x+3<=k) (hb:aq.nss l<=1048576):kj k l=some (l.map aq.tos):=by
 unfold aq.nss at hb
 unfold kj
 rw [zf (by omega),ob9,ud (l:=l) aq.tos [] (by omega) (λi x a hx hm ha=>?_) λa=>?_]
 ·rfl
 ·have hi:=yN hx
  have:=n3 (n:=aq.ns) hm
  unfold jM
  rw [a9 (by simpa using hi),uY hx,ob9,qH k (hk x hm) (by omega)]
  simp only [gF (ha▸hi),ob9,uX (show i<=1048576 by omega),Int.toNat_natCast]
 ·unfold jM
  rw [aj (by simp)]
theorem u7:∀ (k:Nat) {l:List Expr},2*Expr.ns l+1<=k->Expr.ns l<=1048576->lr k l l=some true
 | 0,l,hk,_=>by omega
 | k+1,l,hk,hb=>by
  have hns:=xc l
  show ji k (gQ k) (lr k) l l=_
  unfold ji
  rw [aj (by simp)]
  have e:aB (ij l l (gQ k)) 0=some (.inr ()):=pE (l:=l) (by omega) (λi hi=>by
   have hmm:=Bo (List.getElem_mem hi)
   unfold ij
   rw [a9 (by simpa using hi)]
   simp only [gF hi,ob9]
   generalize l[i]=x at hmm
   obtain ⟨o,n,a⟩:=x
   simp only at hmm
   match k,hk with
   | 0,hk=>omega
   | k+1,hk =>
   show ((f5 k (gQ k) (lr k) ⟨o,n,a⟩ ⟨o,n,a⟩).bind _)=_
   unfold f5
   rw [aj (by simp),aj (by simp),u7 k (l:=a) (by omega) (by omega)]
   rfl) (by
   unfold ij
   rw [aj (by simp)])
  rw [e]
  rfl
theorem Am {k:Nat} {e:Expr} (hk:2*Expr.n e+2<=k) (hb:Expr.n e<=1048576):gQ k e e=some true:=by
 obtain ⟨o,n,a⟩:=e
 simp only [Expr.n] at hk hb
 match k,hk with
 | k+1,hk =>
  show f5 k (gQ k) (lr k) ⟨o,n,a⟩ ⟨o,n,a⟩=_
  unfold f5
  rw [aj (by simp),aj (by simp),u7 k (l:=a) (by omega) hb]
  rfl
theorem qI:∀ (k:Nat) {l:List ae},2*ae.ns l+3<=k->ae.ns l<=1048576->jN k l l=some true
 | 0,l,hk,_=>by omega
 | k+1,l,hk,hb=>by
  have hns:=xd l
  show jj k (jN k) (nv k) l l=_
  unfold jj
  rw [aj (by simp)]
  have e:aB (ik l l (nv k)) 0=some (.inr ()):=pE (l:=l) (by omega) (λi hi=>by
   have hmm:=CN (List.getElem_mem hi)
   unfold ik
   rw [a9 (by simpa using hi)]
   simp only [gF hi,ob9]
   generalize l[i]=x at hmm
   obtain ⟨kd,v,bx,⟨o,n,a⟩,s,t⟩:=x
   simp only at hmm
   match k,hk with
   | 0,hk=>omega
   | k+1,hk =>
   show ((km k (jN k) (nv k) ⟨kd,v,bx,⟨o,n,a⟩,s,t⟩ ⟨kd,v,bx,⟨o,n,a⟩,s,t⟩).bind _)=_
   unfold km
   rw [aj (by simp),aj (by simp),aj (by simp),Am (k:=k) (by simp only [Expr.n]; omega) (by simp only [Expr.n]; omega),ob9,aj (show (!true)=false from rfl),qI k (l:=s) (by omega) (by omega),ob9,aj (show (!true)=false from rfl),qI k (l:=t) (by omega) (by omega)]
   rfl) (by
   unfold ik
   rw [aj (by simp)])
  rw [e]
  rfl
theorem yj {k:Nat} {l:List (List ae)} (hk:∀ x∈l,2*ae.ns x+3<=k) (hl:l.length<=1048576) (hb:∀ x∈l,ae.ns x<=1048576):ko k l l=some true:=by
 unfold ko
 rw [aj (by simp)]
 have e:aB (gx l l k) 0=some (.inr ()):=pE (l:=l) (by omega) (λi hi=>by
  have hm:=List.getElem_mem hi
  unfold gx
  rw [a9 (by simpa using hi)]
  simp only [gF hi,ob9,qI k (hk _ hm) (hb _ hm)]
  rfl) (by
  unfold gx
  rw [aj (by simp)])
 rw [e]
 rfl
def mE (e:Expr):Nat:=2+2*Expr.n e
theorem yO:∀ l:List Expr,szs mE l=2*Expr.ns l
 | []=>rfl
 | x::r=>by simp only [szs,mE,Expr.ns,yO r]; omega
theorem ri:∀ (k:Nat) {l:List Expr} {c:Int},Expr.ns l+1<=k->1<=c->c+(2*Expr.ns l:Nat)<=1000000000000->∃ r,eN k l c=some (c+(2*Expr.ns l:Nat),r)
 | 0,l,c,hk,_,_=>by omega
 | k+1,l,c,hk,h1,h2=>by
  have hns:=xc l
  obtain ⟨l',e⟩:=uW (l:=l) (mk:=λx c=>(eN k x.Args (w64 (w64 (c+1)+1))).bind λy=>some (y.1,⟨c,w64 (c+1),y.2⟩)) (sz:=mE) (c:=c) (λx hx c h1 h2=>by
   have hmm:=Bo hx
   obtain ⟨o,n,a⟩:=x
   simp only [mE,Expr.n] at h2 hmm ⊢
   rw [jX (x:=c+1) (by omega) (by omega),jX (x:=c+1+1) (by omega) (by omega)]
   obtain ⟨r,e⟩:=ri k (l:=a) (c:=c+1+1) (by omega) (by omega) (by omega)
   rw [e]
   exact ⟨_,by rw [ob9]; congr 2; simp only; omega⟩) h1 (by rw [yO]; exact h2)
  rw [yO] at e
  refine ⟨l',?_⟩
  show gz k (eN k) l c=_
  unfold gz
  rw [pG (f:=fE (eN k)) _ (λc l i hi k' x' hm hlen=>?_) (λk l=>?_) (by omega) e]
  ·rfl
  ·unfold fE
   rw [a9 (by simpa using hi)]
   simp only [gF hi,ob9,mg (show i<=9223372036854775806 by omega),Int.toNat_natCast] at hm ⊢
   obtain ⟨y,e1,e2⟩:=Option.bind_eq_some_iff.1 hm
   rw [e1]
   simp only [Option.some.injEq,Prod.mk.injEq] at e2
   obtain ⟨rfl,rfl⟩:=e2
   rfl
  ·unfold fE
   rw [aj (by simp)]
theorem Ci {c:Int} (h1:1<=c) (h2:c<=1000000000000):w64 (w64 (w64 (w64 (w64 (c+1)+1)+1)+1)+1)=c+5:=by
 rw [jX (x:=c+1) (by omega) (by omega),jX (x:=c+1+1) (by omega) (by omega),jX (x:=c+1+1+1) (by omega) (by omega),jX (x:=c+1+1+1+1) (by omega) (by omega),jX (x:=c+1+1+1+1+1) (by omega) (by omega)]
 omega
theorem n6:∀ (k:Nat) {l:List ae} {c:Int},ae.ns l+2<=k->1<=c->c+(5*ae.ns l:Nat)<=1000000000000->∃ m:Nat,m<=5*ae.ns l/\∃ r,eO k l c=some (c+m,r)
 | 0,l,c,hk,_,_=>by omega
 | k+1,l,c,hk,h1,h2=>by
  have hns:=xd l
  show ∃ m:Nat,m<=5*ae.ns l/\∃ r,gA k (eO k) l c=some (c+m,r)
  unfold gA
  have key:∀ (xs pre:List ae) (c:Int),ae.ns xs+1<=k->1<=c->c+(5*ae.ns xs:Nat)<=1000000000000->(pre++xs).length<=1000000000000->∃ m:Nat,m<=5*ae.ns xs/\∃ r,aB (dz (eO k) k) (c,(pre.length:Int),pre++xs)=some (c+m,r):=by
   intro xs
   induction xs with
   | nil =>
    intro pre c hk h1 h2 hl
    refine ⟨0,by simp,pre,?_⟩
    rw [bn,List.append_nil]
    unfold dz
    rw [aj (by simp)]
    simp
   | cons x xs ih =>
    intro pre c hk h1 h2 hl
    have hlt:pre.length<(pre++x::xs).length:=by simp
    have hg:nth (pre++x::xs) (pre.length:Int)=some x:=by rw [gF hlt]; simp
    obtain ⟨kd,v,bx,⟨o,n,a⟩,s,t⟩:=x
    simp only [ae.ns,ae.n,Expr.n] at hk h2
    obtain ⟨r1,e1⟩:=ri k (l:=a) (c:=c+5) (by omega) (by omega) (by omega)
    obtain ⟨m2,b2,r2,e2⟩:=n6 k (l:=s) (c:=c+5+(2*Expr.ns a:Nat)) (by omega) (by omega) (by omega)
    obtain ⟨m3,b3,r3,e3⟩:=n6 k (l:=t) (c:=c+5+(2*Expr.ns a:Nat)+m2) (by omega) (by omega) (by omega)
    have hs:∃ y,dz (eO k) k (c,(pre.length:Int),pre++⟨kd,v,bx,⟨o,n,a⟩,s,t⟩::xs)=some (.inl (c+5+(2*Expr.ns a:Nat)+m2+m3,((pre.length+1:Nat):Int),pre++y::xs)):=by
     unfold dz
     rw [a9 (by simp; omega)]
     simp only [hg,ob9,Int.toNat_natCast,Ci h1 (show c<=1000000000000 by omega),e1,e2,e3]
     rw [mg (by simp at hl ⊢; omega)]
     simp only [List.set_append_right _ _ (Nat.le_refl _),Nat.sub_self,List.set_cons_zero]
     exact ⟨_,rfl⟩
    obtain ⟨y,hs⟩:=hs
    rw [bn,hs]
    obtain ⟨m,b,r,e⟩:=ih (pre++[y]) (c+5+(2*Expr.ns a:Nat)+m2+m3) (by omega) (by omega) (by omega) (by simpa using hl)
    rw [List.length_append,List.length_singleton,List.append_assoc,List.singleton_append] at e
    refine ⟨5+2*Expr.ns a+m2+m3+m,by simp only [ae.ns,ae.n,Expr.n]; omega,r,?_⟩
    simp only [e]
    congr 2
    omega
  obtain ⟨m,b,r,e⟩:=key l [] c (by omega) h1 h2 (by simp; omega)
  refine ⟨m,b,r,?_⟩
  rw [show ((([]:List ae).length:Nat):Int)=0 from rfl,List.nil_append] at e
  rw [e]
  rfl
theorem vO {k:Nat} {l:List (List ae)} {c:Int} (hk:∀ x∈l,ae.ns x+2<=k) (h1:1<=c) (h2:c+(5*nt ae.ns l:Nat)<=1000000000000) (hl:l.length<=1048576):∃ m:Nat,m<=5*nt ae.ns l/\∃ r,il k l c=some (c+m,r):=by
 have key:∀ (xs pre:List (List ae)) (c:Int),(∀ x∈xs,ae.ns x+2<=k)->1<=c->c+(5*nt ae.ns xs:Nat)<=1000000000000->(pre++xs).length<=1048576->∃ m:Nat,m<=5*nt ae.ns xs/\∃ r,aB (de k) (c,(pre.length:Int),pre++xs)=some (c+m,r):=by
  intro xs
  induction xs with
  | nil =>
   intro pre c hk h1 h2 hl
   refine ⟨0,by simp,pre,?_⟩
   rw [bn,List.append_nil]
   unfold de
   rw [aj (by simp)]
   simp
  | cons x xs ih =>
   intro pre c hk h1 h2 hl
   have hlt:pre.length<(pre++x::xs).length:=by simp
   have hg:nth (pre++x::xs) (pre.length:Int)=some x:=by rw [gF hlt]; simp
   simp only [nt] at h2
   obtain ⟨m2,b2,r2,e2⟩:=n6 k (l:=x) (c:=c) (hk x (by simp)) h1 (by omega)
   rw [bn,show de k (c,(pre.length:Int),pre++x::xs)=some (.inl (c+m2,((pre.length+1:Nat):Int),pre++r2::xs)) by
    unfold de
    rw [a9 (by simp; omega)]
    simp only [hg,ob9,Int.toNat_natCast,e2]
    rw [mg (by simp at hl ⊢; omega)]
    simp only [List.set_append_right _ _ (Nat.le_refl _),Nat.sub_self,List.set_cons_zero]]
   obtain ⟨m,b,r,e⟩:=ih (pre++[r2]) (c+m2) (λy hy=>hk y (by simp [hy])) (by omega) (by omega) (by simpa using hl)
   rw [List.length_append,List.length_singleton,List.append_assoc,List.singleton_append] at e
   refine ⟨m2+m,by simp only [nt]; omega,r,?_⟩
   simp only [e]
   congr 2
   omega
 obtain ⟨m,b,r,e⟩:=key l [] c hk h1 h2 (by simpa using hl)
 refine ⟨m,b,r,?_⟩
 unfold il
 rw [show ((([]:List (List ae)).length:Nat):Int)=0 from rfl,List.nil_append] at e
 rw [e]
 rfl
def aN.ok (p:aN):Prop:=p.Rooms.length<=maxLen/\p.Tasks.length<=maxLen/\∀ x∈p.Tasks,x.length<=maxLen/\aq.oks x
def aN.n (p:aN):Nat:=p.Rooms.length+aq.nss p.Tasks
def aN.fuel (p:aN):Nat:=2*nt aq.ns p.Tasks+20
def aN.to (p:aN):aJ:=⟨p.Rooms,p.Tasks.map aq.tos⟩
theorem rj {p:aN} {k:Nat} (hk:p.fuel<=k):∀ x∈p.Tasks,2*aq.ns x+20<=k:=λx hx=>by
 have:=n3 (n:=aq.ns) hx
 unfold aN.fuel at hk
 omega
theorem xe {p:aN} {k:Nat} (hk:p.fuel<=k) (ho:p.ok):jd k p 1048576=some (lft 1048576 p.n):=by
 unfold jd aN.n
 rw [Ah ho.1 (by omega) (by omega),ob9]
 by_cases h:(1048576:Int)-p.Rooms.length<0
 ·rw [mL h,mL (by omega)]; rfl
 rw [oh h,aj (by simpa using h),yh (λx hx=>by have:=rj hk x hx; omega) ho.2.1 ho.2.2 (by omega) (by omega),ob9]
 by_cases h2:(1048576:Int)-p.Rooms.length-aq.nss p.Tasks<0
 ·rw [mL h2,mL (by omega)]; rfl
 rw [oh h2,aj (by simpa using h2),oh (by omega)]
 congr 1
 omega
theorem xf {p:aN} {k:Nat} (hk:p.fuel<=k) (hn:p.n<=1048576):du k p=some p.to:=by
 unfold aN.n at hn
 unfold du
 rw [Ai _ (by omega),ob9,yi (λx hx=>by have:=rj hk x hx; omega) (by omega)]
 rfl
theorem uf {p:aN} {x:List ae} (h:x∈p.to.Tasks):∃ y∈p.Tasks,ae.ns x=aq.ns y:=by
 obtain ⟨y,hy,rfl⟩:=List.mem_map.1 h
 exact ⟨y,hy,uZ y⟩
theorem Bp {α β:Type} (f:α->β) (n:β->Nat) (m:α->Nat) (h:∀ x,n (f x)=m x):∀ l:List α,nt n (l.map f)=nt m l
 | []=>rfl
 | x::r=>by simp only [List.map_cons,nt,h,Bp f n m h r]
theorem Dh {p:aN} (hn:p.n<=1048576):PB p.to:=by
 unfold aN.n aq.nss at hn
 refine ⟨by show p.Rooms.length<=_; omega,λl hl=>?_,by show (p.Tasks.map aq.tos).length<=_; simp; omega⟩
 obtain ⟨y,hy,e⟩:=uf hl
 have:=n3 (n:=aq.ns) hy
 have:=zG l
 omega
theorem xg {p:aN} {k:Nat} (hk:p.fuel<=k) (hn:p.n<=1048576):jk k p.to p.to=some true:=by
 unfold aN.n aq.nss at hn
 unfold jk
 rw [Aj _ (by show p.Rooms.length<=_; omega),ob9,aj (show (!true)=false from rfl),yj (λx hx=>?_) (by show (p.Tasks.map aq.tos).length<=_; simp; omega) λx hx=>?_]
 ·rfl
 ·obtain ⟨y,hy,e⟩:=uf hx
  have:=rj hk y hy
  omega
 ·obtain ⟨y,hy,e⟩:=uf hx
  have:=n3 (n:=aq.ns) hy
  omega
theorem u9 {p:aN} {k:Nat} (hk:p.fuel<=k) (hn:p.n<=1048576):∃ m r,gB k p.to 1=some (m,r)/\0<=m:=by
 unfold aN.n aq.nss at hn
 unfold gB
 have hl:p.to.Rooms.length<=1048576:=by show p.Rooms.length<=_; omega
 have hnt:nt ae.ns p.to.Tasks=nt aq.ns p.Tasks:=Bp aq.tos ae.ns aq.ns uZ p.Tasks
 obtain ⟨r1,e1⟩:=ye (l:=p.to.Rooms) (c:=1) hl (by omega) (by omega)
 obtain ⟨m,hm,r2,e2⟩:=vO (k:=k) (l:=p.to.Tasks) (c:=1+p.to.Rooms.length) (λx hx=>by
  obtain ⟨y,hy,e⟩:=uf hx
  have:=rj hk y hy
  omega) (by omega) (by omega) (by show (p.Tasks.map aq.tos).length<=_; simp; omega)
 rw [e1,ob9]
 simp only [e2,ob9]
 exact ⟨_,_,rfl,by omega⟩
end
end Go.Proofs.YtmjebmhcbnkojaaGreat.N
namespace Go.Proofs.YtmjebmhcbnkojaaGreat.X
noncomputable section
variable {P:Program} {w:World} {T:Nat->Prop} {t e:TypeId} {size:Nat} {k:IntKind} {α:Type} {enc:α->D} {H:Type} {en:TypeId×Value->H} {base:Nat} {spare:Nat->Bool} {held:Bool}
def qJ (P:Program) (t:TypeId):Option (List TypeId):=match P.underlying t with
 | some (.struct fs)=>some (fs.toList.map (·.type))
 | _=>none
mutual
def Typ (P:Program):D->TypeId->Prop
 | .int k n,t=>P.underlying t=some (.int k)/\(Lit.int k n).wf=true
 | .bool _,t=>P.underlying t=some .bool
 | .str s,t=>P.underlying t=some .string/\s.size<=maxLen
 | .row e size xs,t=>P.underlying t=some (.slice e)/\size=P.cellsOf e/\vP P xs e
 | .agg xs,t=>∃ ts,qJ P t=some ts/\xh P xs ts
def vP (P:Program):List D->TypeId->Prop
 | [],_=>True
 | x::xs,e=>Typ P x e/\vP P xs e
def xh (P:Program):List D->List TypeId->Prop
 | [],[]=>True
 | x::xs,t::ts=>Typ P x t/\xh P xs ts
 | _,_=>False
end
def vb (P:Program):List Field->Nat->Option Nat
 | [],k=>some k
 | f::r,k=>match Nat.beq f.offset k with
  | true=>vb P r (k+P.cellsOf f.type)
  | false=>none
def okT (P:Program) (ts:List TypeId) (t:TypeId):Bool:=match P.underlying t with
 | some (.int _) | some .bool | some .string=>Nat.beq (P.cellsOf t) 1
 | some (.slice e)=>Nat.beq (P.cellsOf t) 1&&ts.contains e&&!(Nat.beq (P.cellsOf e) 0)
 | some (.struct fs)=>(match vb P fs.toList 0 with
  | some n=>Nat.beq n (P.cellsOf t)
  | none=>false)&&fs.toList.all (λf=>ts.contains f.type)
 | _=>false
theorem D.rd_length:∀ {d:D} {cs:List Value},D.rd w d T cs->cs.length=d.sz
 | .int _ _,_,h=>by simp only [D.rd] at h; subst h; rfl
 | .bool _,_,h=>by simp only [D.rd] at h; subst h; rfl
 | .str _,_,h=>by simp only [D.rd] at h; subst h; rfl
 | .row _ _ _,_,⟨A,cap,c,h1,_⟩=>by subst h1; rfl
 | .agg xs,_,h=>by simp only [D.sz]; exact uq (xs:=xs) h
theorem vP.append:∀ {xs ys:List D},vP P xs e->vP P ys e->vP P (xs++ys) e
 | [],_,_,h=>h
 | x::xs,_,⟨h1,h2⟩,h=>⟨h1,vP.append h2 h⟩
theorem yk {a:Addr} {v:Value} (h:w.cell? a=some v):Old No w a.block:=⟨World.block_lt_of_cell? w a h,id⟩
theorem Bq {ts:List TypeId} (hts:ts.all (okT P ts)=true):∀ {fuel:Nat} {t:TypeId} {cs:List Value} {x:DataW H×List MemPlace},t∈ts->DataW.trod en P w base spare held fuel t cs=some x->∃ d,Typ P d t/\D.rd w d (Old No w) cs/\d.sz=P.cellsOf t:=by
 intro fuel
 induction fuel with
 | zero=>intro t cs x _ h; simp [DataW.trod] at h
 | succ fuel ih =>
  intro t cs x ht h
  have hok:=List.all_eq_true.1 hts t ht
  unfold okT at hok
  split at hok
  ·rename_i k hu
   obtain ⟨n,rfl,_,hw⟩:=DataW.trod_int hu h
   exact ⟨.int k n,⟨hu,hw⟩,rfl,(Nat.eq_of_beq_eq_true hok).symm⟩
  ·rename_i hu
   obtain ⟨b,rfl,_⟩:=DataW.trod_bool hu h
   exact ⟨.bool b,hu,rfl,(Nat.eq_of_beq_eq_true hok).symm⟩
  ·rename_i hu
   obtain ⟨s,rfl,_,hs⟩:=DataW.trod_string hu h
   exact ⟨.str s,⟨hu,hs⟩,rfl,(Nat.eq_of_beq_eq_true hok).symm⟩
  ·rename_i e hu
   simp only [Bool.and_eq_true,Bool.not_eq_true'] at hok
   obtain ⟨⟨h1,h2⟩,h3⟩:=hok
   have he:e∈ts:=by simpa using h2
   have h0:P.cellsOf e≠0:=by intro h0; rw [h0] at h3; cases h3
   have hc1:=(Nat.eq_of_beq_eq_true h1).symm
   rcases DataW.trod_slice hu h with ⟨rfl,_⟩ | ⟨a,len,cap,elems,rest,n,hn,rfl,_,hb,hl,hm,hlen,hel,_,_⟩
   ·exact ⟨.row e (P.cellsOf e) [],⟨hu,rfl,trivial⟩,⟨none,0,[],rfl,Nat.le_refl _,Nat.zero_le _,by simp,λh=>absurd rfl h,rfl⟩,hc1⟩
   ·obtain rfl:fuel=n:=by omega
    have key:∀ m,m<=len->∃ ds c,ds.length=m/\vP P ds e/\(∀ x∈ds,x.sz=P.cellsOf e)/\D.rds w ds (Old No w) c/\c.length=m*P.cellsOf e/\∀ j u,c[j]?=some u->w.cell? (a.add j)=some u:=by
     intro m
     induction m with
     | zero=>intro _; exact ⟨[],[],rfl,trivial,by simp,rfl,by simp,by simp⟩
     | succ m ihm =>
      intro hle
      obtain ⟨ds,c,k1,k2,k3,k4,k5,k6⟩:=ihm (by omega)
      have hi:=hel m (by omega)
      have hs:∃ y,elems[m]?=some y:=⟨_,List.getElem?_eq_getElem (by omega)⟩
      obtain ⟨y,hy⟩:=hs
      rw [hy,Option.bind_eq_some_iff] at hi
      obtain ⟨ci,hci,hyi⟩:=hi
      obtain ⟨d,g1,g2,g3⟩:=ih he hyi
      obtain ⟨_,q2,q3⟩:=World.cells?_some hci
      refine ⟨ds++[d],c++ci,by simp [k1],k2.append ⟨g1,trivial⟩,λx hx=>?_,wC k4 ⟨ci,[],by simp,D.rd_length g2,g2,rfl⟩,by rw [List.length_append,k5,q2,Nat.add_mul]; omega,λj u hj=>?_⟩
      ·rcases List.mem_append.1 hx with hx | hx
       ·exact k3 x hx
       ·rw [List.mem_singleton.1 hx]; exact g3
      ·rcases Nat.lt_or_ge j c.length with hj' | hj'
       ·rw [List.getElem?_append_left hj'] at hj; exact k6 j u hj
       ·rw [List.getElem?_append_right hj'] at hj
        have hlt:j-c.length<P.cellsOf e:=by
         rcases Nat.lt_or_ge (j-c.length) ci.length with h | h
         ·omega
         ·rw [List.getElem?_eq_none h] at hj; cases hj
        have:=q3 _ hlt
        rw [hj,Addr.add_add,<-k5] at this
        rw [show c.length+(j-c.length)=j by omega] at this
        exact this
    obtain ⟨ds,c,k1,k2,k3,k4,k5,k6⟩:=key len (Nat.le_refl _)
    refine ⟨.row e (P.cellsOf e) ds,⟨hu,rfl,k2⟩,⟨some a,cap,c,by rw [k1],by omega,by omega,k3,λhne=>⟨a,rfl,?_,k6⟩,k4⟩,hc1⟩
    have hpos:0<c.length:=by
     rw [k5,<-k1]
     exact Nat.mul_pos (List.length_pos_iff.2 hne) (by omega)
    have h6:=k6 0 _ (List.getElem?_eq_getElem hpos)
    simp only [Addr.add,if_true] at h6
    exact yk h6
  ·rename_i fs hu
   simp only [Bool.and_eq_true] at hok
   obtain ⟨h1,h2⟩:=hok
   split at h1
   ·rename_i tot hcg
    obtain rfl:=Nat.eq_of_beq_eq_true h1
    obtain ⟨xs,n,hn,_,hlen,hxl,hf⟩:=DataW.trod_struct hu h
    obtain rfl:fuel=n:=by omega
    have key:∀ (gs:List Field) (o:Nat),(∀ f∈gs,f.type∈ts/\∃ y,DataW.trod en P w base spare held fuel f.type ((cs.drop f.offset).take (P.cellsOf f.type))=some y)->vb P gs o=some (P.cellsOf t) ->
      ∃ ds,xh P ds (gs.map (·.type))/\D.rds w ds (Old No w) (cs.drop o)/\o+D.szs ds=P.cellsOf t:=by
     intro gs
     induction gs with
     | nil =>
      intro o _ hc
      simp only [vb,Option.some.injEq] at hc
      subst hc
      exact ⟨[],trivial,by rw [<-hlen,List.drop_length]; rfl,rfl⟩
     | cons f gs ihg =>
      intro o hall hc
      simp only [vb] at hc
      split at hc
      ·rename_i ho
       have ho':=Nat.eq_of_beq_eq_true ho
       obtain ⟨hft,y,hy⟩:=hall f (by simp)
       obtain ⟨d,g1,g2,g3⟩:=ih hft hy
       obtain ⟨ds,q1,q2,q3⟩:=ihg _ (λg hg=>hall g (by simp [hg])) hc
       rw [ho'] at g2
       refine ⟨d::ds,⟨g1,q1⟩,⟨_,_,?_,D.rd_length g2,g2,q2⟩,?_⟩
       ·rw [<-List.drop_drop,List.take_append_drop]
       ·simp only [D.szs,g3]; omega
      ·cases hc
    obtain ⟨ds,q1,q2,q3⟩:=key fs.toList 0 (λf hf'=>⟨by have:=List.all_eq_true.1 h2 f hf'; simpa using this,by
      obtain ⟨i,hi⟩:=List.getElem?_of_mem hf'
      have hi':fs[i]?=some f:=by simpa using hi
      have hlt:i<xs.length:=by
       have:=(List.getElem?_eq_some_iff.1 hi).1
       rw [hxl]
       simpa using this
      exact ⟨_,(hf i f hi').trans (List.getElem?_eq_getElem hlt)⟩⟩) hcg
    exact ⟨.agg ds,⟨_,by simp only [qJ,hu],q1⟩,q2,by simp only [D.sz]; omega⟩
   ·cases h1
  ·cases hok
def Dec (P:Program) (t:TypeId) (enc:α->D) (Wf:α->Prop):Prop:=∀ d,Typ P d t->∃ x,d=enc x/\Wf x
theorem Dec.int (hu:P.underlying t=some (.int k)):Dec P t (D.int k) (λn=>(Lit.int k n).wf=true):=by
 intro d h
 cases d with
 | int k' n =>
  obtain ⟨h1,h2⟩:=h
  rw [hu] at h1
  injection h1 with h1
  injection h1 with h1
  subst h1
  exact ⟨n,rfl,h2⟩
 | bool b=>rw [show P.underlying t=some .bool from h] at hu; cases hu
 | str s=>rw [show P.underlying t=some .string from h.1] at hu; cases hu
 | row e s xs=>rw [h.1] at hu; cases hu
 | agg xs=>obtain ⟨ts,h1,_⟩:=h; simp [qJ,hu] at h1
theorem Dec.bool (hu:P.underlying t=some .bool):Dec P t D.bool (λ_=>True):=by
 intro d h
 cases d with
 | bool b=>exact ⟨b,rfl,trivial⟩
 | int k' n=>rw [h.1] at hu; cases hu
 | str s=>rw [show P.underlying t=some .string from h.1] at hu; cases hu
 | row e s xs=>rw [h.1] at hu; cases hu
 | agg xs=>obtain ⟨ts,h1,_⟩:=h; simp [qJ,hu] at h1
theorem Dec.str (hu:P.underlying t=some .string):Dec P t D.str (λs=>s.size<=maxLen):=by
 intro d h
 cases d with
 | str s=>exact ⟨s,rfl,h.2⟩
 | bool b=>rw [show P.underlying t=some .bool from h] at hu; cases hu
 | int k' n=>rw [h.1] at hu; cases hu
 | row e s xs=>rw [h.1] at hu; cases hu
 | agg xs=>obtain ⟨ts,h1,_⟩:=h; simp [qJ,hu] at h1
theorem Dec.list {Wf:α->Prop} (h:Dec P e enc Wf):∀ {xs:List D},vP P xs e->∃ l:List α,xs=l.map enc/\∀ x∈l,Wf x
 | [],_=>⟨[],rfl,by simp⟩
 | d::xs,⟨h1,h2⟩=>by
  obtain ⟨x,rfl,hx⟩:=h d h1
  obtain ⟨l,rfl,hl⟩:=Dec.list h h2
  exact ⟨x::l,rfl,λy hy=>(List.mem_cons.1 hy).elim (λe=>e▸hx) (hl y)⟩
theorem Dec.slice {Wf:α->Prop} (hu:P.underlying t=some (.slice e)) (hc:P.cellsOf e=size) (h:Dec P e enc Wf):Dec P t (λ(l:List α)=>D.row e size (l.map enc)) (λl=>∀ x∈l,Wf x):=by
 intro d hd
 cases d with
 | row e' s xs =>
  obtain ⟨h1,h2,h3⟩:=hd
  rw [hu] at h1
  injection h1 with h1
  injection h1 with h1
  subst h1
  obtain ⟨l,rfl,hl⟩:=h.list h3
  exact ⟨l,by rw [h2,hc],hl⟩
 | bool b=>rw [show P.underlying t=some .bool from hd] at hu; cases hu
 | int k' n=>rw [hd.1] at hu; cases hu
 | str s=>rw [show P.underlying t=some .string from hd.1] at hu; cases hu
 | agg xs=>obtain ⟨ts,h1,_⟩:=hd; simp [qJ,hu] at h1
theorem xi {d:D} {ts:List TypeId} (hu:qJ P t=some ts) (h:Typ P d t):∃ ds,d=.agg ds/\xh P ds ts:=by
 cases d with
 | agg xs =>
  obtain ⟨ts',h1,h2⟩:=h
  rw [hu] at h1
  injection h1 with h1
  subst h1
  exact ⟨xs,rfl,h2⟩
 | bool b=>simp [qJ,show P.underlying t=some .bool from h] at hu
 | int k' n=>simp [qJ,h.1] at hu
 | str s=>simp [qJ,show P.underlying t=some .string from h.1] at hu
 | row e s xs=>simp [qJ,h.1] at hu
theorem my {ds:List D} {ts:List TypeId} {Wf:α->Prop} (hd:Dec P t enc Wf) (h:xh P ds (t::ts)):∃ x ds',ds=enc x::ds'/\Wf x/\xh P ds' ts:=by
 cases ds with
 | nil=>exact h.elim
 | cons d ds =>
  obtain ⟨x,rfl,hx⟩:=hd d h.1
  exact ⟨x,ds,rfl,hx,h.2⟩
theorem xj {ds:List D} (h:xh P ds []):ds=[]:=by
 cases ds with
 | nil=>rfl
 | cons d ds=>exact h.elim
theorem RV.le {v:Value} {l:List α} (h:RV w T v e size enc l):l.length<=maxLen:=by
 obtain ⟨A,c,rfl⟩:=h.shape
 exact Rd.lt h
end
noncomputable section
variable {P:Program} {w:World} {T:Nat->Prop} {t e:TypeId} {size:Nat} {k:IntKind} {α:Type} {H:Type} {en:TypeId×Value->H} {base:Nat} {spare:Nat->Bool} {held:Bool}
theorem zH {d:D}:∀ {xs:List D} {cs:List Value},D.rds w xs T cs->d∈xs->∃ c1,D.rd w d T c1
 | [],_,_,h=>by cases h
 | x::xs,cs,⟨c1,c2,_,_,h1,h2⟩,h=>by
  rcases List.mem_cons.1 h with h | h
  ·subst h; exact ⟨c1,h1⟩
  ·exact zH h2 h
end
end Go.Proofs.YtmjebmhcbnkojaaGreat.X
namespace Go.Proofs.YtmjebmhcbnkojaaGreat.N
open Go.Proofs.YtmjebmhcbnkojaaGreat.X
noncomputable section
variable {w:World} {T:Nat->Prop}
mutual
theorem Cj:∀ {e:ax} {cs:List Value},D.rd w (gS e) T cs->ax.ok e
 | ⟨o,n,a⟩,cs,h=>by
  simp only [gS] at h
  obtain ⟨_,_,_,_,_,_,_,_,_,_,_,_,_,_,h,_⟩:=h
  obtain ⟨_,_,_,_,_,h3,_,_,h6⟩:=h
  exact ⟨by rw [oL,List.length_map] at h3; exact h3,Br h6⟩
theorem Br:∀ {l:List ax} {cs:List Value},D.rds w (q8 l) T cs->ax.oks l
 | [],_,_=>trivial
 | x::r,_,⟨_,_,_,_,h1,h2⟩=>⟨Cj h1,Br h2⟩
end
mutual
theorem CP:∀ {e:aq} {cs:List Value},D.rd w (cB e) T cs->aq.ok e
 | ⟨k,v,b,e,s,t⟩,cs,h=>by
  simp only [cB] at h
  obtain ⟨_,_,_,_,_,_,_,_,_,_,_,_,_,_,_,_,_,_,_,he,_,_,_,_,hs,_,_,_,_,ht,_⟩:=h
  obtain ⟨_,_,_,_,_,h3,_,_,h6⟩:=hs
  obtain ⟨_,_,_,_,_,k3,_,_,k6⟩:=ht
  rw [nq,List.length_map] at h3 k3
  exact ⟨Cj he,⟨h3,ug h6⟩,k3,ug k6⟩
theorem ug:∀ {l:List aq} {cs:List Value},D.rds w (pD l) T cs->aq.oks l
 | [],_,_=>trivial
 | x::r,_,⟨_,_,_,_,h1,h2⟩=>⟨CP h1,ug h2⟩
end
theorem Bt {v:Value} {e size e2 s2:Nat} {q:List (List aq)} (h:RV w T v e size (λ(l:List aq)=>D.row e2 s2 (l.map cB)) q):q.length<=maxLen/\∀ x∈q,x.length<=maxLen/\aq.oks x:=by
 refine ⟨h.le,λx hx=>?_⟩
 obtain ⟨A',cap,cs,e1,e2,e3,e4,e5,e6⟩:=h
 obtain ⟨c1,A1,cap1,cs1,_,_,h3,_,_,h6⟩:=zH e6 (List.mem_map_of_mem hx)
 exact ⟨by simpa using h3,ug (by rw [nq]; exact h6)⟩
theorem B5 {v u:Value} {e size e1 s1 e2 s2:Nat} {p:aN} (hr:RV w T v e1 s1 (D.int .i64) p.Rooms) (h:RV w T u e size (λ(l:List aq)=>D.row e2 s2 (l.map cB)) p.Tasks):p.ok:=⟨hr.le,Bt h⟩
theorem An (x:ab):mt x x=some true:=by unfold mt; simp [sel]
theorem yP (l:List ab) (h:l.length<=1048576):lq l l=some true:=by
 unfold lq
 rw [aj (by simp)]
 have e:aB (ig l l) 0=some (.inr ()):=pE (l:=l) (by omega) (λi hi=>by
  unfold ig
  rw [a9 (by simpa using hi)]
  simp only [gF hi,ob9,An]
  rfl) (by
  unfold ig
  rw [aj (by simp)])
 rw [e]
 rfl
theorem yl (l:List (List ab)) (h:l.length<=1048576) (h2:∀ x∈l,x.length<=1048576):f0 l l=some true:=by
 unfold f0
 rw [aj (by simp)]
 have e:aB (gw l l) 0=some (.inr ()):=pE (l:=l) (by omega) (λi hi=>by
  unfold gw
  rw [a9 (by simpa using hi)]
  simp only [gF hi,ob9,yP _ (h2 _ (List.getElem_mem hi))]
  rfl) (by
  unfold gw
  rw [aj (by simp)])
 rw [e]
 rfl
def MkQ:ab->Int->Option (Int×ab):=λ_ k=>some (w64 (w64 (w64 (w64 (w64 (k+1)+1)+1)+1)+1),⟨k,w64 (k+1),w64 (w64 (k+1)+1),w64 (w64 (w64 (k+1)+1)+1),w64 (w64 (w64 (w64 (k+1)+1)+1)+1)⟩)
def HdQ:ab->Int->Int->Prop:=λx k k'=>MkQ x k=some (k',x)
theorem mhQ:MH MkQ HdQ (λ_=>5):=λx k h1 h2=>by
 have h2':k+5<=1000000000000:=h2
 have e:=Ci h1 (show k<=1000000000000 by omega)
 exact ⟨⟨k,w64 (k+1),w64 (w64 (k+1)+1),w64 (w64 (w64 (k+1)+1)+1),w64 (w64 (w64 (w64 (k+1)+1)+1)+1)⟩,by unfold MkQ; rw [e]; rfl,by unfold HdQ MkQ; rw [e]; rfl⟩
theorem vd:∀ (l:List ab),szs (λ_=>5) l=5*l.length
 | []=>rfl
 | x::xs=>by simp only [szs,vd xs,List.length_cons]; omega
def Di:List ab->Int->Int->Prop:=λl k k'=>gD l k=some k'/\0<=k'
theorem Dz:MH gC Di (λl=>5*l.length):=λl k h1 h2=>by
 have h2':k+(5*l.length:Nat)<=1000000000000:=h2
 obtain ⟨l',k1,k2,k3⟩:=mhQ.list l k h1 (by rw [vd]; exact h2')
 rw [vd] at k1 k2
 refine ⟨l',?_,?_,by show (0:Int)<=k+(5*l.length:Nat); omega⟩
 ·unfold gC
  rw [pG (f:=fF) MkQ (λk l i hi k' x' hm hlen=>?_) (λk l=>?_) (by omega) k1]
  ·rfl
  ·simp only [MkQ,Option.some.injEq,Prod.mk.injEq] at hm
   obtain ⟨rfl,rfl⟩:=hm
   unfold fF
   rw [a9 (by simpa using hi)]
   simp only [gF hi,wI hi,B3 hi,B4 hi,ob9,mg (show i<=9223372036854775806 by omega)]
  ·unfold fF
   rw [aj (by simp)]
 ·show gD l' k=some (k+(5*l.length:Nat))
  unfold gD
  rw [wo (f:=fG l') HdQ (by omega) (λk i hi k' hm=>?_) (λk=>?_) k2]
  ·rfl
  ·simp only [HdQ,MkQ,Option.some.injEq,Prod.mk.injEq] at hm
   obtain ⟨rfl,hm⟩:=hm
   unfold fG
   rw [a9 (by simpa using hi)]
   simp only [gF hi,ob9]
   have q1:=congrArg ab.Op hm; have q2:=congrArg ab.Dst hm; have q3:=congrArg ab.A hm; have q4:=congrArg ab.B hm; have q5:=congrArg ab.N hm
   simp only at q1 q2 q3 q4 q5
   rw [aj (by simp [<-q1]),aj (by simp [<-q2]),aj (by simp [<-q3]),aj (by simp [<-q4]),aj (by simp [<-q5]),mg (show i<=9223372036854775806 by omega)]
  ·unfold fG
   rw [aj (by simp)]
theorem Dj (l:List (List ab)) (hl:l.length<=1000000) (h2:szs (λl=>5*l.length) l<=1000000000):∃ k l',im l 1=some (k,l')/\fc l' 1=some k/\0<=k:=by
 obtain ⟨l',k1,k2,k3⟩:=Dz.list l 1 (by omega) (by omega)
 refine ⟨_,l',?_,?_,show (0:Int)<=1+szs (λl=>5*l.length) l by omega⟩
 ·unfold im
  rw [pG (f:=eP) gC (λk l i hi k' x' hm hlen=>?_) (λk l=>?_) (by omega) k1]
  ·rfl
  ·unfold eP
   rw [a9 (by simpa using hi)]
   simp only [gF hi,hm,ob9,mg (show i<=9223372036854775806 by omega)]
   simp
  ·unfold eP
   rw [aj (by simp)]
 ·unfold fc
  rw [wo (f:=eR l') Di (by omega) (λk i hi k' hm=>?_) (λk=>?_) k2]
  ·rfl
  ·obtain ⟨h1,h3⟩:=hm
   unfold eR
   rw [a9 (by simpa using hi)]
   simp only [gF hi,h1,ob9,mg (show i<=9223372036854775806 by omega)]
   rw [aj (by simpa using h3)]
  ·unfold eR
   rw [aj (by simp)]
theorem wx {p:aJ} {t:Int} (h:VP p/\0<=t/\t<=4):(p.Tasks.map (bF t)).length<=3/\(∀ c∈p.Tasks.map (bF t),c.length<=600):=by
 obtain ⟨hv,ht⟩:=h
 have hn:=hv.2.1
 refine ⟨by simpa using hn.2,λc hc=>?_⟩
 obtain ⟨l,hl,rfl⟩:=List.mem_map.1 hc
 exact (De ht.1 ht.2 hv.rooms (hv.tasks l hl)).1.max
theorem Bu {α:Type} {sz:α->Nat} {m:Nat}:∀ {l:List α},(∀ x∈l,sz x<=m)->szs sz l<=l.length*m
 | [],_=>by simp [szs]
 | x::r,h=>by
  have h1:=h x (by simp)
  have h2:=Bu (l:=r) λy hy=>h y (by simp [hy])
  simp only [szs,List.length_cons,Nat.add_mul]; omega
theorem yQ {k:Nat} (hk:20<=k) {p:aJ} (hb:PB p) (t:Int):∃ c b,cR k p t=some (c,b)/\dH k p t=some (c,b)/\c.length<=3/\∀ x∈c,x.length<=600:=by
 rcases Ag hk hb t with ⟨h,e1,e2⟩ | ⟨_,e1,e2⟩
 ·exact ⟨_,_,e1,e2,(wx h).1,(wx h).2⟩
 ·exact ⟨_,_,e1,e2,by simp,by simp⟩
theorem yR (p:aN) (t:Int) (ho:p.ok):dS p.fuel p t=some true:=by
 obtain ⟨k,ek⟩:∃ k,k=p.fuel:=⟨_,rfl⟩
 have hk:p.fuel<=k:=by omega
 have hk20:20<=k:=by unfold aN.fuel at ek; omega
 rw [<-ek]
 have ee:(aN.mk p.Rooms p.Tasks)=p:=rfl
 have e3:(aJ.mk p.to.Rooms p.to.Tasks)=p.to:=rfl
 unfold dS
 rw [ee,xe hk ho,ob9]
 by_cases hn:(1048576:Int)-p.n<0
 ·exact B2 (by rw [mL hn]; rfl) rfl
 rw [oh hn,aj (by simpa using hn)]
 have hn':p.n<=1048576:=by omega
 obtain ⟨c,b,e1,e2,hc,hx⟩:=yQ hk20 (Dh hn') t
 have he:=yl c (by omega) λx h=>by have:=hx x h; omega
 obtain ⟨m,r,em,hm⟩:=u9 hk hn'
 obtain ⟨q,c',f1,f2,f3⟩:=Dj c (by omega) (by
  have:=Bu (sz:=λ(l:List ab)=>5*l.length) (m:=3000) (l:=c) λx h=>by have:=hx x h; omega
  omega)
 have hm':decide (m<0)=false:=by simpa using hm
 have f3':decide (q<0)=false:=by simpa using f3
 have sf:∀ {x y:Option Bool},sel false x y=y:=rfl
 simp only [xf hk hn',ob9,e3,e1,e2,he,xg hk hn',em,f1,f2,hm',f3',Bool.not_true,Bool.false_or,bne_self_eq_false,sf]
end
noncomputable section
abbrev CL := Calls Tryz.prog
abbrev vi (x:Int):Value := Value.int IntKind.i64 x
abbrev RO (w:World) (h:Hd) {α:Type} := @RV α w (Old No w) (sv h)
abbrev RU (w:World) (v:Value) := Ret No w (λ_:Unit => v) λ_ => []
theorem z.{u} {α:Sort u} {a:α}:a=a := rfl
theorem zz {A S T:Nat->Prop} (h:∀ b, S b->A b/\T b):∀ b, S b->T b := λb hb => (h b hb).2
end
end Go.Proofs.YtmjebmhcbnkojaaGreat.N
namespace Go.Proofs.YtmjebmhcbnkojaaGreat.X
noncomputable section
theorem CW.g {P:Program} {n id:Nat} {ops:Array Oper} {d:Code} {E:Env} {W:World} {R:Exit->Env->World->Prop} (h:RG P n ops ops.toList E W (λE' W' => CW P n d E' W' R)):CW P n (.seq (.region id ops false) d) E W R := .seq (.region h)
variable {P:Program} {n:Nat} {ops:Array Oper} {o:Oper} {E:Env} {W:World} {v:Value} {K:Env->World->Prop} {SW:World->Prop} {k f:Nat} {ls:Array Bool}
theorem RK.tp' (i:Nat) (ho:ops[i]?=some o) (hv:pq n E o=some v) (hS:SW W) (h:RK P n ops SW k f (ls.setIfInBounds i true) (put E o.dst v) W K) (hs:(Region.noSelect ops&&Region.free .any ops ls i&&(Region.ready .any ops ls).contains i&&m5 ops k i&&!(Nat.beq i k))=true := by kernel_rfl):RK P n ops SW k (f+1) ls E W K := .tp i ho hv hS hs h
theorem RK.ts' (i:Nat) (ho:ops[i]?=some o) (hv:∀ W, SW W->fI P n E o W v W) (hS:SW W) (hg:og n o=true) (h:RK P n ops SW k f (ls.setIfInBounds i true) (put E o.dst v) W K) (hs:(Region.noSelect ops&&Region.free .any ops ls i&&(Region.ready .any ops ls).contains i&&m5 ops k i&&!(Nat.beq i k))=true := by kernel_rfl):RK P n ops SW k (f+1) ls E W K := .ts i ho hv hS hg hs h
theorem RG.qn {P:Program} {n:Nat} {ops:Array Oper} {o:Oper} {E:Env} {W:World} {v:Value} {K:Env->World->Prop} (h:pq n E o=some v) (k:K (put E o.dst v) W):RG P n ops [o] E W K := .q h (.nil k)
end
end Go.Proofs.YtmjebmhcbnkojaaGreat.X
namespace Go.Proofs.YtmjebmhcbnkojaaGreat.N
open Go.Proofs.YtmjebmhcbnkojaaGreat.X
open T Tryz
noncomputable section
def kG (F:List ae->Option (Int)):Prop:=∀ {a0:List ae} {v_0:Hd} {w:World} {r:Int} (h:F a0=some r) (q_0:RO w v_0 80 8 aL a0) , CL 116 #[sv v_0] w (RU w (.int .i64 r))
theorem tF {k:Nat} {dB:List ae->Option (Int)} (nR:kG dB):kG (ca k dB):=by
 intro a0 v_0 w r h q_0
 unfold ca at h
 refine aw func116 z z ?_
 have s:=Sep.start w
 refine .g (.qn z (.g (.qn z (.seq (.g (.qn z (.block (bv h λy1 hy1 h=>?_))))))))
 refine .via (.iter (λs1 E' W'=>ao E' [(0,(sv v_0)),(3,vi s1.1),(4,vi s1.2)]/\Sep No w W' []) (λy2 x E' W'=>x=.exit 0/\ao E' [(3,vi y2)]/\Sep No w W' []) hy1 ⟨sb z,s.to []⟩ ?_) ?_
 ·intro s1 y3 E W h hI
  obtain ⟨hE,s⟩:=hI
  refine CW.sub hE ?_
  unfold gf at h
  refine .seq (.g (.q z (.q z (.s (aD (s.keep q_0) u36 z z) z (.q z (.nil ?_))))))
  refine .cs z h ?_ ?_ <;> intro h
  ·refine .skip (.seq (.block (.rk 17 s [] T.mix ?_)))
   intro W s
   have t:=s.to []
   refine .tp' 0 z z t (.tp' 1 z z t (.tp' 2 z z t (.tp' 3 z z t (bv h λx1 hx1 h=>?_))))
   obtain ⟨k1,hd,hck1⟩:=RV.el2 q_0 hx1
   have hd1:=dx (np _) hd
   obtain ⟨k1,rfl,hd2⟩:=aY q_0 z hd1
   obtain ⟨k1,rfl,hd3⟩:=aY q_0 z hd2
   obtain ⟨k1,rfl,hd4⟩:=aY q_0 z hd3
   have hd5:=dx (f9 _) hd4
   obtain ⟨k1,rfl,hd6⟩:=aY q_0 z hd5
   obtain ⟨k1,rfl,hd7⟩:=aY q_0 z hd6
   obtain ⟨v1,k1,rfl,q1,hd8⟩:=bf q_0 hd7
   obtain ⟨v2,k1,rfl,q2,hd9⟩:=bf q_0 hd8
   obtain ⟨v3,k1,rfl,q3,hd10⟩:=bf q_0 hd9
   obtain rfl:=gc q_0 hd10
   refine .ts' 4 z (λW t=>ixv (s.keep q_0) hx1 u36 t80 z z z) t z (.ts' 5 z (λW t=>fe f80_4 z z z) t z (.ts' 6 z (λW t=>lde (hck1 _ t.agree) t36 z z z z z) t z (.tp' 9 z z t (.tp' 10 z z t (bv h λx2 hx2 h=>?_)))))
   obtain ⟨k2,hd,hck2⟩:=RV.el2 q_0 hx2
   have hd1:=dx (np _) hd
   obtain ⟨k2,rfl,hd2⟩:=aY q_0 z hd1
   obtain ⟨k2,rfl,hd3⟩:=aY q_0 z hd2
   obtain ⟨k2,rfl,hd4⟩:=aY q_0 z hd3
   have hd5:=dx (f9 _) hd4
   obtain ⟨k2,rfl,hd6⟩:=aY q_0 z hd5
   obtain ⟨k2,rfl,hd7⟩:=aY q_0 z hd6
   obtain ⟨v4,k2,rfl,q4,hd8⟩:=bf q_0 hd7
   obtain ⟨v5,k2,rfl,q5,hd9⟩:=bf q_0 hd8
   obtain ⟨v6,k2,rfl,q6,hd10⟩:=bf q_0 hd9
   obtain rfl:=gc q_0 hd10
   refine .ts' 11 z (λW t=>ixv (s.keep q_0) hx2 u36 t80 z z z) t z (.ts' 12 z (λW t=>fe f80_5 z z z) t z (.ts' 13 z (λW t=>lde (hck2 _ t.agree) t36 z z z z z) t z (bv h λy4 hy4 h=>.by1 7 z (.cO s func116 (nR hy4 (s.keep (q2 _ q_0))) z z ?_))))
   intro W s
   refine s.an [] λt=>.tp' 8 z z t (bv h λy5 hy5 h=>.by1 14 z (.cO s func116 (nR hy5 (s.keep (q6 _ q_0))) z z ?_))
   intro W s
   refine s.an [] λt=>.tp' 15 z z t (.tp' 16 z z t (.done (.region (.q z (.q z (.q z (.nil ?_)))))))
   cases h
   exact ⟨z,sb z,s.to []⟩
  refine .exit ?_
  cases h
  exact ⟨by simp,z,sb z,s.to []⟩
 intro x E W hJ
 obtain ⟨rfl,hE,s⟩:=hJ
 refine ⟨_,hE.sub,?_⟩
 obtain rfl:=o9 h
 exact .g (.q z (.qn z (.ret (aa () (rt z rn) z (s.to [])))))
theorem pd (k:Nat):kG (bW k):=by
  induction k with
  | zero=>exact by intro a0 v_0 w r h q_0; exact no h
  | succ k ih=>exact tF (k:=k) ih
theorem su {k:Nat}:kG (bW k):=(pd k)
end

end Go.Proofs.YtmjebmhcbnkojaaGreat.N
