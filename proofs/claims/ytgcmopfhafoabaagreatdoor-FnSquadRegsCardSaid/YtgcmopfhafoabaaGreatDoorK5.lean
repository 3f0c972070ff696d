/- Plain laws: the program's squad takes these steps. Plain laws: the program's crew takes these steps. Plain laws: the program's crew runs. Plain laws: mailboxes  -/
import Derived.Test.YtgcmopfhafoabaaGreatDoorK4
set_option linter.unusedVariables false
set_option linter.unusedSimpArgs false
set_option maxRecDepth 100000
set_option maxHeartbeats 4000000
namespace Go.Proofs.YtgcmopfhafoabaaGreatDoor.N
open Go.Proofs.YtgcmopfhafoabaaGreatDoor.X
noncomputable section
def mcM (m:Mc):al:=⟨m.1,m.2.1,m.2.2⟩
theorem yU {n t id:Nat} {d:Int} (hn:1<=n/\n<=3) (ht:t<n) (hi:id<n) (hd:1<=d/\d<=4):eT (n:Int) (t:Int) (id:Int) d=some (((nxt n t id d).1:Int),((nxt n t id d).2:Int),true):=by
 have hr:ox (w64 ((t:Int)+1)) (n:Int)=some (((t+1)%n:Nat):Int):=by
  unfold ox
  rw [aO (by omega) (by omega),if_neg (by omega),show (t:Int)+1=((t+1:Nat):Int) by omega,Int.ofNat_tmod]
 have wi:w64 ((id:Int)+1)=((id+1:Nat):Int):=by rw [aO (by omega) (by omega)]; omega
 have b4:(((((decide ((n:Int)<1)||decide ((n:Int)>3))||decide ((t:Int)<0))||decide ((t:Int)>=(n:Int)))||decide ((id:Int)<0))||decide ((id:Int)>=(n:Int)))=false:=by simp; omega
 unfold eT
 rw [wi]
 simp only [b4,sel,hr]
 unfold nxt
 rcases (by omega:d=1\/d=2\/d=3\/d=4) with rfl | rfl | rfl | rfl <;> rfl
structure SqI (s:SqS):Prop where
 l1:1<=s.ha.length
 l3:s.ha.length<=3
 t:s.t<s.ha.length
 hm:∀ m∈s.ha,MOK m.1 m.2.1 m.2.2
 bx:∀ b∈s.bx,(1<=b.Room/\b.Room<=4)/\(b.Items.length:Int)<=b.Room/\∀ x∈b.Items,Wd x
theorem yV {n:Int} {k:Nat} {x:Int} {bs:List Box} (hb:∀ b∈bs,(1<=b.Room/\b.Room<=4)/\(b.Items.length:Int)<=b.Room/\∀ x∈b.Items,Wd x) (hx:Wd x):(∀ b∈(srv n k x bs).2.2.1,(1<=b.Room/\b.Room<=4)/\(b.Items.length:Int)<=b.Room/\∀ x∈b.Items,Wd x)/\(srv n k x bs).2.1.length<=1:=by
 unfold srv
 by_cases h1:n=1
 ·rw [if_pos h1]
  cases hk:bs[k]? with
  | none=>exact ⟨hb,by simp⟩
  | some b =>
   simp only
   split
   ·exact ⟨hb,by simp⟩
   ·refine ⟨λb' hb'=>?_,by simp⟩
    rcases List.mem_or_eq_of_mem_set hb' with h | rfl
    ·exact hb b' h
    ·obtain ⟨g1,g2,g3⟩:=hb b (List.mem_of_getElem? hk)
     refine ⟨g1,by simp only [List.length_append,List.length_singleton]; omega,λv hv=>?_⟩
     rcases List.mem_append.1 hv with h | h
     ·exact g3 v h
     ·rw [List.mem_singleton.1 h]; exact hx
 ·rw [if_neg h1]
  by_cases h2:n=2
  ·rw [if_pos h2]
   cases hk:bs[k]? with
   | none=>exact ⟨hb,by simp⟩
   | some b =>
    simp only
    cases hy:b.Items with
    | nil=>exact ⟨hb,by simp⟩
    | cons y ys =>
     obtain ⟨g1,g2,g3⟩:=hb b (List.mem_of_getElem? hk)
     refine ⟨λb' hb'=>?_,by simp⟩
     rcases List.mem_or_eq_of_mem_set hb' with h | rfl
     ·exact hb b' h
     ·rw [hy] at g2 g3
      exact ⟨g1,by simp only [List.length_cons] at g2 ⊢; omega,λv hv=>g3 v (List.mem_cons_of_mem _ hv)⟩
  ·rw [if_neg h2]
   by_cases h3:n=3
   ·rw [if_pos h3]; exact ⟨hb,by simp⟩
   ·rw [if_neg h3]
    by_cases h4:n=4
    ·rw [if_pos h4]; exact ⟨hb,by simp⟩
    ·rw [if_neg h4]; exact ⟨hb,by simp⟩
theorem Au {m:Mc} {bs:List Box} {out:List Int} {n x a d y:Int} {k:Nat} {o:List Int} {bs':List Box} (hM:MOK m.1 m.2.1 m.2.2) (hp:m.2.1=0) (hn:1<=n/\n<=5) (h17:m.1[17]?=some n) (hx:m.1[10]?=some x) (h1:m.1[1]?=some a) (h11:n<=2->m.1[11]?=some (k:Int)/\k<bs.length)
  (hb:∀ b∈bs,(1<=b.Room/\b.Room<=4)/\(b.Items.length:Int)<=b.Room/\∀ x∈b.Items,Wd x) (ho:out.length<=1000000) (hs:srv n k x bs=(d,o,bs',y)):cC ⟨m.1,m.2.1,m.2.2⟩ bs out=some (d,(qE m d n a y).1,(qE m d n a y).2.1,out++o,bs'):=by
 obtain ⟨r,pc,mem⟩:=m
 simp only at hM hp h17 hx h1 h11
 subst hp
 have h32:=hM.r32
 have n17:nth r 17=some n:=d8 (k:=17) h17
 have n10:nth r 10=some x:=d8 (k:=10) hx
 have n1:nth r 1=some a:=d8 (k:=1) h1
 unfold srv at hs
 by_cases h2:n<=2
 ·obtain ⟨hk,hkl⟩:=h11 h2
  have n11:nth r 11=some (k:Int):=d8 (k:=11) hk
  have e3:(((0:Int) !=0)||(((n==1)||(n==2))&&((decide ((k:Int)<0))||(decide ((k:Int)>=(bs.length:Int))))))=false:=by
   rw [decide_eq_false (show ¬ (k:Int)<0 by omega),decide_eq_false (show ¬ (k:Int)>=(bs.length:Int) by omega)]; simp
  have nb:=cJ hkl
  obtain ⟨⟨g1,g2⟩,g3,g4⟩:=hb _ (List.getElem_mem hkl)
  have same:bs.set (Int.toNat (k:Int)) (Box.mk (bs[k]).Room (bs[k]).Items)=bs:=by
   rw [Int.toNat_natCast]; exact List.set_getElem_self hkl
  rcases (by omega:n=1\/n=2) with rfl | rfl
  ·rw [if_pos rfl,List.getElem?_eq_getElem hkl] at hs
   simp only at hs
   by_cases hroom:((bs[k]).Items.length:Int)>=(bs[k]).Room
   ·rw [if_pos hroom] at hs
    injection hs with e1 e2; injection e2 with e2 e4; injection e4 with e4 e5
    subst e1 e2 e4 e5
    have iput:ej (Box.mk (bs[k]).Room (bs[k]).Items) x=some (false,(bs[k]).Items):=by
     unfold ej
     exact ai (by simp; omega) rfl
    unfold cC
    refine aa n17 (aa n11 (ab e3 (aa (y:=.inr (3,r,0,out,bs)) (ai rfl (aa nb (aa n10 (aa iput (ai rfl ?_))))) ?_)))
    ·rw [same]
    ·rw [List.append_nil]; rfl
   ·rw [if_neg hroom] at hs
    injection hs with e1 e2; injection e2 with e2 e4; injection e4 with e4 e5
    subst e1 e2 e4 e5
    have ha2:app 8 (bs[k]).Items [x]=some ((bs[k]).Items++[x]):=dN (by simp; omega)
    have iput:ej (Box.mk (bs[k]).Room (bs[k]).Items) x=some (true,(bs[k]).Items++[x]):=by
     unfold ej
     exact ab (by simp; omega) (aa ha2 rfl)
    unfold cC
    refine aa n17 (aa n11 (ab e3 (aa (y:=.inl (1,out,r,bs.set k (Box.mk (bs[k]).Room ((bs[k]).Items++[x])))) (ai rfl (aa nb (aa n10 (aa iput (ab rfl (by simp)))))) ?_)))
    rw [List.append_nil]
    exact aa n1 rfl
  ·rw [if_neg (by omega),if_pos rfl,List.getElem?_eq_getElem hkl] at hs
   simp only at hs
   cases hys:(bs[k]).Items with
   | nil =>
    rw [hys] at hs
    injection hs with e1 e2; injection e2 with e2 e4; injection e4 with e4 e5
    subst e1 e2 e4 e5
    have itake:dQ (Box.mk (bs[k]).Room (bs[k]).Items)=some (0,false,(bs[k]).Items):=by
     unfold dQ
     exact ai (by simp [hys]) rfl
    unfold cC
    refine aa n17 (aa n11 (ab e3 (aa (y:=.inr (3,r,0,out,bs)) (ab rfl (ai rfl (aa nb (aa itake (ai rfl ?_))))) ?_)))
    ·rw [same]
    ·rw [List.append_nil]; rfl
   | cons v ys =>
    rw [hys] at hs
    simp only at hs
    injection hs with e1 e2; injection e2 with e2 e4; injection e4 with e4 e5
    subst e1 e2 e4 e5
    have hlen:(bs[k]).Items.length=ys.length+1:=by rw [hys]; rfl
    have hcut:cut (bs[k]).Items 1 ((bs[k]).Items.length:Int)=some ys:=by
     rw [hys]; unfold cut; rw [if_pos (by simp; omega)]; simp
    have h0:nth (bs[k]).Items 0=some v:=by rw [hys]; rfl
    have ha:app 8 [] ys=some ys:=(dN (by simp; omega)).trans (by simp)
    have hne0:(((bs[k]).Items.length:Int)==0)=false:=by rw [hlen]; simp; omega
    have itake:dQ (Box.mk (bs[k]).Room (bs[k]).Items)=some (v,true,ys):=by
     unfold dQ
     exact ab hne0 (aa h0 (aa hcut (aa ha rfl)))
    have hu:upd r 10 v=some (r.set 10 v):=sQ (i:=10) (by omega) v
    have hr1':nth (r.set 10 v) 1=some a:=d8 (k:=1) (by rw [List.getElem?_set_ne (by omega)]; exact h1)
    unfold cC
    refine aa n17 (aa n11 (ab e3 (aa (y:=.inl (1,out,r.set 10 v,bs.set k (Box.mk (bs[k]).Room ys))) (ab rfl (ai rfl (aa nb (aa itake (ab rfl (aa n10 (aa hu (by simp)))))))) ?_)))
    rw [List.append_nil]
    exact aa hr1' rfl
 ·rw [if_neg (by omega),if_neg (by omega)] at hs
  obtain ⟨b,n11⟩:∃ b,nth r 11=some b:=⟨_,d8 (k:=11) (List.getElem?_eq_getElem (by omega))⟩
  have e3:(((0:Int) !=0)||(((n==1)||(n==2))&&((decide (b<0))||(decide (b>=(bs.length:Int))))))=false:=by
   rw [show (n==1)=false by simp; omega,show (n==2)=false by simp; omega]; rfl
  rcases (by omega:n=3\/n=4\/n=5) with rfl | rfl | rfl
  ·rw [if_pos rfl] at hs
   injection hs with e1 e2; injection e2 with e2 e4; injection e4 with e4 e5
   subst e1 e2 e4 e5
   unfold cC
   refine aa n17 (aa n11 (ab e3 (aa (y:=.inl (2,out,r,bs)) (ab rfl (ab rfl (ai rfl rfl))) ?_)))
   rw [List.append_nil]
   exact aa n1 rfl
  ·rw [if_neg (by omega),if_pos rfl] at hs
   injection hs with e1 e2; injection e2 with e2 e4; injection e4 with e4 e5
   subst e1 e2 e4 e5
   have ha:app 8 out [x]=some (out++[x]):=dN (by simp; omega)
   unfold cC
   refine aa n17 (aa n11 (ab e3 (aa (y:=.inl (1,out++[x],r,bs)) (ab rfl (ab rfl (ab rfl (ai rfl (aa n10 (aa ha rfl)))))) ?_)))
   exact aa n1 rfl
  ·rw [if_neg (by omega),if_neg (by omega)] at hs
   injection hs with e1 e2; injection e2 with e2 e4; injection e4 with e4 e5
   subst e1 e2 e4 e5
   unfold cC
   refine aa n17 (aa n11 (ab e3 (aa (y:=.inr (4,r,0,out,bs)) (ab rfl (ab rfl (ab rfl (ab rfl (ai rfl rfl))))) ?_)))
   rw [List.append_nil]; rfl
section
variable {s s':SqS}
theorem BT (hI:SqI s) (hi:s.id<s.ha.length) (ho:s.out.length<=900000) (h:SSt s s') (T J:Int):∃ d,fD (s.t:Int) (cg.mk (s.ha.map mcM) s.bx T J s.out)=some (d,s'.ha.map mcM,s'.bx,s'.out)/\eT (s.ha.length:Int) (s.t:Int) (s.id:Int) d=some ((s'.t:Int),(s'.id:Int),true)/\SqI s'/\s'.ha.length=s.ha.length/\s'.out.length<=s.out.length+1:=by
 obtain ⟨m,hm,hc⟩:=h
 have hM:=hI.hm m (List.mem_of_getElem? hm)
 have hn:nth (s.ha.map mcM) (s.t:Int)=some (mcM m):=c7 (by rw [List.getElem?_map,hm]; rfl)
 have hmset:∀ u:Mc,(s.ha.map mcM).set (Int.toNat (s.t:Int)) (mcM u)=(s.ha.set s.t u).map mcM:=λu=>by rw [Int.toNat_natCast,List.map_set]
 rcases hc with ⟨hp,u,hu,rfl⟩ | ⟨hp,n,k,x,a,d,o,bs',y,g1,g2,g3,g4,g5,g6,rfl⟩
 ·obtain ⟨e,r,p,q,s1,s2,hM',_,_⟩:=Cs hM
  rw [hu] at s1
  injection s1 with s1; injection s1 with s1 s3; injection s3 with s3 s4; injection s4 with s4 s5
  subst s1 s3 s4 s5
  have hpc:(m.2.1==0)=false:=by simpa using hp
  refine ⟨1,?_,?_,⟨by simpa using hI.l1,by simpa using hI.l3,by simpa using hI.t,λw hw=>?_,hI.bx⟩,by simp,by simp⟩
  ·unfold fD
   refine aa hn (ab hpc (aa s2 (ai rfl ?_)))
   show some (1,(s.ha.map mcM).set (Int.toNat (s.t:Int)) (mcM (u.1,u.2.1,u.2.2)),s.bx,s.out)=_
   rw [hmset]
  ·have:=yU (d:=1) ⟨hI.l1,hI.l3⟩ hI.t hi (by omega)
   exact this
  ·rcases List.mem_or_eq_of_mem_set hw with hw | rfl
   ·exact hI.hm w hw
   ·exact hM'
 ·have hw:=yV (n:=n) (k:=k) (x:=x) hI.bx (hM.wr x (List.mem_of_getElem? g3))
  have hw2:=yT (n:=n) (k:=k) (λb hb=>(hI.bx b hb).2.2) (hM.wr x (List.mem_of_getElem? g3))
  have hd:=vI (x:=x) (bs:=s.bx) g2 (λh2=>(g5 h2).2)
  rw [g6] at hw hd hw2
  simp only at hw hd hw2
  have hcl:=Au (out:=s.out) hM hp g2 g1 g3 g4 g5 hI.bx (by omega) g6
  have hpc:(m.2.1==0)=true:=by simpa using hp
  have hmem:(qE m d n a y).2.2=m.2.2:=by unfold qE; split <;> rfl
  refine ⟨d,?_,yU ⟨hI.l1,hI.l3⟩ hI.t hi ⟨hd.1,hd.2.1⟩,⟨by simpa using hI.l1,by simpa using hI.l3,?_,λw hw'=>?_,hw.1⟩,by simp,by simpa using hw.2⟩
  ·unfold fD
   refine aa hn (ai hpc (aa hcl ?_))
   show some (d,(s.ha.map mcM).set (Int.toNat (s.t:Int)) (al.mk (qE m d n a y).1 (qE m d n a y).2.1 m.2.2),bs',s.out++o)=_
   rw [<-hmem]
   show some (d,(s.ha.map mcM).set (Int.toNat (s.t:Int)) (mcM (qE m d n a y)),bs',s.out++o)=_
   rw [hmset]
  ·simp only [List.length_set]
   unfold nxt
   have h1:=hI.l1
   have h2:=hI.t
   split
   ·exact h2
   ·split <;> exact Nat.mod_lt _ h1
  ·rcases List.mem_or_eq_of_mem_set hw' with hw' | rfl
   ·exact hI.hm w hw'
   ·unfold qE
    split
    ·have hr:(if n=2 then m.1.set 10 y else m.1).length=32:=by split <;> simp [hM.r32]
     refine ⟨hr,hM.m10,λz hz=>?_,hM.wm,hM.wr a (List.mem_of_getElem? g4)⟩
     simp only at hz
     split at hz
     ·rcases List.mem_or_eq_of_mem_set hz with hz | rfl
      ·exact hM.wr z hz
      ·exact hw2.2.1
     ·exact hM.wr z hz
    ·exact hM
theorem wR {a4:cg}:∀ {k:Nat} {s z:SqS} {j:Nat},oJ k s z->SqI s->z.id=s.ha.length->k<=j->s.out.length+j<=900000 ->
  bB (dc (s.ha.length:Int) a4) ((j:Int),(s.t:Int),(s.id:Int),s.ha.map mcM,s.bx,s.out)=some (.inr ((z.t:Int),(z.id:Int),z.ha.map mcM,z.bx,z.out))/\SqI z/\z.ha.length=s.ha.length/\z.out.length<=s.out.length+k
 | 0,s,z,j,h,hI,hr,hj,ho=>by
  obtain rfl:=h
  refine ⟨?_,hI,rfl,by omega⟩
  rw [c6]
  have:dc (s.ha.length:Int) a4 ((j:Int),(s.t:Int),(s.id:Int),s.ha.map mcM,s.bx,s.out)=some (.inr (.inr ((s.t:Int),(s.id:Int),s.ha.map mcM,s.bx,s.out))):=by
   unfold dc
   exact ab (by simp; omega) rfl
  rw [this]
 | k+1,s,z,0,h,hI,hr,hj,ho=>by omega
 | k+1,s,z,j+1,⟨h1,u,h2,h3⟩,hI,hr,hj,ho=>by
  obtain ⟨d,e1,e2,hI',hl,hol⟩:=BT hI h1 (by omega) h2 a4.Turn a4.Idle
  obtain ⟨f1,f2,f3,f4⟩:=wR (a4:=a4) (j:=j) h3 hI' (by omega) (by omega) (by omega)
  refine ⟨?_,f2,by omega,by omega⟩
  have hw:w64 (((j+1:Nat):Int)-1)=(j:Int):=by rw [aO (by omega) (by omega)]; omega
  have st:dc (s.ha.length:Int) a4 (((j+1:Nat):Int),(s.t:Int),(s.id:Int),s.ha.map mcM,s.bx,s.out)=some (.inl ((j:Int),(u.t:Int),(u.id:Int),u.ha.map mcM,u.bx,u.out)):=by
   unfold dc
   exact ai (by simp; omega) (aa e1 (aa e2 (ab rfl (by simp only [hw]))))
  rw [c6,st,<-hl]
  exact f1
end
end
noncomputable section
def thM (x:List Int×Nat):bk:=⟨x.1,(x.2:Int)⟩
theorem BU {b:Box} {x:Int} (h:(b.Items.length:Int)<=b.Room/\b.Room<=4):ej (Box.mk b.Room b.Items) x=some (if (b.Items.length:Int)>=b.Room then (false,b.Items) else (true,b.Items++[x])):=by
 unfold ej
 split
 ·rename_i hr
  exact ai (by simp; omega) rfl
 ·rename_i hr
  exact ab (by simp; omega) (aa (dN (by simp; omega)) rfl)
theorem BV {b:Box} (h:(b.Items.length:Int)<=b.Room/\b.Room<=4):dQ (Box.mk b.Room b.Items)=some (match b.Items with
  | []=>(0,false,b.Items)
  | y::ys=>(y,true,ys)):=by
 unfold dQ
 cases hy:b.Items with
 | nil=>exact ai (by simp) rfl
 | cons y ys =>
  rw [hy] at h
  have hlen:(y::ys).length=ys.length+1:=rfl
  have hcut:cut (y::ys) 1 ((y::ys).length:Int)=some ys:=by unfold cut; rw [if_pos (by simp; omega)]; simp
  have ha:app 8 [] ys=some ys:=(dN (by simp at h ⊢; omega)).trans (by simp)
  exact ab (by simp; omega) (aa (y:=y) rfl (aa hcut (aa ha rfl)))
theorem yW {n x y:Int} (hn:1<=n/\n<=12) (hx:Wd x) (hy:Wd y):∃ v,f9 n x y=some v/\Wd v:=by
 obtain ⟨k,hk,ho,hm⟩:=Dg hn
 obtain ⟨v,wv,a1,x',a2,a3⟩:=yB k hk hx hy
 rw [hm] at a2
 obtain rfl:=o9 a2
 by_cases h4:n=4
 ·subst h4
  refine ⟨if x=y then 1 else 0,ab rfl (ab rfl (ab rfl (ai rfl ?_))),by unfold Wd; split <;> omega⟩
  by_cases h:x=y
  ·subst h; rw [if_pos rfl]; simp; rfl
  ·rw [if_neg h,show (x==y)=false by simpa using h]; rfl
 ·rw [if_neg h4] at a3
  exact ⟨v,a3,wv⟩
theorem BW {eQ:List ah} {i:Nat} {ρ:List Int} {bs:List Box} {out:List Int} (hc:COk eQ) (hi:i<eQ.length) (hl:ρ.length=12) (hw:∀ x∈ρ,Wd x) (tq:∀ q∈eQ,q.Op=6\/q.Op=7->q.N<bs.length) (hb:∀ b∈bs,(1<=b.Room/\b.Room<=4)/\(b.Items.length:Int)<=b.Room/\∀ x∈b.Items,Wd x) (ho:out.length<=1000000) :
  ∃ q i' ρ' d o bs',eQ[i]?=some q/\bu ⟨ρ,(i:Int)⟩ eQ bs out=some (d,ρ',((i':Nat):Int),out++o,bs')/\TSt q i ρ bs i' ρ' d o bs'/\(1<=d/\d<=4)/\i'<eQ.length/\ρ'.length=12/\(∀ x∈ρ',Wd x)/\bs'.length=bs.length/\(∀ b∈bs',(1<=b.Room/\b.Room<=4)/\(b.Items.length:Int)<=b.Room/\∀ x∈b.Items,Wd x)/\(∀ x∈o,Wd x)/\o.length<=1:=by
 obtain ⟨q,hq⟩:∃ q,eQ[i]?=some q:=⟨_,List.getElem?_eq_getElem hi⟩
 have hQ:=hc.q q (List.mem_of_getElem? hq)
 have hmax:=hc.max
 have nq:nth eQ (i:Int)=some q:=c7 hq
 have wi:w64 ((i:Int)+1)=((i+1:Nat):Int):=by rw [aO (by omega) (by omega)]; omega
 have at_:∀ {r:Int},Rg r->∃ k x,r=((k:Nat):Int)/\k<12/\ρ[k]?=some x/\nth ρ r=some x/\Wd x:=λ{r} hr=>by
  obtain ⟨k,rfl,hk⟩:=vH hr
  obtain ⟨x,hx⟩:∃ x,ρ[k]?=some x:=⟨_,List.getElem?_eq_getElem (by omega)⟩
  exact ⟨k,x,rfl,hk,hx,d8 hx,hw x (List.mem_of_getElem? hx)⟩
 have up:∀ {k:Nat} (v:Int),k<12->upd ρ (k:Int) v=some (ρ.set k v):=λv hk=>sQ (by omega) v
 have sw:∀ {k:Nat} {v:Int},Wd v->(ρ.set k v).length=12/\∀ x∈ρ.set k v,Wd x:=λ{k v} hv=>⟨by rw [List.length_set]; exact hl,λx hx=>by
  rcases List.mem_or_eq_of_mem_set hx with h | h
  ·exact hw x h
  ·exact h▸hv⟩
 rcases (by unfold QOk at hQ; omega:q.Op=1\/q.Op=2\/q.Op=3\/q.Op=4\/q.Op=5\/q.Op=6\/q.Op=7\/q.Op=8\/q.Op=9\/q.Op=10) with h | h | h | h | h | h | h | h | h | h
 ·obtain ⟨d,x,hd,hd2,hx,hxn,_⟩:=at_ (r:=q.Dst) (by unfold QOk at hQ; unfold Rg at *; omega)
  have hN:Wd q.N:=by unfold QOk at hQ; unfold Wd at *; omega
  have hi1:=hc.nxt hq (by omega) (by omega)
  refine ⟨q,i+1,ρ.set d q.N,1,[],bs,hq,?_,.inl ⟨by omega,.inl ⟨h,rfl,by rw [hd]; rfl⟩,rfl,rfl,rfl⟩,by omega,hi1,(sw hN).1,(sw hN).2,rfl,hb,by simp,by simp⟩
  unfold bu
  rw [List.append_nil]
  exact aa nq (aa (y:=.inl (w64 ((i:Int)+1),out,ρ.set d q.N,bs)) (ai (by simp [h]) (aa hxn (aa (by rw [hd]; exact up _ hd2) rfl))) (by rw [wi]; rfl))
 ·obtain ⟨d,x,hd,hd2,hx,hxn,_⟩:=at_ (r:=q.Dst) (by unfold QOk at hQ; unfold Rg at *; omega)
  obtain ⟨a,y,ha,ha2,hy,hyn,wy⟩:=at_ (r:=q.A) (by unfold QOk at hQ; unfold Rg at *; omega)
  have hi1:=hc.nxt hq (by omega) (by omega)
  refine ⟨q,i+1,ρ.set d y,1,[],bs,hq,?_,.inl ⟨by omega,.inr (.inl ⟨h,rfl,y,by rw [ha]; exact hy,by rw [hd]; rfl⟩),rfl,rfl,rfl⟩,by omega,hi1,(sw wy).1,(sw wy).2,rfl,hb,by simp,by simp⟩
  unfold bu
  rw [List.append_nil]
  exact aa nq (aa (y:=.inl (w64 ((i:Int)+1),out,ρ.set d y,bs)) (ab (by simp [h]) (ai (by simp [h]) (aa hyn (aa hxn (aa (by rw [hd]; exact up _ hd2) rfl))))) (by rw [wi]; rfl))
 ·obtain ⟨d,x,hd,hd2,hx,hxn,_⟩:=at_ (r:=q.Dst) (by unfold QOk at hQ; unfold Rg at *; omega)
  obtain ⟨a,y,ha,ha2,hy,hyn,wy⟩:=at_ (r:=q.A) (by unfold QOk at hQ; unfold Rg at *; omega)
  obtain ⟨b,z,hb',hb2,hz,hzn,wz⟩:=at_ (r:=q.B) (by unfold QOk at hQ; unfold Rg at *; omega)
  have hn:1<=q.N/\q.N<=12:=by unfold QOk at hQ; omega
  obtain ⟨v,hv,wv⟩:=yW hn wy wz
  have hi1:=hc.nxt hq (by omega) (by omega)
  refine ⟨q,i+1,ρ.set d v,1,[],bs,hq,?_,.inl ⟨by omega,.inr (.inr (.inl ⟨h,rfl,y,z,v,by rw [ha]; exact hy,by rw [hb']; exact hz,hv,by rw [hd]; rfl⟩)),rfl,rfl,rfl⟩,by omega,hi1,(sw wv).1,(sw wv).2,rfl,hb,by simp,by simp⟩
  unfold bu
  rw [List.append_nil]
  exact aa nq (aa (y:=.inl (w64 ((i:Int)+1),out,ρ.set d v,bs)) (ab (by simp [h]) (ab (by simp [h]) (ai (by simp [h]) (aa hyn (aa hzn (aa hv (aa hxn (aa (by rw [hd]; exact up _ hd2) rfl)))))))) (by rw [wi]; rfl))
 ·have hN:0<=q.N/\q.N<eQ.length:=by unfold QOk at hQ; omega
  refine ⟨q,q.N.toNat,ρ,1,[],bs,hq,?_,.inl ⟨by omega,.inr (.inr (.inr (.inl ⟨h,rfl,rfl⟩))),rfl,rfl,rfl⟩,by omega,by omega,hl,hw,rfl,hb,by simp,by simp⟩
  unfold bu
  rw [List.append_nil,show ((q.N.toNat:Nat):Int)=q.N by omega]
  exact aa nq (aa (y:=.inl (q.N,out,ρ,bs)) (ab (by simp [h]) (ab (by simp [h]) (ab (by simp [h]) (ai (by simp [h]) rfl)))) rfl)
 ·obtain ⟨a,y,ha,ha2,hy,hyn,wy⟩:=at_ (r:=q.A) (by unfold QOk at hQ; unfold Rg at *; omega)
  have hN:0<=q.N/\q.N<eQ.length:=by unfold QOk at hQ; omega
  have hi1:=hc.nxt hq (by omega) (by omega)
  refine ⟨q,if y=0 then q.N.toNat else i+1,ρ,1,[],bs,hq,?_,.inl ⟨by omega,.inr (.inr (.inr (.inr ⟨h,rfl,y,by rw [ha]; exact hy,rfl⟩))),rfl,rfl,rfl⟩,by omega,by split <;> omega,hl,hw,rfl,hb,by simp,by simp⟩
  unfold bu
  rw [List.append_nil]
  by_cases h0:y=0
  ·rw [if_pos h0,show ((q.N.toNat:Nat):Int)=q.N by omega]
   exact aa nq (aa (y:=.inl (q.N,out,ρ,bs)) (ab (by simp [h]) (ab (by simp [h]) (ab (by simp [h]) (ab (by simp [h]) (ai (by simp [h]) (aa hyn (ai (by simpa using h0) rfl))))))) rfl)
  ·rw [if_neg h0]
   exact aa nq (aa (y:=.inl (w64 ((i:Int)+1),out,ρ,bs)) (ab (by simp [h]) (ab (by simp [h]) (ab (by simp [h]) (ab (by simp [h]) (ai (by simp [h]) (aa hyn (ab (by simpa using h0) rfl))))))) (by rw [wi]; rfl))
 ·obtain ⟨a,y,ha,ha2,hy,hyn,wy⟩:=at_ (r:=q.A) (by unfold QOk at hQ; unfold Rg at *; omega)
  obtain ⟨k,hk,hk2⟩:∃ k:Nat,q.N=(k:Int)/\k<bs.length:=⟨q.N.toNat,by unfold QOk at hQ; omega,by have:=tq q (List.mem_of_getElem? hq) (by omega); unfold QOk at hQ; omega⟩
  have hi1:=hc.nxt hq (by omega) (by omega)
  obtain ⟨g1,g2,g3⟩:=hb _ (List.getElem_mem hk2)
  have nb:nth bs q.N=some bs[k]:=by rw [hk]; exact cJ hk2
  have hput:=BU (b:=bs[k]) (x:=y) ⟨g2,g1.2⟩
  have hsrv:=yV (n:=1) (k:=k) (x:=y) hb wy
  have hwd:=yT (n:=1) (k:=k) (x:=y) (λb h=>(hb b h).2.2) wy
  have hX:(ρ[q.A.toNat]?).getD 0=y:=by rw [ha]; show (ρ[a]?).getD 0=y; rw [hy]; rfl
  have hkN:q.N.toNat=k:=by omega
  have same:bs.set (Int.toNat q.N) (Box.mk (bs[k]).Room (bs[k]).Items)=bs:=by rw [hkN]; exact List.set_getElem_self hk2
  by_cases hf:((bs[k]).Items.length:Int)>=(bs[k]).Room
  ·rw [if_pos hf] at hput
   have hs:srv 1 k y bs=(3,[],bs,0):=by unfold srv; rw [if_pos rfl,List.getElem?_eq_getElem hk2]; simp only; rw [if_pos hf]
   refine ⟨q,i,ρ,3,[],bs,hq,?_,.inr ⟨by omega,0,by rw [hX,hkN,h]; exact hs,.inr ⟨.inl rfl,rfl,rfl⟩⟩,by omega,hi,hl,hw,rfl,hb,by simp,by simp⟩
   unfold bu
   rw [List.append_nil]
   exact aa nq (aa (y:=.inr (3,ρ,(i:Int),out,bs)) (ab (by simp [h]) (ab (by simp [h]) (ab (by simp [h]) (ab (by simp [h]) (ab (by simp [h]) (ai (by simp [h]) (aa nb (aa hyn (aa hput (ai rfl (by simp only; rw [same])))))))))) ) rfl)
  ·rw [if_neg hf] at hput
   have hs:srv 1 k y bs=(1,[],bs.set k ⟨(bs[k]).Room,(bs[k]).Items++[y]⟩,0):=by unfold srv; rw [if_pos rfl,List.getElem?_eq_getElem hk2]; simp only; rw [if_neg hf]
   rw [hs] at hsrv
   refine ⟨q,i+1,ρ,1,[],bs.set k ⟨(bs[k]).Room,(bs[k]).Items++[y]⟩,hq,?_,.inr ⟨by omega,0,by rw [hX,hkN,h]; exact hs,.inl ⟨.inl rfl,rfl,by rw [if_neg (by omega)]⟩⟩,by omega,hi1,hl,hw,by rw [List.length_set],hsrv.1,by simp,by simp⟩
   unfold bu
   rw [List.append_nil]
   exact aa nq (aa (y:=.inl (w64 ((i:Int)+1),out,ρ,bs.set k ⟨(bs[k]).Room,(bs[k]).Items++[y]⟩)) (ab (by simp [h]) (ab (by simp [h]) (ab (by simp [h]) (ab (by simp [h]) (ab (by simp [h]) (ai (by simp [h]) (aa nb (aa hyn (aa hput (ab rfl (by simp only; rw [show Int.toNat q.N=k from hkN])))))))))) ) (by rw [wi]; rfl))
 ·obtain ⟨d,x,hd,hd2,hx,hxn,_⟩:=at_ (r:=q.Dst) (by unfold QOk at hQ; unfold Rg at *; omega)
  obtain ⟨k,hk,hk2⟩:∃ k:Nat,q.N=(k:Int)/\k<bs.length:=⟨q.N.toNat,by unfold QOk at hQ; omega,by have:=tq q (List.mem_of_getElem? hq) (by omega); unfold QOk at hQ; omega⟩
  have hi1:=hc.nxt hq (by omega) (by omega)
  obtain ⟨g1,g2,g3⟩:=hb _ (List.getElem_mem hk2)
  have nb:nth bs q.N=some bs[k]:=by rw [hk]; exact cJ hk2
  have htake:=BV (b:=bs[k]) ⟨g2,g1.2⟩
  have w0:Wd 0:=by unfold Wd; omega
  have hsrv:=yV (n:=2) (k:=k) (x:=(ρ[q.A.toNat]?).getD 0) hb (by
   cases e:ρ[q.A.toNat]? with
   | none=>exact w0
   | some z=>exact hw z (List.mem_of_getElem? e))
  have hkN:q.N.toNat=k:=by omega
  have same:bs.set (Int.toNat q.N) (Box.mk (bs[k]).Room (bs[k]).Items)=bs:=by rw [hkN]; exact List.set_getElem_self hk2
  cases hy:(bs[k]).Items with
  | nil =>
   rw [hy] at htake
   simp only at htake
   have hs:srv 2 k ((ρ[q.A.toNat]?).getD 0) bs=(3,[],bs,0):=by unfold srv; rw [if_neg (by omega),if_pos rfl,List.getElem?_eq_getElem hk2]; simp only; rw [hy]
   refine ⟨q,i,ρ,3,[],bs,hq,?_,.inr ⟨by omega,0,by rw [hkN,h]; exact hs,.inr ⟨.inl rfl,rfl,rfl⟩⟩,by omega,hi,hl,hw,rfl,hb,by simp,by simp⟩
   unfold bu
   rw [List.append_nil]
   rw [hy] at same
   exact aa nq (aa (y:=.inr (3,ρ,(i:Int),out,bs)) (ab (by simp [h]) (ab (by simp [h]) (ab (by simp [h]) (ab (by simp [h]) (ab (by simp [h]) (ab (by simp [h]) (ai (by simp [h]) (aa nb (aa (by rw [hy]; exact htake) (ai rfl (by simp only; rw [same]))))))))))) rfl)
  | cons v ys =>
   rw [hy] at htake
   simp only at htake
   have wv:Wd v:=g3 v (by rw [hy]; exact List.mem_cons_self ..)
   have hs:srv 2 k ((ρ[q.A.toNat]?).getD 0) bs=(1,[],bs.set k ⟨(bs[k]).Room,ys⟩,v):=by unfold srv; rw [if_neg (by omega),if_pos rfl,List.getElem?_eq_getElem hk2]; simp only; rw [hy]
   rw [hs] at hsrv
   refine ⟨q,i+1,ρ.set d v,1,[],bs.set k ⟨(bs[k]).Room,ys⟩,hq,?_,.inr ⟨by omega,v,by rw [hkN,h]; exact hs,.inl ⟨.inl rfl,rfl,by rw [if_pos h,hd]; rfl⟩⟩,by omega,hi1,(sw wv).1,(sw wv).2,by rw [List.length_set],hsrv.1,by simp,by simp⟩
   unfold bu
   rw [List.append_nil]
   exact aa nq (aa (y:=.inl (w64 ((i:Int)+1),out,ρ.set d v,bs.set k ⟨(bs[k]).Room,ys⟩)) (ab (by simp [h]) (ab (by simp [h]) (ab (by simp [h]) (ab (by simp [h]) (ab (by simp [h]) (ab (by simp [h]) (ai (by simp [h]) (aa nb (aa (by rw [hy]; exact htake) (ab rfl (aa hxn (aa (by rw [hd]; exact up _ hd2) (by simp only; rw [show Int.toNat q.N=k from hkN]))))))))))))) (by rw [wi]; rfl))
 ·have hi1:=hc.nxt hq (by omega) (by omega)
  refine ⟨q,i+1,ρ,2,[],bs,hq,?_,.inr ⟨by omega,0,by rw [h]; unfold srv; rw [if_neg (by omega),if_neg (by omega),if_pos (by omega)],.inl ⟨.inr rfl,rfl,by rw [if_neg (by omega)]⟩⟩,by omega,hi1,hl,hw,rfl,hb,by simp,by simp⟩
  unfold bu
  rw [List.append_nil]
  exact aa nq (aa (y:=.inr (2,ρ,w64 ((i:Int)+1),out,bs)) (ab (by simp [h]) (ab (by simp [h]) (ab (by simp [h]) (ab (by simp [h]) (ab (by simp [h]) (ab (by simp [h]) (ab (by simp [h]) (ai (by simp [h]) rfl)))))))) (by rw [wi]; rfl))
 ·obtain ⟨a,y,ha,ha2,hy,hyn,wy⟩:=at_ (r:=q.A) (by unfold QOk at hQ; unfold Rg at *; omega)
  have hi1:=hc.nxt hq (by omega) (by omega)
  have hX:(ρ[q.A.toNat]?).getD 0=y:=by rw [ha]; show (ρ[a]?).getD 0=y; rw [hy]; rfl
  have happ:app 8 out [y]=some (out++[y]):=dN (by simp; omega)
  refine ⟨q,i+1,ρ,1,[y],bs,hq,?_,.inr ⟨by omega,0,by rw [hX,h]; unfold srv; rw [if_neg (by omega),if_neg (by omega),if_neg (by omega),if_pos (by omega)],.inl ⟨.inl rfl,rfl,by rw [if_neg (by omega)]⟩⟩,by omega,hi1,hl,hw,rfl,hb,by simpa using wy,by simp⟩
  unfold bu
  exact aa nq (aa (y:=.inl (w64 ((i:Int)+1),out++[y],ρ,bs)) (ab (by simp [h]) (ab (by simp [h]) (ab (by simp [h]) (ab (by simp [h]) (ab (by simp [h]) (ab (by simp [h]) (ab (by simp [h]) (ab (by simp [h]) (ai (by simp [h]) (aa hyn (aa happ rfl))))))))))) (by rw [wi]; rfl))
 ·refine ⟨q,i,ρ,4,[],bs,hq,?_,.inr ⟨by omega,0,by rw [h]; unfold srv; rw [if_neg (by omega),if_neg (by omega),if_neg (by omega),if_neg (by omega)],.inr ⟨.inr rfl,rfl,rfl⟩⟩,by omega,hi,hl,hw,rfl,hb,by simp,by simp⟩
  unfold bu
  rw [List.append_nil]
  exact aa nq (aa (y:=.inr (4,ρ,(i:Int),out,bs)) (ab (by simp [h]) (ab (by simp [h]) (ab (by simp [h]) (ab (by simp [h]) (ab (by simp [h]) (ab (by simp [h]) (ab (by simp [h]) (ab (by simp [h]) (ab (by simp [h]) (ai (by simp [h]) rfl)))))))))) rfl)
end
noncomputable section
structure CrB (codes:List (List ah)) (nb:Nat) (s:CrS):Prop where
 l:s.th.length=codes.length
 l1:1<=codes.length
 l3:codes.length<=3
 ok:∀ eQ∈codes,COk eQ
 t:s.t<codes.length
 il:s.id<=codes.length
 th:∀ (j:Nat) ρ i eQ,s.th[j]?=some (ρ,i)->codes[j]?=some eQ->ρ.length=12/\(∀ x∈ρ,Wd x)/\i<eQ.length
 bl:s.bx.length=nb
 nb2:nb<=2
 bx:∀ b∈s.bx,(1<=b.Room/\b.Room<=4)/\(b.Items.length:Int)<=b.Room/\∀ x∈b.Items,Wd x
 o:∀ x∈s.out,Wd x
structure CrI (codes:List (List ah)) (nb:Nat) (s:CrS):Prop extends CrB codes nb s where
 nq:∀ eQ∈codes,∀ q∈eQ,q.Op=6\/q.Op=7->q.N<nb
section
variable {codes:List (List ah)} {nb:Nat} {s:CrS}
theorem Av (h:CrI codes nb s) (hi:s.id<codes.length) (ho:s.out.length<=900000) (T J:Int):∃ d s',i7 (s.t:Int) (cI.mk codes (s.th.map thM) s.bx T J s.out)=some (d,s'.th.map thM,s'.bx,s'.out)/\eT (codes.length:Int) (s.t:Int) (s.id:Int) d=some ((s'.t:Int),(s'.id:Int),true)/\CSt codes s s'/\CrI codes nb s'/\s'.out.length<=s.out.length+1:=by
 have htl:s.t<s.th.length:=by rw [h.l]; exact h.t
 obtain ⟨⟨ρ,i⟩,hth⟩:∃ x,s.th[s.t]?=some x:=⟨_,List.getElem?_eq_getElem htl⟩
 obtain ⟨eQ,hc⟩:∃ eQ,codes[s.t]?=some eQ:=⟨_,List.getElem?_eq_getElem h.t⟩
 obtain ⟨g1,g2,g3⟩:=h.th _ _ _ _ hth hc
 obtain ⟨q,i',ρ',d,o,bs',hq,hstep,hT,hd,hi',hl',hw',hbl,hbx,hox,hol⟩:=BW (out:=s.out) (h.ok _ (List.mem_of_getElem? hc)) g3 g1 g2 (λq hq h6=>by rw [h.bl]; exact h.nq _ (List.mem_of_getElem? hc) q hq h6) h.bx (by omega)
 have hnx:=yU (n:=codes.length) (t:=s.t) (id:=s.id) (d:=d) ⟨h.l1,h.l3⟩ h.t hi hd
 have htn:(nxt codes.length s.t s.id d).1<codes.length:=by
  unfold nxt
  split
  ·exact h.t
  ·split <;> exact Nat.mod_lt _ h.l1
 have hin:(nxt codes.length s.t s.id d).2<=codes.length:=by
  unfold nxt
  split
  ·exact Nat.zero_le _
  ·split
   ·exact Nat.zero_le _
   ·show s.id+1<=_; omega
 refine ⟨d,⟨s.th.set s.t (ρ',i'),bs',(nxt codes.length s.t s.id d).1,(nxt codes.length s.t s.id d).2,s.out++o⟩,?_,hnx,⟨eQ,ρ,i,q,i',ρ',d,o,bs',hc,hth,hq,hT,rfl⟩,⟨⟨by simpa using h.l,h.l1,h.l3,h.ok,htn,hin,λj ρ1 i1 code1 k1 k2=>?_,hbl.trans h.bl,h.nb2,hbx,λx hx=>?_⟩,h.nq⟩,by simp only [List.length_append]; omega⟩
 ·unfold i7
  refine aa (y:=thM (ρ,i)) (c7 (by rw [List.getElem?_map,hth]; rfl)) (aa (c7 hc) (aa hstep ?_))
  show some (d,(s.th.map thM).set (Int.toNat (s.t:Int)) (thM (ρ',i')),bs',s.out++o)=_
  rw [Int.toNat_natCast,List.map_set]
 ·simp only at k1
  by_cases hj:j=s.t
  ·subst hj
   rw [List.getElem?_set_self htl] at k1
   obtain ⟨rfl,rfl⟩:=Prod.mk.inj (o9 k1)
   rw [hc] at k2
   obtain rfl:=o9 k2
   exact ⟨hl',hw',hi'⟩
  ·rw [List.getElem?_set_ne (by omega)] at k1
   exact h.th _ _ _ _ k1 k2
 ·rcases List.mem_append.1 hx with hx | hx
  ·exact h.o x hx
  ·exact hox x hx
theorem wS {a4:cI} (ha:a4.Codes=codes):∀ (j:Nat) (s:CrS),CrI codes nb s->s.out.length+j<=900000->∃ N s',N<=j/\Ar codes N s s'/\CrI codes nb s'/\s'.out.length<=s.out.length+j/\(s'.id=codes.length\/N=j) /\
  bB (cD (codes.length:Int) a4) ((j:Int),(s.t:Int),(s.id:Int),s.th.map thM,s.bx,s.out)=some (.inr ((s'.t:Int),(s'.id:Int),s'.th.map thM,s'.bx,s'.out))
 | 0,s,h,ho=>by
  refine ⟨0,s,Nat.le_refl _,rfl,h,by omega,.inr rfl,?_⟩
  rw [c6]
  have:cD (codes.length:Int) a4 (((0:Nat):Int),(s.t:Int),(s.id:Int),s.th.map thM,s.bx,s.out)=some (.inr (.inr ((s.t:Int),(s.id:Int),s.th.map thM,s.bx,s.out))):=by
   unfold cD
   exact ab (by simp) rfl
  rw [this]
 | j+1,s,h,ho=>by
  by_cases hi:s.id<codes.length
  ·obtain ⟨d,u,e1,e2,e3,e4,e5⟩:=Av h hi (by omega) a4.Turn a4.Idle
   obtain ⟨N,s',n1,n2,n3,n4,n5,n6⟩:=wS ha j u e4 (by omega)
   refine ⟨N+1,s',by omega,⟨hi,u,e3,n2⟩,n3,by omega,by omega,?_⟩
   have hw:w64 (((j+1:Nat):Int)-1)=(j:Int):=by rw [aO (by omega) (by omega)]; omega
   have st:cD (codes.length:Int) a4 (((j+1:Nat):Int),(s.t:Int),(s.id:Int),s.th.map thM,s.bx,s.out)=some (.inl ((j:Int),(u.t:Int),(u.id:Int),u.th.map thM,u.bx,u.out)):=by
    unfold cD
    rw [ha]
    exact ai (by simp; omega) (aa e1 (aa e2 (ab rfl (by simp only [hw]))))
   rw [c6,st]
   exact n6
  ·have hid:s.id=codes.length:=by have:=h.il; omega
   refine ⟨0,s,by omega,rfl,h,by omega,.inl hid,?_⟩
   rw [c6]
   have:cD (codes.length:Int) a4 (((j+1:Nat):Int),(s.t:Int),(s.id:Int),s.th.map thM,s.bx,s.out)=some (.inr (.inr ((s.t:Int),(s.id:Int),s.th.map thM,s.bx,s.out))):=by
    unfold cD
    exact ab (by simp; omega) rfl
   rw [this]
end
end
noncomputable section
def CT (b:Box):Prop:=1<=b.Room/\b.Room<=4/\(b.Items.length:Int)<=b.Room/\∀ x∈b.Items,Wd x
theorem pj {l:List Int} (hl:l.length<=1048576) (h:∀ x∈l,Wd x):dt l (l.length:Int)=some true/\di l=some true:=
 ⟨(qt l hl).trans (by rw [vD h]),(na l hl).trans (by rw [vD h])⟩
theorem yj {b:Box} (h:CT b):j1 (Box.mk b.Room b.Items)=some true/\jY (Box.mk b.Room b.Items)=some true:=by
 obtain ⟨h1,h2,h3,h4⟩:=h
 obtain ⟨w1,w2⟩:=pj (l:=b.Items) (by omega) h4
 refine ⟨?_,?_⟩
 ·unfold j1 aE
  refine aa rfl (aa (y:=true) (ai ?_ (aa w1 rfl)) rfl)
  simp; omega
 ·unfold jY
  exact aa (y:=true) (ai (by simp; omega) (aa w2 rfl)) rfl
theorem rB {l:List Box} (hl:l.length<=3) (h:∀ b∈l,CT b):io l=some true/\fz l=some true:=by
 have e1:=fj (f:=gw l) (l:=l) (λ_=>true) (by omega) (λi hi=>by
  unfold gw
  exact ai (by simpa using hi) (aa (cJ hi) (aa (yj (h _ (List.getElem_mem hi))).1 (ab rfl rfl)))) (by
  unfold gw
  exact ab (by simp) rfl)
 have e2:=fj (f:=fi l) (l:=l) (λ_=>true) (by omega) (λi hi=>by
  unfold fi
  exact ai (by simpa using hi) (aa (cJ hi) (aa (yj (h _ (List.getElem_mem hi))).2 (ab rfl rfl)))) (by
  unfold fi
  exact ab (by simp) rfl)
 rw [show l.all (λ_=>true)=true by simp] at e1 e2
 have e3:decide ((l.length:Int)<=3)=true:=by simp; omega
 refine ⟨?_,?_⟩
 ·unfold io; exact aa e1 (congrArg some e3)
 ·unfold fz; exact aa e2 (congrArg some e3)
structure DS (s:cg):Prop where
 l1:1<=s.Harts.length
 l3:s.Harts.length<=3
 hm:∀ m∈s.Harts,MOK m.Regs m.Pc m.Mem/\m.Regs[0]?=some 0
 bl:s.Boxes.length<=3
 bs:∀ b∈s.Boxes,CT b
 i:0<=s.Idle/\s.Idle<=s.Harts.length
 o:s.Out.length<=1000000
def okB (s:cg):Bool:=(decide (0<=s.Turn)&&decide (s.Turn<(s.Harts.length:Int)))&&s.Out.all wdB
theorem yX {s:cg} (h:DS s):qW (cg.mk s.Harts s.Boxes s.Turn s.Idle s.Out)=some (okB s)/\hZ (cg.mk s.Harts s.Boxes s.Turn s.Idle s.Out)=some (okB s):=by
 have h1:=h.l1
 have h3:=h.l3
 have hi:=h.i
 have ho:=h.o
 obtain ⟨b1,b2⟩:=rB (by have:=h.bl; omega) h.bs
 have e1:=fj (f:=ju (cg.mk s.Harts s.Boxes s.Turn s.Idle s.Out)) (l:=s.Harts) (λ_=>true) (by omega) (λi hi=>by
  obtain ⟨m1,m2⟩:=h.hm _ (List.getElem_mem hi)
  unfold ju
  exact ai (by simpa using hi) (aa (cJ hi) (aa (zL m1 m2).2 (ab rfl rfl)))) (by
  unfold ju
  exact ab (by simp) rfl)
 rw [show s.Harts.all (λ_=>true)=true by simp] at e1
 have e2:bB (aQ s.Harts) 0=some (.inr ()):=j6 (f:=aQ s.Harts) (λi=>(i:Int)) s.Harts.length (λi hi=>by
  obtain ⟨m1,m2⟩:=h.hm _ (List.getElem_mem hi)
  unfold aQ iy
  exact ai (by simpa using hi) (aa (cJ hi) (aa (y:=false) (aa (zL m1 m2).1 rfl) (ab rfl (by rw [dH (by omega)]))))) (by
  unfold aQ
  exact ab (by simp) rfl)
 have ec:a7 s.Harts=some false:=by
  unfold a7 bD
  exact aa (y:=-1) (aa e2 rfl) rfl
 have wk:w64 ((s.Harts.length:Int)-1)=(s.Harts.length:Int)-1:=aO (by omega) (by omega)
 have hso:=qt s.Out (by omega)
 have hio:=na s.Out (by omega)
 have d1:(decide ((s.Harts.length:Int)>=1)&&decide ((s.Harts.length:Int)<=3))=true:=by simp; omega
 have d4:(decide (s.Idle>=0)&&decide (s.Idle<=(s.Harts.length:Int)))=true:=by simp; omega
 refine ⟨?_,?_⟩
 ·unfold qW aE okB
  refine aa (congrArg some d1) (aa (y:=false) (ab rfl (aa b1 rfl)) ?_)
  cases hT:(decide (0<=s.Turn)&&decide (s.Turn<(s.Harts.length:Int)))
  ·have d3:(decide (s.Turn>=0)&&decide (s.Turn<=w64 ((s.Harts.length:Int)-1)))=false:=by
    rw [wk]; simp at hT ⊢; intro h; have:=hT h; omega
   exact aa (y:=true) (ab rfl (aa (congrArg some d3) rfl)) (aa (y:=true) (ai rfl rfl) (ai rfl rfl))
  ·have d3:(decide (s.Turn>=0)&&decide (s.Turn<=w64 ((s.Harts.length:Int)-1)))=true:=by
    rw [wk]; simp at hT ⊢; omega
   refine aa (y:=false) (ab rfl (aa (congrArg some d3) rfl)) (aa (y:=false) (ab rfl (aa (congrArg some d4) rfl)) (ab rfl (aa e1 ?_)))
   exact aa hso rfl
 ·unfold hZ eE okB
  cases hT:(decide (0<=s.Turn)&&decide (s.Turn<(s.Harts.length:Int)))
  ·have d:(((((decide ((s.Harts.length:Int)>=1)&&decide ((s.Harts.length:Int)<=3))&&decide (s.Turn>=0))&&decide (s.Turn<(s.Harts.length:Int)))&&decide (s.Idle>=0))&&decide (s.Idle<=(s.Harts.length:Int)))=false:=by
    simp at hT ⊢; intro _ _ h; have:=hT h; omega
   exact aa (y:=false) (aa (y:=false) (ab d rfl) rfl) (aa (y:=false) (ab rfl rfl) (aa (y:=false) (ab rfl rfl) rfl))
  ·have d:(((((decide ((s.Harts.length:Int)>=1)&&decide ((s.Harts.length:Int)<=3))&&decide (s.Turn>=0))&&decide (s.Turn<(s.Harts.length:Int)))&&decide (s.Idle>=0))&&decide (s.Idle<=(s.Harts.length:Int)))=true:=by
    simp at hT ⊢; omega
   refine aa (y:=s.Out.all wdB) (aa (y:=s.Out.all wdB) (ai d (aa hio rfl)) rfl) ?_
   cases s.Out.all wdB
   ·exact aa (y:=false) (ab rfl rfl) (aa (y:=false) (ab rfl rfl) rfl)
   ·exact aa (y:=true) (ai rfl (aa b2 rfl)) (aa (y:=true) (ai rfl (aa ec rfl)) rfl)
theorem yY {s:cg} (h:DS s):er s.Boxes=some s.Boxes/\aU s.Out=some s.Out/\bB (eX (cg.mk s.Harts s.Boxes s.Turn s.Idle s.Out)) (0,[])=some s.Harts:=by
 have h3:=h.l3
 have hcl:∀ {l:List Int},l.length<=1000000->aU l=some l:=λhl=>by
  unfold aU
  exact aa ((dN (by simp; omega)).trans (by simp)) rfl
 refine ⟨?_,hcl h.o,?_⟩
 ·unfold er
  have:=mg (f:=dA s.Boxes) (l:=s.Boxes) (g:=λb=>b) (λi acc x hx ha=>by
   have hbl:=h.bl
   have hi:i<s.Boxes.length:=by rcases Nat.lt_or_ge i s.Boxes.length with h | h; exact h; rw [List.getElem?_eq_none h] at hx; cases hx
   obtain ⟨g1,g2,g3,g4⟩:=h.bs x (List.mem_of_getElem? hx)
   unfold dA
   exact ai (by simpa using hi) (aa (c7 hx) (aa (hcl (by omega)) (aa (dN (by simp; omega)) (by rw [dH (by omega)]))))) (λacc ha=>by
   unfold dA
   exact ab (by simp) rfl)
  rw [List.map_id'] at this
  exact aa this rfl
 ·exact j6 (f:=eX (cg.mk s.Harts s.Boxes s.Turn s.Idle s.Out)) (λi=>((i:Int),s.Harts.take i)) s.Harts.length (r:=s.Harts) (λi hi=>by
   obtain ⟨m1,_⟩:=h.hm _ (List.getElem_mem hi)
   have h32:=m1.r32
   have h10:=m1.m10
   have hc:gq (al.mk (s.Harts[i]).Regs (s.Harts[i]).Pc (s.Harts[i]).Mem)=some (al.mk (s.Harts[i]).Regs (s.Harts[i]).Pc (s.Harts[i]).Mem):=by
    unfold gq
    exact aa (hcl (l:=(s.Harts[i]).Regs) (by omega)) (aa (hcl (l:=(s.Harts[i]).Mem) (by omega)) rfl)
   unfold eX
   refine ai (by simpa using hi) (aa (cJ hi) (aa hc (aa (dN (by simp; omega)) ?_)))
   rw [dH (by omega),List.take_add_one,List.getElem?_eq_getElem hi]
   rfl) (by
   unfold eX
   refine ab (by simp) ?_
   simp)
end
noncomputable section
section
variable {codes:List (List ah)} {nb:Nat} {s:CrS}
theorem CrB.bok (h:CrB codes nb s):∀ b∈s.bx,CT b:=λb hb=>by obtain ⟨⟨g1,g2⟩,g3,g4⟩:=h.bx b hb; exact ⟨g1,g2,g3,g4⟩
def thQ (nb:Nat) (q:ah):Bool:=((q.Op !=6)&&(q.Op !=7))||decide (q.N<(nb:Int))
def thC (nb:Nat) (c:List ah):Bool:=c.all (thQ nb)
def thA (nb:Nat) (codes:List (List ah)):Bool:=codes.all (thC nb)
theorem xo:thA nb codes=true↔∀ eQ∈codes,∀ q∈eQ,q.Op=6\/q.Op=7->q.N<nb:=by
 unfold thA thC thQ
 simp only [List.all_eq_true,Bool.or_eq_true,Bool.and_eq_true,bne_iff_ne,decide_eq_true_eq]
 refine ⟨λh c hc q hq h6=>?_,λh c hc q hq=>?_⟩
 ·rcases h c hc q hq with ⟨h1,h2⟩ | h1
  ·omega
  ·exact h1
 ·by_cases h6:q.Op=6\/q.Op=7
  ·exact .inr (h c hc q hq h6)
  ·exact .inl ⟨by omega,by omega⟩
theorem qC {eQ:List ah} {ρ:List Int} {i:Nat} (hc:COk eQ) (hl:ρ.length=12) (hw:∀ x∈ρ,Wd x) (hi:i<eQ.length):eV ⟨ρ,(i:Int)⟩ eQ=some true/\eW ⟨ρ,(i:Int)⟩ eQ=some true:=by
 have hm:=hc.max
 obtain ⟨w1,w2⟩:=pj (l:=ρ) (by omega) hw
 rw [hl] at w1
 refine ⟨?_,?_⟩
 ·unfold eV j4
  refine aa (py hc (by omega)) (aa (y:=true) (ai rfl (aa (y:=true) (aa (y:=true) (ai (by simp [hl]) (aa w2 rfl)) ?_) rfl)) rfl)
  simp; omega
 ·unfold eW mZ aE
  refine aa (dh hc) (aa (y:=true) (ai rfl (aa (y:=true) (aa w1 (aa (y:=true) (ai rfl (aa (y:=true) (congrArg some ?_) rfl)) rfl)) rfl)) rfl)
  dsimp only
  rw [aO (by omega) (by omega)]
  simp; omega
theorem vJ (h:CrB codes nb s) (ho:s.out.length<=1000000):dC (cI.mk codes (s.th.map thM) s.bx (s.t:Int) (s.id:Int) s.out)=some (thA nb codes)/\ep (cI.mk codes (s.th.map thM) s.bx (s.t:Int) (s.id:Int) s.out)=some (thA nb codes):=by
 have l1:=h.l1
 have l3:=h.l3
 have hl:=h.l
 have ht:=h.t
 have hil:=h.il
 have hn2:=h.nb2
 obtain ⟨w1,w2⟩:=pj (l:=s.out) (by omega) h.o
 obtain ⟨b1,b2⟩:=rB (l:=s.bx) (by have:=h.bl; omega) h.bok
 have at_:∀ i,(hi:i<codes.length)->∃ ρ k,(s.th.map thM)[i]?=some ⟨ρ,((k:Nat):Int)⟩/\COk codes[i]/\ρ.length=12/\(∀ x∈ρ,Wd x)/\k<(codes[i]).length:=λi hi=>by
  obtain ⟨⟨ρ,k⟩,hr⟩:∃ x,s.th[i]?=some x:=⟨_,List.getElem?_eq_getElem (by omega)⟩
  obtain ⟨g1,g2,g3⟩:=h.th _ _ _ _ hr (List.getElem?_eq_getElem hi)
  exact ⟨ρ,k,by rw [List.getElem?_map,hr]; rfl,h.ok _ (List.getElem_mem hi),g1,g2,g3⟩
 have hbl:(s.bx.length:Int)=(nb:Int):=by rw [h.bl]
 refine ⟨?_,?_⟩
 ·have L:=fj (f:=dy (cI.mk codes (s.th.map thM) s.bx (s.t:Int) (s.id:Int) s.out)) (l:=codes) (thC nb) (by omega) (λi hi=>by
   obtain ⟨ρ,k,g2,g3,g4,g5,g6⟩:=at_ i hi
   have hm:=g3.max
   have L2:=fj (f:=dx (cI.mk codes (s.th.map thM) s.bx (s.t:Int) (s.id:Int) s.out) codes[i]) (l:=codes[i]) (thQ nb) (by omega) (λj hj=>by
    unfold dx jZ
    refine ai (by simpa using hj) (aa (cJ hj) (aa (y:=thQ nb (codes[i])[j]) (congrArg some ?_) ?_))
    ·unfold thQ; rw [hbl]
    ·cases thQ nb (codes[i])[j] <;> rfl) (by unfold dx; exact ab (by simp) rfl)
   unfold dy
   refine ai (by simpa using hi) (aa (cJ hi) (aa (c7 g2) (aa (qC g3 g4 g5 g6).1 (ab rfl (aa L2 ?_)))))
   show _=some (bif thC nb codes[i] then _ else _)
   unfold thC
   cases (codes[i]).all (thQ nb) <;> rfl) (by unfold dy; exact ab (by simp) rfl)
  unfold dC eE
  refine aa (y:=true) (aa (y:=true) (ai ?_ (aa w2 rfl)) rfl) (aa (y:=false) (ab ?_ (aa b2 rfl)) (ab rfl (aa L ?_)))
  ·simp; omega
  ·simp [hl]
  ·unfold thA; cases codes.all (thC nb) <;> rfl
 ·have L:=fj (f:=dz (cI.mk codes (s.th.map thM) s.bx (s.t:Int) (s.id:Int) s.out)) (l:=codes) (thC nb) (by omega) (λi hi=>by
   obtain ⟨ρ,k,g2,g3,g4,g5,g6⟩:=at_ i hi
   have hm:=g3.max
   have L2:gQ codes[i] (s.bx.length:Int)=some (thC nb codes[i]):=by
    have L3:=fj (f:=dW codes[i] (s.bx.length:Int)) (l:=codes[i]) (thQ nb) (by omega) (λj hj=>by
     unfold dW lc
     refine ai (by simpa using hj) (aa (cJ hj) (aa (y:=thQ nb (codes[i])[j]) (congrArg some ?_) ?_))
     ·unfold thQ; rw [hbl]
     ·cases thQ nb (codes[i])[j] <;> rfl) (by unfold dW; exact ab (by simp) rfl)
    unfold gQ
    refine aa L3 ?_
    unfold thC
    cases (codes[i]).all (thQ nb) <;> rfl
   have nc:=cJ hi
   unfold dz
   refine ai (by simp [hl]; omega) (aa (c7 g2) (aa nc (aa (qC g3 g4 g5 g6).2 (aa (y:=!thC nb codes[i]) (ab rfl (aa nc (aa L2 rfl))) ?_))))
   cases thC nb codes[i] <;> rfl) (by unfold dz; exact ab (by simp [hl]) rfl)
  unfold ep aE
  refine aa (y:=true) (congrArg some (by simp [hl]; omega)) (aa (y:=false) (ab (by simp [hl]) (aa b1 rfl)) (aa (y:=false) (ab rfl (aa (y:=true) (congrArg some ?_) rfl)) (aa (y:=false) (ab rfl (aa (y:=true) (congrArg some ?_) rfl)) (ab rfl (aa L ?_)))))
  ·dsimp only
   rw [List.length_map,hl,aO (by omega) (by omega)]
   simp; omega
  ·dsimp only
   rw [List.length_map,hl]
   simp; omega
  ·unfold thA
   cases codes.all (thC nb)
   ·rfl
   ·exact aa w1 rfl
theorem Aw (h:CrI codes nb s) (ho:s.out.length<=1000000):dC (cI.mk codes (s.th.map thM) s.bx (s.t:Int) (s.id:Int) s.out)=some true:=by
 have:=(vJ h.toCrB ho).1
 rw [xo.2 h.nq] at this
 exact this
end
end
noncomputable section
def crM (codes:List (List ah)) (s:CrS):cI:=cI.mk codes (s.th.map thM) s.bx (s.t:Int) (s.id:Int) s.out
def crZ:cI:=cI.mk [] [] [] 0 0 []
theorem pm {l:List (List ah)} (hl:l.length<=1000) (h:∀ c∈l,c.length<=1000):gu l=some l/\j0 l=some l:=by
 have e1:=mg (f:=fR l) (l:=l) (g:=λc=>c) (λi acc x hx ha=>by
  have hi:=pz hx
  have hc:cj x=some x:=by unfold cj; exact aa ((dN (by have:=h x (List.mem_of_getElem? hx); simp; omega)).trans (by simp)) rfl
  unfold fR
  exact ai (by simpa using hi) (aa (c7 hx) (aa hc (aa (dN (by simp; omega)) (by rw [dH (by omega)]))))) (λacc ha=>by
  unfold fR
  exact ab (by simp) rfl)
 have e2:=mg (f:=gv l) (l:=l) (g:=λc=>c) (λi acc x hx ha=>by
  have hi:=pz hx
  have hc:app 40 [] x=some x:=(dN (by have:=h x (List.mem_of_getElem? hx); simp; omega)).trans (by simp)
  unfold gv
  exact ai (by simpa using hi) (aa (c7 hx) (aa hc (aa (dN (by simp; omega)) (by rw [dH (by omega)]))))) (λacc ha=>by
  unfold gv
  exact ab (by simp) rfl)
 rw [List.map_id'] at e1 e2
 exact ⟨by unfold gu; exact aa e1 rfl,by unfold j0; exact aa e2 rfl⟩
def thZ:bk:=⟨List.replicate 12 0,0⟩
theorem xp {l:List (List ah)} (hl:l.length<=1000):bB (fA l) (0,[])=some (List.replicate l.length thZ)/\bB (fB l) (0,[])=some (List.replicate l.length thZ):=by
 have hm:mk 8 12 (0:Int)=some (List.replicate 12 0):=rfl
 refine ⟨j6 (f:=fA l) (λi=>((i:Int),List.replicate i thZ)) l.length (λi hi=>?_) ?_,j6 (f:=fB l) (λi=>((i:Int),List.replicate i thZ)) l.length (λi hi=>?_) ?_⟩
 ·unfold fA
  refine ai (by simpa using hi) (aa hm (aa (dN (by simp; omega)) ?_))
  have e:=List.replicate_succ' (n:=i) (a:=thZ)
  rw [dH (by omega),e]
  rfl
 ·unfold fA
  exact ab (by simp) rfl
 ·unfold fB
  refine ai (by simpa using hi) (aa hm (aa (dN (by simp; omega)) ?_))
  have e:=List.replicate_succ' (n:=i) (a:=thZ)
  rw [dH (by omega),e]
  rfl
 ·unfold fB
  exact ab (by simp) rfl
def mh (T:Nat) (rooms:List Int):CrS:=⟨List.replicate T (List.replicate 12 0,0),rooms.map λr=>⟨r,[]⟩,0,0,[]⟩
theorem BX {codes:List (List ah)} {rooms:List Int} (l1:1<=codes.length) (l3:codes.length<=3) (ok:∀ eQ∈codes,COk eQ) (h2:rooms.length<=2) (hr:∀ r∈rooms,1<=r/\r<=4):CrB codes rooms.length (mh codes.length rooms):=by
 refine ⟨by simp [mh],l1,l3,ok,l1,Nat.zero_le _,λj ρ i eQ g1 g2=>?_,by simp [mh],h2,λb hb=>?_,λx hx=>by simp [mh] at hx⟩
 ·have hj:=pz g2
  have:(mh codes.length rooms).th[j]?=some (List.replicate 12 0,0):=by
   show (List.replicate codes.length _)[j]?=_
   rw [List.getElem?_replicate,if_pos hj]
  rw [this] at g1
  obtain ⟨rfl,rfl⟩:=Prod.mk.inj (o9 g1)
  exact ⟨by simp,λx hx=>by rw [(List.mem_replicate.1 hx).2]; unfold Wd; omega,(ok _ (List.mem_of_getElem? g2)).one⟩
 ·obtain ⟨r,h,rfl⟩:=List.mem_map.1 hb
  have:=hr r h
  exact ⟨this,by simp only [List.length_nil]; omega,by simp⟩
theorem D1 {codes:List (List ah)} {rooms:List Int}:crM codes (mh codes.length rooms)=cI.mk codes (List.replicate codes.length thZ) (rooms.map λr=>⟨r,[]⟩) 0 0 []:=by
 unfold crM mh
 simp only [List.map_replicate]
 rfl
theorem BZ {codes:List (List ah)} {rooms:List Int} (l1:1<=codes.length) (l3:codes.length<=3) (ok:∀ eQ∈codes,COk eQ) (h2:rooms.length<=2) (hr:∀ r∈rooms,1<=r/\r<=4) (hR:ja rooms=true) :
  cY rooms codes=some (if thA rooms.length codes=true then (crM codes (mh codes.length rooms),true) else (crZ,false))/\dG rooms codes=some (if thA rooms.length codes=true then (crM codes (mh codes.length rooms),true) else (crZ,false)):=by
 obtain ⟨c1,c2⟩:=pm (l:=codes) (by omega) (λc hc=>by have:=(ok c hc).max; omega)
 obtain ⟨b1,b2⟩:=qB (rooms:=rooms) (by omega)
 obtain ⟨t1,t2⟩:=xp (l:=codes) (by omega)
 obtain ⟨v1,v2⟩:=vJ (BX l1 l3 ok h2 hr) (by simp [mh])
 obtain ⟨b,k1,k2⟩:=rV rooms (by omega)
 have hb:b=true:=by unfold ja at hR; rw [k1] at hR; exact hR
 subst hb
 have e:=D1 (codes:=codes) (rooms:=rooms)
 have v1:dC (crM codes (mh codes.length rooms))=some (thA rooms.length codes):=v1
 have v2:ep (crM codes (mh codes.length rooms))=some (thA rooms.length codes):=v2
 rw [e] at v1 v2 ⊢
 cases hA:thA rooms.length codes with
 | true =>
  rw [hA] at v1 v2
  rw [if_pos rfl]
  refine ⟨?_,?_⟩
  ·unfold cY
   exact aa c1 (aa b1 (aa t1 (aa k2 (aa (y:=false) (ab rfl (aa v1 rfl)) (ab rfl rfl)))))
  ·unfold dG
   exact aa k1 (ab rfl (aa c2 (aa b2 (aa t2 (aa v2 (ab rfl rfl))))))
 | false =>
  rw [hA] at v1 v2
  rw [if_neg (by simp)]
  refine ⟨?_,?_⟩
  ·unfold cY
   exact aa c1 (aa b1 (aa t1 (aa k2 (aa (y:=true) (ab rfl (aa v1 rfl)) (ai rfl rfl)))))
  ·unfold dG
   exact aa k1 (ab rfl (aa c2 (aa b2 (aa t2 (aa v2 (ai rfl rfl))))))
theorem Ax {codes:List (List ah)} {rooms:List Int} (hl:codes.length<=1000) (hc:∀ c∈codes,c.length<=1000) (hr:rooms.length<=1000) (hb:ja rooms=false):cY rooms codes=some (crZ,false)/\dG rooms codes=some (crZ,false):=by
 obtain ⟨c1,c2⟩:=pm hl hc
 obtain ⟨b1,b2⟩:=qB (rooms:=rooms) hr
 obtain ⟨t1,t2⟩:=xp hl
 obtain ⟨b,k1,k2⟩:=rV rooms (by omega)
 have hb':b=false:=by unfold ja at hb; rw [k1] at hb; exact hb
 subst hb'
 refine ⟨?_,?_⟩
 ·unfold cY
  exact aa c1 (aa b1 (aa t1 (aa k2 (aa (y:=true) (ai rfl rfl) (ai rfl rfl)))))
 ·unfold dG
  exact aa k1 (ai rfl rfl)
theorem yZ:ja []=true:=by
 have s0:bS [] 0=some (.inr (.inr ())):=rfl
 have e:bB (bS []) 0=some (.inr ()):=by rw [c6,s0]
 unfold ja dP
 rw [e]
 rfl
theorem yk (y:Int):ja [5,y]=false:=by
 have s0:bS [5,y] 0=some (.inr (.inl false)):=by
  unfold bS aE
  rw [show nth [5,y] 0=some 5 from rfl]
  rfl
 have e:bB (bS [5,y]) 0=some (.inl false):=by rw [c6,s0]
 unfold ja dP
 rw [e]
 rfl
theorem B0 {q:ah} {m:Int} (h:QOk m q):(((q.Op !=6)&&(q.Op !=7))||(decide (q.N<2)))=true:=by
 unfold QOk at h
 by_cases h1:q.Op=6
 ·rw [decide_eq_true (show q.N<2 by omega)]; simp
 ·by_cases h2:q.Op=7
  ·rw [decide_eq_true (show q.N<2 by omega)]; simp
  ·simp [h1,h2]
theorem y0 {codes:List (List ah)} {r1 r2:Int} (l1:1<=codes.length) (l3:codes.length<=3) (ok:∀ eQ∈codes,COk eQ) (h1:1<=r1/\r1<=4) (h2:1<=r2/\r2<=4):cY [r1,r2] (codes++[[]])=some (crZ,false)/\dG [r1,r2] (codes++[[]])=some (crZ,false):=by
 have hlen:(codes++[[]]).length=codes.length+1:=by simp
 obtain ⟨c1,c2⟩:=pm (l:=codes++[[]]) (by omega) (λc hc=>by
  rcases List.mem_append.1 hc with hc | hc
  ·have:=(ok c hc).max; omega
  ·rw [List.mem_singleton.1 hc]; simp)
 obtain ⟨b1,b2⟩:=qB (rooms:=[r1,r2]) (by simp)
 obtain ⟨t1,t2⟩:=xp (l:=codes++[[]]) (by omega)
 have hr:=vC h1 h2
 obtain ⟨b,k1,k2⟩:=rV [r1,r2] (by simp)
 have hb:b=true:=by unfold ja at hr; rw [k1] at hr; exact hr
 subst hb
 have hw0:∀ x∈List.replicate 12 (0:Int),Wd x:=λx hx=>by rw [(List.mem_replicate.1 hx).2]; unfold Wd; omega
 obtain ⟨x1,x2⟩:=rB (l:=[Box.mk r1 [],Box.mk r2 []]) (by simp) (λb hb=>by
  simp only [List.mem_cons,List.not_mem_nil,or_false] at hb
  rcases hb with rfl | rfl
  ·exact ⟨h1.1,h1.2,by simp; omega,by simp⟩
  ·exact ⟨h2.1,h2.2,by simp; omega,by simp⟩)
 obtain ⟨w1,w2⟩:=pj (l:=[]) (by simp) (by simp)
 have c0:eo []=some false/\bP []=some false:=⟨ai rfl rfl,rfl⟩
 have gd:∀ i,i<codes.length->∃ eQ,(codes++[[]])[i]?=some eQ/\(List.replicate (codes++[[]]).length thZ)[i]?=some thZ/\COk eQ:=λi hi=>⟨codes[i],by rw [List.getElem?_append_left hi,List.getElem?_eq_getElem hi],by rw [List.getElem?_replicate,if_pos (by omega)],ok _ (List.getElem_mem hi)⟩
 have lst:(codes++[[]])[codes.length]?=some []/\(List.replicate (codes++[[]]).length thZ)[codes.length]?=some thZ:=⟨by rw [List.getElem?_append_right (Nat.le_refl _),Nat.sub_self]; rfl,by rw [List.getElem?_replicate,if_pos (by omega)]⟩
 have v1:dC (cI.mk (codes++[[]]) (List.replicate (codes++[[]]).length thZ) [Box.mk r1 [],Box.mk r2 []] 0 0 [])=some false:=by
  unfold dC eE
  by_cases h4:codes.length=3
  ·exact aa (y:=false) (aa (y:=false) (ab (by simp; omega) rfl) rfl) (aa (y:=true) (ai (by simp) rfl) (ai rfl rfl))
  ·have L:=j6 (f:=dy (cI.mk (codes++[[]]) (List.replicate (codes++[[]]).length thZ) [Box.mk r1 [],Box.mk r2 []] 0 0 [])) (ρ:=Bool⊕Unit) (λi=>((i:Nat):Int)) codes.length (r:=.inl false) (λi hi=>by
    obtain ⟨eQ,g1,g2,g3⟩:=gd i hi
    have hm:=g3.max
    have L2:=j6 (f:=dx (cI.mk (codes++[[]]) (List.replicate (codes++[[]]).length thZ) [Box.mk r1 [],Box.mk r2 []] 0 0 []) eQ) (ρ:=Bool⊕Unit) (λi=>((i:Nat):Int)) eQ.length (r:=.inr ()) (λj hj=>by
     unfold dx jZ
     exact ai (by simpa using hj) (aa (cJ hj) (aa (y:=true) (congrArg some (B0 (g3.q _ (List.getElem_mem hj)))) (ab rfl (by rw [dH (by omega)]))))) (by unfold dx; exact ab (by simp) rfl)
    unfold dy
    exact ai (by simp; omega) (aa (c7 g1) (aa (c7 g2) (aa (qC (i:=0) g3 (by simp) hw0 g3.one).1 (ab rfl (aa L2 (by dsimp only [fu]; rw [dH (by omega)]))))))) (by
    unfold dy eV
    exact ai (decide_eq_true (by show (codes.length:Int)<((codes++[[]]).length:Int); omega)) (aa (c7 lst.1) (aa (c7 lst.2) (aa (y:=false) (aa c0.1 (aa (y:=false) (ab rfl rfl) rfl)) (ai rfl rfl)))))
   exact aa (y:=true) (aa (y:=true) (ai (by simp; omega) (aa w2 rfl)) rfl) (aa (y:=false) (ab (by simp) (aa x2 rfl)) (ab rfl (aa L rfl)))
 have v2:ep (cI.mk (codes++[[]]) (List.replicate (codes++[[]]).length thZ) [Box.mk r1 [],Box.mk r2 []] 0 0 [])=some false:=by
  unfold ep aE
  by_cases h4:codes.length=3
  ·exact aa (y:=false) (congrArg some (by simp; omega)) (aa (y:=true) (ai rfl rfl) (aa (y:=true) (ai rfl rfl) (aa (y:=true) (ai rfl rfl) (ai rfl rfl))))
  ·have L:=j6 (f:=dz (cI.mk (codes++[[]]) (List.replicate (codes++[[]]).length thZ) [Box.mk r1 [],Box.mk r2 []] 0 0 [])) (ρ:=Bool⊕Unit) (λi=>((i:Nat):Int)) codes.length (r:=.inl false) (λi hi=>by
    obtain ⟨eQ,g1,g2,g3⟩:=gd i hi
    have hm:=g3.max
    have L2:gQ eQ 2=some true:=by
     have L3:=j6 (f:=dW eQ 2) (ρ:=Bool⊕Unit) (λi=>((i:Nat):Int)) eQ.length (r:=.inr ()) (λj hj=>by
      unfold dW lc
      exact ai (by simpa using hj) (aa (cJ hj) (aa (y:=true) (congrArg some (B0 (g3.q _ (List.getElem_mem hj)))) (ab rfl (by rw [dH (by omega)]))))) (by unfold dW; exact ab (by simp) rfl)
     unfold gQ
     exact aa L3 rfl
    unfold dz
    exact ai (by simp; omega) (aa (c7 g2) (aa (c7 g1) (aa (qC (i:=0) g3 (by simp) hw0 g3.one).2 (aa (y:=false) (ab rfl (aa (c7 g1) (aa L2 rfl))) (ab rfl (by rw [dH (by omega)]))))))) (by
    unfold dz eW
    exact ai (decide_eq_true (by show (codes.length:Int)<((List.replicate (codes++[[]]).length thZ).length:Int); rw [List.length_replicate]; omega)) (aa (c7 lst.2) (aa (c7 lst.1) (aa (y:=false) (aa c0.2 (aa (y:=false) (ab rfl rfl) rfl)) (aa (y:=true) (ai rfl rfl) (ai rfl rfl))))))
   refine aa (y:=true) (congrArg some (by simp; omega)) (aa (y:=false) (ab (by simp) (aa x1 rfl)) (aa (y:=false) (ab rfl (aa (y:=true) (congrArg some ?_) rfl)) (aa (y:=false) (ab rfl (aa (y:=true) (congrArg some ?_) rfl)) (ab rfl (aa L rfl)))))
   ·dsimp only
    rw [List.length_replicate,hlen,aO (by omega) (by omega)]
    first | (simp; omega) | simp
   ·dsimp only
    rw [List.length_replicate,hlen]
    first | (simp; omega) | simp
 refine ⟨?_,?_⟩
 ·unfold cY
  exact aa c1 (aa b1 (aa t1 (aa k2 (aa (y:=true) (ab rfl (aa v1 rfl)) (ai rfl rfl)))))
 ·unfold dG
  exact aa k1 (ab rfl (aa c2 (aa b2 (aa t2 (aa v2 (ai rfl rfl))))))
end
noncomputable section
theorem za {l:List Box} (hl:l.length<=3) (h:∀ b∈l,b.Items.length<=1000):er l=some l:=by
 have hcl:∀ {l:List Int},l.length<=1000000->aU l=some l:=λh=>by unfold aU; exact aa ((dN (by simp; omega)).trans (by simp)) rfl
 unfold er
 have:=mg (f:=dA l) (l:=l) (g:=λb=>b) (λi acc x hx ha=>by
  have hi:=pz hx
  have:=h x (List.mem_of_getElem? hx)
  unfold dA
  exact ai (by simpa using hi) (aa (c7 hx) (aa (hcl (by omega)) (aa (dN (by simp; omega)) (by rw [dH (by omega)]))))) (λacc ha=>by
  unfold dA
  exact ab (by simp) rfl)
 rw [List.map_id'] at this
 exact aa this rfl
theorem B2 {codes:List (List ah)} {nb:Nat} {s:CrS} (h:CrI codes nb s) (ho:s.out.length<=1000) {n:Nat} (hn:n<=100000):∃ N s',N<=n/\Ar codes N s s'/\CrI codes nb s'/\s'.out.length<=s.out.length+n/\(s'.id=codes.length\/N=n)/\lm (crM codes s) (n:Int)=some (crM codes s',true):=by
 have hl:=h.l
 have l3:=h.l3
 have hbl:=h.bl
 have hn2:=h.nb2
 obtain ⟨N,s',n1,n2,n3,n4,n5,n6⟩:=wS (a4:=cI.mk codes (s.th.map thM) s.bx 0 0 s.out) rfl n s h (by omega)
 refine ⟨N,s',n1,n2,n3,n4,n5,?_⟩
 have c1:=(pm (l:=codes) (by omega) (λc hc=>by have:=(h.ok c hc).max; omega)).1
 have c2:=za (l:=s.bx) (by omega) (λb hb=>by obtain ⟨⟨g1,g2⟩,g3,_⟩:=h.bx b hb; omega)
 have hcl:∀ {l:List Int},l.length<=1000000->aU l=some l:=λh=>by unfold aU; exact aa ((dN (by simp; omega)).trans (by simp)) rfl
 have c3:bB (fE (crM codes s)) (0,[])=some (s.th.map thM):=j6 (f:=fE (crM codes s)) (λi=>((i:Int),(s.th.take i).map thM)) s.th.length (λi hi=>by
  obtain ⟨⟨ρ,k⟩,hr⟩:∃ x,s.th[i]?=some x:=⟨_,List.getElem?_eq_getElem hi⟩
  obtain ⟨eQ,hc⟩:∃ eQ,codes[i]?=some eQ:=⟨_,List.getElem?_eq_getElem (by omega)⟩
  obtain ⟨g1,g2,g3⟩:=h.th _ _ _ _ hr hc
  unfold fE
  refine ai (by simpa [crM] using hi) (aa (y:=thM (ρ,k)) (c7 (by show (s.th.map thM)[i]?=_; rw [List.getElem?_map,hr]; rfl)) (aa (y:=ρ) (hcl (by show ρ.length<=_; omega)) (aa (dN (by simp; omega)) ?_)))
  rw [dH (by omega),List.take_add_one,hr,List.map_append]
  rfl) (by
  unfold fE
  refine ab (by simp [crM]) ?_
  simp)
 unfold lm
 refine aa (Aw h (by omega)) (ab ?_ (aa c1 (aa c2 (aa (hcl (l:=s.out) (by omega)) (aa c3 ?_)))))
 ·rw [decide_eq_false (by omega),decide_eq_false (by omega)]; rfl
 ·unfold iA
  have e:((s.th.map thM).length:Int)=(codes.length:Int):=by rw [List.length_map,hl]
  refine aa (y:=((s'.t:Int),(s'.id:Int),true,s'.th.map thM,s'.bx,s'.out)) (aa (y:=.inr ((s'.t:Int),(s'.id:Int),s'.th.map thM,s'.bx,s'.out)) ?_ rfl) rfl
  rw [e]
  exact n6
theorem zP {eQ:List ah} {c:Nat} (hc:COk eQ) (h8:1<=c/\c<=8) (h40:eQ.length<=40):∃ ws,wl (tk eQ (c:Int) eQ.length)=some ws/\hN (tk eQ (c:Int) eQ.length)=some (hM (tk eQ (c:Int) eQ.length).length ws) /\
  CC eQ c 1 ((tk eQ (c:Int) eQ.length).length+1) ws/\MOK (hM (tk eQ (c:Int) eQ.length).length ws).Regs 4 (hM (tk eQ (c:Int) eQ.length).length ws).Mem/\Rl eQ c 1 ((tk eQ (c:Int) eQ.length).length+1) ws 0 (List.replicate 12 0) ((hM (tk eQ (c:Int) eQ.length).length ws).Regs,4,(hM (tk eQ (c:Int) eQ.length).length ws).Mem):=by
 have h8':1<=(c:Int)/\(c:Int)<=8:=by omega
 have hlen:(tk eQ (c:Int) eQ.length).length<=240:=by rw [sW]; have:=r9 eQ (c:Int) eQ.length; omega
 obtain ⟨ws,hw⟩:=zE (l:=tk eQ (c:Int) eQ.length) λy hy=>An (BC hc h8' _ (Nat.le_refl _) y hy)
 have hwl:=oG hw
 have hM0:=BG (by omega) hw
 refine ⟨ws,hw,by unfold hN; rw [hw],⟨hc,h8,hw,Nat.le_refl _,by omega,by omega⟩,hM0,⟨hM0.r32,hM0.wr,hM0.m10,hM0.wm,rfl,?_,?_⟩,⟨by simp,λx hx=>?_,λr x _ hr hx=>?_,λr x _ hr hx=>?_⟩,λk w hk=>?_,?_⟩
 ·show ((List.replicate 32 (0:Int)).set 2 (4*(((tk eQ (c:Int) eQ.length).length:Int)+1)))[2]?=some (4*(((tk eQ (c:Int) eQ.length).length+1:Nat):Int))
  rw [show (((tk eQ (c:Int) eQ.length).length+1:Nat):Int)=((tk eQ (c:Int) eQ.length).length:Int)+1 by omega]; rfl
 ·show (tk eQ (c:Int) eQ.length).length+1+12<=(0::ws++List.replicate 12 (0:Int)).length
  simp; omega
 ·rw [(List.mem_replicate.1 hx).2]; unfold Wd; omega
 ·rw [List.getElem?_replicate] at hx
  split at hx
  ·obtain rfl:=o9 hx
   have:=pX r (by omega)
   show ((List.replicate 32 (0:Int)).set 2 _)[col r]?=some 0
   rw [List.getElem?_set_ne (by omega),List.getElem?_replicate,if_pos (by omega)]
  ·cases hx
 ·rw [List.getElem?_replicate] at hx
  split at hx
  ·obtain rfl:=o9 hx
   show (0::ws++List.replicate 12 (0:Int))[(tk eQ (c:Int) eQ.length).length+1+(r-c)]?=some 0
   rw [List.getElem?_append_right (by simp; omega),List.getElem?_replicate,if_pos (by simp; omega)]
  ·cases hx
 ·have hkl:=pz hk
  show (0::ws++List.replicate 12 (0:Int))[1+k]?=some w
  rw [Nat.add_comm,List.cons_append,List.getElem?_cons_succ,List.getElem?_append_left hkl,hk]
 ·show (4:Int)=4*((1+pl eQ (c:Int) 0:Nat):Int)
  rfl
theorem zQ {α β:Type} {g:α->Option β}:∀ {l:List α},(∀ x∈l,∃ y,g x=some y)->∃ ys,mp g l=some ys
 | [],_=>⟨[],rfl⟩
 | x::xs,h=>by
  obtain ⟨y,hy⟩:=h x (by simp)
  obtain ⟨ys,hys⟩:=zQ (l:=xs) λz hz=>h z (by simp [hz])
  exact ⟨y::ys,by simp only [mp,hy,hys]⟩
theorem B3 {codes:List (List ah)} {c:Nat} (h8:1<=c/\c<=8) (l3:codes.length<=3) (ok:∀ eQ∈codes,COk eQ):lk codes (c:Int)=some (codes.map λeQ=>tk eQ (c:Int) eQ.length):=by
 have:=mg (f:=hY codes (c:Int)) (l:=codes) (g:=λeQ=>tk eQ (c:Int) eQ.length) (λi acc x hx ha=>by
  have hi:=pz hx
  unfold hY
  exact ai (by simpa using hi) (aa (c7 hx) (aa (Bz (ok x (List.mem_of_getElem? hx)) (by omega)) (aa (dN (by simp; omega)) (by rw [dH (by omega)]))))) (λacc ha=>by
  unfold hY
  exact ab (by simp) rfl)
 unfold lk
 exact aa this rfl
theorem B4 {codes:List (List ah)} {c N:Nat} {rooms:List Int} {s':CrS} (h8:1<=c/\c<=8) (l1:1<=codes.length) (l3:codes.length<=3) (ok:∀ eQ∈codes,COk eQ/\eQ.length<=40) (h2:rooms.length<=2) (hr:∀ r∈rooms,1<=r/\r<=4) (hR:ja rooms=true) (hA:thA rooms.length codes=true)
  (hN:N<=120) (hrun:Ar codes N (mh codes.length rooms) s') (hI':CrI codes rooms.length s') (ho':s'.out.length<=120) (hid:s'.id=codes.length) :
  ∃ z:cg,ll rooms (codes.map λeQ=>tk eQ (c:Int) eQ.length) 1200=some z/\DS z/\okB z=true/\z.Out=s'.out/\z.Boxes=s'.bx/\z.Idle=(codes.length:Int)/\z.Harts.length=codes.length /\
   ∀ (j:Nat) eQ ρ i m,codes[j]?=some eQ->s'.th[j]?=some (ρ,i)->z.Harts[j]?=some m->∃ q ws,eQ[i]?=some q/\Cl eQ c 1 ((tk eQ (c:Int) eQ.length).length+1) ws i ρ q (m.Regs,m.Pc,m.Mem):=by
 have nq:=xo.1 hA
 have h8':1<=(c:Int)/\(c:Int)<=8:=by omega
 obtain ⟨ms,hms⟩:=zQ (g:=Go.Proofs.YtgcmopfhafoabaaGreatDoor.N.hN) (l:=codes.map λeQ=>tk eQ (c:Int) eQ.length) λx hx=>by
  obtain ⟨eQ,hc,rfl⟩:=List.mem_map.1 hx
  obtain ⟨ws,_,e,_⟩:=zP (c:=c) (ok eQ hc).1 h8 (ok eQ hc).2
  exact ⟨_,e⟩
 obtain ⟨k1,k2⟩:=BH hms
 rw [List.length_map] at k1
 have hart:∀ (j:Nat) eQ m,codes[j]?=some eQ->ms[j]?=some m->∃ ws,wl (tk eQ (c:Int) eQ.length)=some ws/\CC eQ c 1 ((tk eQ (c:Int) eQ.length).length+1) ws/\MOK m.Regs m.Pc m.Mem/\Rl eQ c 1 ((tk eQ (c:Int) eQ.length).length+1) ws 0 (List.replicate 12 0) (m.Regs,m.Pc,m.Mem):=λj eQ m hj hm=>by
  obtain ⟨m',e1,e2⟩:=k2 j (tk eQ (c:Int) eQ.length) (by rw [List.getElem?_map,hj]; rfl)
  rw [hm] at e2
  obtain rfl:=o9 e2
  have hc:=ok eQ (List.mem_of_getElem? hj)
  obtain ⟨ws,w1,w2,w3,w4,w5⟩:=zP (c:=c) hc.1 h8 hc.2
  rw [w2] at e1
  obtain rfl:=o9 e1
  exact ⟨ws,w1,w3,w4,w5⟩
 let K:Kx:=⟨codes,c,λj=>((codes[j]?).bind λeQ=>wl (tk eQ (c:Int) eQ.length)).getD [],λj=>(((codes[j]?).map λeQ=>(tk eQ (c:Int) eQ.length).length).getD 0)+1,rooms.length⟩
 have hKF:∀ (j:Nat) eQ,codes[j]?=some eQ->K.F j=(tk eQ (c:Int) eQ.length).length+1:=λj eQ hj=>by show (((codes[j]?).map _).getD 0)+1=_; rw [hj]; rfl
 have hKw:∀ (j:Nat) eQ ws,codes[j]?=some eQ->wl (tk eQ (c:Int) eQ.length)=some ws->K.ws j=ws:=λj eQ ws hj hw=>by show (((codes[j]?).bind _).getD [])=_; rw [hj]; show ((wl (tk eQ (c:Int) eQ.length)).getD [])=ws; rw [hw]; rfl
 have hmj:∀ j,j<codes.length->∃ m,ms[j]?=some m:=λj hj=>⟨_,List.getElem?_eq_getElem (by omega)⟩
 have hK:BQ K:=by
  refine ⟨l1,l3,λj eQ hj=>?_,λj eQ hj q hq h6=>nq eQ (List.mem_of_getElem? hj) q hq h6⟩
  obtain ⟨m,hm⟩:=hmj j (pz hj)
  obtain ⟨ws,w1,w2,_⟩:=hart j eQ m hj hm
  rw [hKF j eQ hj,hKw j eQ ws hj w1]
  exact w2
 let z0:SqS:=⟨ms.map λm=>(m.Regs,m.Pc,m.Mem),rooms.map λr=>⟨r,[]⟩,0,0,[]⟩
 have hz0:(z0.ha.map mcM)=ms:=by show (ms.map _).map mcM=ms; rw [List.map_map]; exact (List.map_congr_left λm _=>rfl).trans (List.map_id' ms)
 have hbw:∀ b∈(rooms.map λr=>Box.mk r []),(1<=b.Room/\b.Room<=4)/\(b.Items.length:Int)<=b.Room/\∀ x∈b.Items,Wd x:=λb hb=>by
  obtain ⟨r,h,rfl⟩:=List.mem_map.1 hb
  have:=hr r h
  exact ⟨this,by simp only [List.length_nil]; omega,by simp⟩
 have hS:Sm K (mh codes.length rooms) z0:=by
  refine ⟨by simp [mh,K],by show (ms.map _).length=codes.length; rw [List.length_map]; exact k1,rfl,l1,rfl,by simp [mh,K],λb hb=>(hbw b hb).2.2,rfl,Nat.le_refl _,Nat.zero_le _,λj eQ ρ i m g1 g2 g3=>?_,λr j _ _ _ _ r1 r2=>by have:r<=0:=r2; omega⟩
  have g1:codes[j]?=some eQ:=g1
  have hj:=pz g1
  have:(mh codes.length rooms).th[j]?=some (List.replicate 12 0,0):=by
   show (List.replicate codes.length _)[j]?=_
   rw [List.getElem?_replicate,if_pos hj]
  rw [this] at g2
  obtain ⟨rfl,rfl⟩:=Prod.mk.inj (o9 g2)
  obtain ⟨m',hm'⟩:=hmj j hj
  have g3:(ms.map λm=>(m.Regs,m.Pc,m.Mem))[j]?=some m:=g3
  rw [List.getElem?_map,hm'] at g3
  obtain rfl:=o9 g3
  obtain ⟨ws,w1,w2,w3,w4⟩:=hart j eQ m' g1 hm'
  refine ⟨(ok eQ (List.mem_of_getElem? g1)).1.one,.inl ?_⟩
  rw [hKF j eQ g1,hKw j eQ ws g1 w1]
  exact w4
 obtain ⟨k,z1,⟨_,k9⟩,R1,hS1⟩:=BS hK hrun hS
 obtain ⟨k',z2,k3,R2,e1,e2,e3,e4,e5,e6⟩:=CS hK hS1 hid
 have hI0:SqI z0:=by
  refine ⟨by show 1<=(ms.map _).length; rw [List.length_map]; omega,by show (ms.map _).length<=3; rw [List.length_map]; omega,by show 0<(ms.map _).length; rw [List.length_map]; omega,λm hm=>?_,hbw⟩
  obtain ⟨m',h1,rfl⟩:=List.mem_map.1 hm
  obtain ⟨j,hj,rfl⟩:=List.getElem_of_mem h1
  obtain ⟨ws,_,_,w3,_⟩:=hart j codes[j] ms[j] (List.getElem?_eq_getElem (by omega)) (List.getElem?_eq_getElem hj)
  exact w3
 have hl0:z0.ha.length=codes.length:=by show (ms.map _).length=_; rw [List.length_map]; exact k1
 obtain ⟨f1,f2,f3,f4⟩:=wR (a4:=cg.mk ms (rooms.map λr=>Box.mk r []) 0 0 []) (j:=1200) (R1.add R2) hI0 (by rw [e1,hl0]) (by omega) (by show 0+1200<=_; omega)
 have hD0:DS (cg.mk ms (rooms.map λr=>Box.mk r []) 0 0 []):=by
  refine ⟨by simp only; omega,by simp only; omega,λm hm=>?_,by simp; omega,λb hb=>?_,by simp only; omega,by simp⟩
  ·obtain ⟨j,hj,rfl⟩:=List.getElem_of_mem hm
   obtain ⟨ws,_,_,w3,w4⟩:=hart j codes[j] ms[j] (List.getElem?_eq_getElem (by simp only at hj; omega)) (List.getElem?_eq_getElem hj)
   exact ⟨w3,w4.b.z0⟩
  ·obtain ⟨⟨g1,g2⟩,g3,g4⟩:=hbw b hb
   exact ⟨g1,g2,g3,g4⟩
 have hB0:okB (cg.mk ms (rooms.map λr=>Box.mk r []) 0 0 [])=true:=by
  unfold okB
  simp
  omega
 have v2:=(yX hD0).2
 rw [hB0] at v2
 obtain ⟨c1,c2,c3⟩:=yY hD0
 have hnew:ip rooms (codes.map λeQ=>tk eQ (c:Int) eQ.length)=some (cg.mk ms (rooms.map λr=>Box.mk r []) 0 0 [],true):=by
  have:=(BI (rooms:=rooms) (rW:=codes.map λeQ=>tk eQ (c:Int) eQ.length) (by omega) (by rw [List.length_map]; omega) (λx hx=>by
   obtain ⟨eQ,hc,rfl⟩:=List.mem_map.1 hx
   rw [sW]; have:=r9 eQ (c:Int) eQ.length; have:=(ok eQ hc).2; omega)).1
  rw [this]
  unfold sqR
  rw [if_pos ⟨hR,by rw [List.length_map]; exact l1,by rw [List.length_map]; exact l3⟩,hms]
 have hrunI:j3 (cg.mk ms (rooms.map λr=>Box.mk r []) 0 0 []) 1200=some (cg.mk (z2.ha.map mcM) z2.bx (z2.t:Int) (z2.id:Int) z2.out,true):=by
  unfold j3
  refine aa v2 (ab rfl (aa c1 (aa c2 (aa c3 ?_))))
  unfold iz
  refine aa (y:=((z2.t:Int),(z2.id:Int),true,z2.ha.map mcM,z2.bx,z2.out)) (aa (y:=.inr ((z2.t:Int),(z2.id:Int),z2.ha.map mcM,z2.bx,z2.out)) ?_ rfl) (ab rfl rfl)
  rw [hz0,hl0] at f1
  have e:(ms.length:Int)=(codes.length:Int):=by rw [k1]
  rw [e]
  exact f1
 have hl2:z2.ha.length=codes.length:=e4
 refine ⟨cg.mk (z2.ha.map mcM) z2.bx (z2.t:Int) (z2.id:Int) z2.out,?_,⟨by simp only [List.length_map]; omega,by simp only [List.length_map]; omega,λm hm=>?_,?_,λb hb=>?_,?_,?_⟩,?_,e3,e2,by show (z2.id:Int)=_; rw [e1],by simp only [List.length_map]; exact hl2,λj eQ ρ i m g1 g2 g3=>?_⟩
 ·unfold ll
  exact aa hnew (aa hrunI (ab rfl rfl))
 ·obtain ⟨m',h1,rfl⟩:=List.mem_map.1 hm
  obtain ⟨j,hj,rfl⟩:=List.getElem_of_mem h1
  obtain ⟨⟨ρ,i⟩,hρ⟩:∃ x,s'.th[j]?=some x:=⟨_,List.getElem?_eq_getElem (by have:=hI'.l; omega)⟩
  obtain ⟨q,q1,q2,q3⟩:=e6 j codes[j] ρ i z2.ha[j] (List.getElem?_eq_getElem (by omega)) hρ (List.getElem?_eq_getElem hj)
  exact ⟨f2.hm _ (List.getElem_mem hj),q3.b.z0⟩
 ·show z2.bx.length<=3
  rw [e2,hI'.bl]; omega
 ·obtain ⟨⟨g1,g2⟩,g3,g4⟩:=f2.bx b hb
  exact ⟨g1,g2,g3,g4⟩
 ·simp only [List.length_map]
  rw [e1,hl2]
  exact ⟨by omega,Int.le_refl _⟩
 ·show z2.out.length<=_
  rw [e3]; omega
 ·unfold okB
  simp only [List.length_map,Bool.and_eq_true,decide_eq_true_eq]
  refine ⟨⟨by omega,by have:z2.t<codes.length:=e5; omega⟩,?_⟩
  rw [e3]
  exact vD hI'.o
 ·have g3:(z2.ha.map mcM)[j]?=some m:=g3
  rw [List.getElem?_map] at g3
  cases hm:z2.ha[j]? with
  | none=>rw [hm] at g3; cases g3
  | some m' =>
   rw [hm] at g3
   obtain rfl:=o9 g3
   obtain ⟨q,q1,q2,q3⟩:=e6 j eQ ρ i m' g1 g2 hm
   rw [hKF j eQ g1] at q3
   exact ⟨q,_,q1,q3⟩
end
noncomputable section
theorem vK {l:List (List ah)} (hl:l.length<=1000) (h:∀ c∈l,c.length<=1000):i5 l l=some true:=by
 have e1:∀ c:List ah,c.length<=1000->j2 c c=some true:=λc hc=>by
  unfold j2
  refine ab (by simp) ?_
  have e:=fj (f:=gx c c) (l:=c) (λ_=>true) (by omega) (λi hi=>by
   unfold gx
   exact ai (by simpa using hi) (aa (cJ hi) (aa (cJ hi) (ab (by simp) rfl)))) (by
   unfold gx
   exact ab (by simp) rfl)
  rw [show c.all (λ_=>true)=true by simp] at e
  exact aa e rfl
 unfold i5
 refine ab (by simp) ?_
 have e:=fj (f:=fS l l) (l:=l) (λ_=>true) (by omega) (λi hi=>by
  unfold fS
  exact ai (by simpa using hi) (aa (cJ hi) (aa (cJ hi) (aa (e1 _ (h _ (List.getElem_mem hi))) (ab rfl rfl))))) (by
  unfold fS
  exact ab (by simp) rfl)
 rw [show l.all (λ_=>true)=true by simp] at e
 exact aa e rfl
theorem qX {c:cI} (h1:c.Codes.length<=1000) (h2:∀ x∈c.Codes,x.length<=1000) (h3:c.Threads.length<=1000) (h4:∀ x∈c.Threads,x.Regs.length<=1000) (h5:c.Boxes.length<=1000) (h6:∀ b∈c.Boxes,b.Items.length<=1000) (h7:c.Out.length<=1000):eS c c=some true:=by
 have e1:=fj (f:=fU c c) (l:=c.Threads) (λ_=>true) (by omega) (λi hi=>by
  unfold fU j5
  exact ai (by simpa using hi) (aa (cJ hi) (aa (cJ hi) (aa (y:=true) (aa (y:=true) (ai (by simp) (aa (oe (l:=(c.Threads[i]).Regs) (by have:=h4 _ (List.getElem_mem hi); omega)) rfl)) rfl) (ab rfl rfl))))) (by
  unfold fU
  exact ab (by simp) rfl)
 have e2:=fj (f:=gy c c) (l:=c.Threads) (λ_=>true) (by omega) (λi hi=>by
  unfold gy
  exact ai (by simpa using hi) (aa (cJ hi) (aa (cJ hi) (ab (by simp) rfl)))) (by
  unfold gy
  exact ab (by simp) rfl)
 rw [show c.Threads.all (λ_=>true)=true by simp] at e1 e2
 have e3:=vE (l:=c.Boxes) (by omega) (λb hb=>by have:=h6 b hb; omega)
 have e4:=oe (l:=c.Out) (by omega)
 unfold eS
 refine aa (vK h1 h2) (aa (y:=true) (ai rfl (aa (y:=true) ?_ rfl)) rfl)
 unfold lh
 refine ab (by simp) (aa e1 (aa (y:=true) ?_ rfl))
 unfold mq
 exact ab (by simp) (aa e2 (aa e3 (aa (y:=true) (ai rfl (aa e4 rfl)) rfl)))
theorem zb:eS crZ crZ=some true:=qX (by simp [crZ]) (by simp [crZ]) (by simp [crZ]) (by simp [crZ]) (by simp [crZ]) (by simp [crZ]) (by simp [crZ])
def DrC (z:List Int×List (List ah)):Prop:=∃ (codes:List (List ah)) (r1 r2:Int),(1<=codes.length/\codes.length<=3)/\(∀ c∈codes,COk c/\c.length<=40)/\(1<=r1/\r1<=4)/\(1<=r2/\r2<=4)/\(z=([r1,r2],codes)\/z=([],codes)\/z=([5,r2],codes)\/z=([r1,r2],codes++[[]]))
theorem xq {k:Nat} (hk:20<=k) {eQ:List Int} (h:∀ x∈eQ,0<=x/\x<=255):Tot (gr k eQ) DrC:=by
 unfold gr
 refine .bind (AZ h) λr ⟨hb,hp⟩=>.bind (bE (m:=0) hb (by rw [hp]; omega) (by rw [hp]; omega) (by omega) (by omega) (by omega)) λx hx=>.bind (bE hb hx.1 hx.2.1 (by omega) (by omega) (by omega)) λy hy=>.bind (BD hb hk hy.1 hy.2.1 (by omega)) λz hz=>?_
 have hx2:=hx.2.2
 have hy2:=hy.2.2
 obtain ⟨l1,l2,l3⟩:=hz.2.2
 rw [bf (i:=1+x.1) (by omega) (by omega),bf (i:=1+y.1) (by omega) (by omega)]
 refine .bind (P:=λq=>DrC (q.1,q.2.1)) (.bind (bE hb hz.1 hz.2.1 (by omega) (by omega) (by omega)) λt ht=>.sel (λ_=>.pure ⟨z.1,1+x.1,1+y.1,⟨l1,l2⟩,l3,by omega,by omega,.inr (.inl rfl)⟩) λ_=>.sel (λ_=>.bind (.nth (by omega) (by simp)) λ_ _=>.bind (.upd (by omega) (by simp)) λr hr=>.pure ?_) λ_=>.sel (λ_=>.bind (.app (by simp; omega)) λr hr=>.pure ?_) λ_=>.pure ⟨z.1,1+x.1,1+y.1,⟨l1,l2⟩,l3,by omega,by omega,.inl rfl⟩) λq hq=>.pure hq
 ·subst hr
  exact ⟨z.1,1+x.1,1+y.1,⟨l1,l2⟩,l3,by omega,by omega,.inr (.inr (.inl rfl))⟩
 ·subst hr
  exact ⟨z.1,1+x.1,1+y.1,⟨l1,l2⟩,l3,by omega,by omega,.inr (.inr (.inr rfl))⟩
def CrD (z:List Int×List (List ah)):Prop:=(cY z.1 z.2=some (crZ,false)/\dG z.1 z.2=some (crZ,false)) \/
  ((1<=z.2.length/\z.2.length<=3)/\(∀ c∈z.2,COk c/\c.length<=40)/\z.1.length<=2/\(∀ r∈z.1,1<=r/\r<=4)/\ja z.1=true/\thA z.1.length z.2=true/\CrI z.2 z.1.length (mh z.2.length z.1)/\eS (crM z.2 (mh z.2.length z.1)) (crM z.2 (mh z.2.length z.1))=some true /\
   cY z.1 z.2=some (crM z.2 (mh z.2.length z.1),true)/\dG z.1 z.2=some (crM z.2 (mh z.2.length z.1),true))
theorem zd {z:List Int×List (List ah)} (hz:DrC z):CrD z:=by
 obtain ⟨codes,r1,r2,⟨l1,l3⟩,ok,h1,h2,hz⟩:=hz
 have okc:∀ c∈codes,COk c:=λc hc=>(ok c hc).1
 have good:∀ rooms:List Int,rooms.length<=2->(∀ r∈rooms,1<=r/\r<=4)->ja rooms=true->z=(rooms,codes)->CrD z:=λrooms hl hr hR hz=>by
  subst hz
  obtain ⟨e1,e2⟩:=BZ l1 l3 okc hl hr hR
  have hb:=BX l1 l3 okc hl hr
  cases hA:thA rooms.length codes with
  | false =>
   rw [hA,if_neg (by simp)] at e1 e2
   exact Or.inl ⟨e1,e2⟩
  | true =>
   rw [hA,if_pos rfl] at e1 e2
   refine Or.inr ⟨⟨l1,l3⟩,ok,hl,hr,hR,hA,⟨hb,xo.1 hA⟩,qX ?_ ?_ ?_ ?_ ?_ ?_ ?_,e1,e2⟩
   ·show codes.length<=1000; omega
   ·intro x hx; have:=(okc x hx).max; omega
   ·show (List.map thM (List.replicate codes.length _)).length<=1000; simp; omega
   ·intro x hx
    obtain ⟨y,hy,rfl⟩:=List.mem_map.1 hx
    rw [(List.mem_replicate.1 hy).2]
    simp [thM]
   ·show (List.map _ rooms).length<=1000; rw [List.length_map]; omega
   ·intro b hb'
    obtain ⟨r,h,rfl⟩:=List.mem_map.1 hb'
    simp
   ·show ([]:List Int).length<=1000; simp
 rcases hz with hz | hz | hz | hz
 ·exact good [r1,r2] (by simp) (λr hr=>by simp only [List.mem_cons,List.not_mem_nil,or_false] at hr; rcases hr with rfl | rfl; exact h1; exact h2) (vC h1 h2) hz
 ·exact good [] (by simp) (λr hr=>by simp at hr) yZ hz
 ·subst hz
  exact .inl (Ax (by simp only; omega) (λc hc=>by have:=(ok c hc).2; omega) (by simp) (yk r2))
 ·subst hz
  exact .inl (y0 l1 l3 okc h1 h2)
theorem CU {codes:List (List ah)} {rooms:List Int} (hI:CrI codes rooms.length (mh codes.length rooms)) (e:cY rooms codes=some (crM codes (mh codes.length rooms),true)) {n:Nat} (hn:n<=1000):∃ N s',N<=n/\Ar codes N (mh codes.length rooms) s'/\CrI codes rooms.length s'/\s'.out.length<=n/\mH rooms codes (n:Int)=some (crM codes s'):=by
 obtain ⟨N,s',n1,n2,n3,n4,_,n6⟩:=B2 hI (by simp [mh]) (n:=n) (by omega)
 refine ⟨N,s',n1,n2,n3,by simpa [mh] using n4,?_⟩
 unfold mH
 exact aa e (aa n6 (ab rfl rfl))
theorem ze {k:Nat} (hk:20<=k) {a0:List Int} (h:∀ x∈a0,0<=x/\x<=255):jr k a0=some true:=by
 refine Tot.eq ?_
 unfold jr
 refine .sel (λ_=>.pure rfl) λhlen=>.bind (xq hk h) λz hz=>?_
 rcases zd hz with ⟨e1,e2⟩ | ⟨⟨l1,l3⟩,ok,hl,hr,hR,hA,hI,hS,e1,e2⟩
 ·have hS:=zb
  exact .of (aa e1 (aa e2 (aa (y:=false) (ab rfl (aa hS rfl)) (ai rfl (aa (y:=true) (ai rfl (aa hS rfl)) rfl))))) rfl
 ·obtain ⟨rooms,codes⟩:=z
  simp only at l1 l3 ok hl hr hR hA hI hS e1 e2
  obtain ⟨N,s',n1,n2,n3,n4,n5⟩:=CU hI e1 (n:=120) (by omega)
  refine .of (aa e1 (aa e2 (aa (y:=false) (ab rfl (aa hS rfl)) (ab rfl (aa n5 ?_))))) rfl
  have hth:((s'.th.map thM).length:Int)=(codes.length:Int):=by rw [List.length_map,n3.l]
  by_cases hid:s'.id=codes.length
  ·refine ab ?_ ?_
   ·show (((s'.th.map thM).length:Int) !=(codes.length:Int)||decide ((s'.id:Int)<(codes.length:Int)))=false
    rw [hth,hid]; simp
   obtain ⟨z,z1,z2,z3,z4,z5,z6,z7,z8⟩:=B4 (c:=8) (by omega) l1 l3 ok hl hr hR hA n1 n2 n3 n4 hid
   have hT:=B3 (c:=8) (by omega) l3 λc hc=>(ok c hc).1
   have L:=j6 (f:=eK (rooms,codes) (crM codes s') z) (ρ:=Bool⊕Unit) (λi=>((i:Nat):Int)) codes.length (r:=.inr ()) (λj hj=>by
    obtain ⟨⟨ρ,i⟩,hρ⟩:∃ x,s'.th[j]?=some x:=⟨_,List.getElem?_eq_getElem (by have:=n3.l; omega)⟩
    obtain ⟨m,hm⟩:∃ m,z.Harts[j]?=some m:=⟨_,List.getElem?_eq_getElem (by omega)⟩
    have hcj:=List.getElem?_eq_getElem hj
    obtain ⟨q,ws,q1,q2⟩:=z8 j codes[j] ρ i m hcj hρ hm
    have hlρ:=(n3.th _ _ _ _ hρ hcj).1
    have L2:=j6 (f:=eJ (rooms,codes) (crM codes s') z (j:Int)) (ρ:=Bool⊕Unit) (λi=>((i:Nat):Int)) 8 (r:=.inr ()) (λr hr8=>by
     obtain ⟨x,hx⟩:∃ x,ρ[r]?=some x:=⟨_,List.getElem?_eq_getElem (by omega)⟩
     have hreg:m.Regs[col r]?=some x:=q2.v.hi r x (by omega) hr8 hx
     have hcol:nth [8,9,18,19,20,21,22,23] (r:Int)=some ((col r:Nat):Int):=by
      rcases (by omega:r=0\/r=1\/r=2\/r=3\/r=4\/r=5\/r=6\/r=7) with rfl | rfl | rfl | rfl | rfl | rfl | rfl | rfl <;> rfl
     have hne:((z.Harts.length:Int) !=(codes.length:Int))=false:=by rw [z7]; simp
     unfold eJ
     refine ai (by simp; omega) (aa (c7 hm) (aa (y:=thM (ρ,i)) (c7 (by show (s'.th.map thM)[j]?=_; rw [List.getElem?_map,hρ]; rfl)) (aa (y:=false) (ab hne (aa hcol (aa (d8 hreg) (aa (y:=x) (d8 hx) (by simp))))) (ab rfl (by rw [dH (by omega)])))))) (by unfold eJ; exact ab (by simp) rfl)
    unfold eK
    exact ai (by simpa using hj) (aa L2 (by dsimp only [fu]; rw [dH (by omega)]))) (by unfold eK; exact ab (by simp) rfl)
   exact aa hT (aa z1 (aa L rfl))
  ·refine ai ?_ ?_
   ·show (((s'.th.map thM).length:Int) !=(codes.length:Int)||decide ((s'.id:Int)<(codes.length:Int)))=true
    have:=n3.il
    rw [hth,decide_eq_true (by omega)]; simp
   ·show some (((s'.th.map thM).length:Int)==(codes.length:Int))=_
    rw [hth]; simp
end
noncomputable section
abbrev CL := Calls Tryz.prog
abbrev vi (x:Int):Value := Value.int IntKind.i64 x
abbrev RO (w:World) (h:Hd) {α:Type} := @RV α w (Old No w) (sv h)
abbrev RU (w:World) (v:Value) := Ret No w (λ_:Unit => v) λ_ => []
theorem z.{u} {α:Sort u} {a:α}:a=a := rfl
theorem zz {A S T:Nat->Prop} (h:∀ b, S b->A b/\T b):∀ b, S b->T b := λb hb => (h b hb).2
end
end Go.Proofs.YtgcmopfhafoabaaGreatDoor.N
namespace Go.Proofs.YtgcmopfhafoabaaGreatDoor.X
noncomputable section
theorem CW.g {P:Program} {n id:Nat} {ops:Array Oper} {d:Code} {E:Env} {W:World} {R:Exit->Env->World->Prop} (h:RG P n ops ops.toList E W (λE' W' => CW P n d E' W' R)):CW P n (.seq (.region id ops false) d) E W R := .seq (.region h)
variable {P:Program} {n:Nat} {ops:Array Oper} {o:Oper} {E:Env} {W:World} {v:Value} {K:Env->World->Prop} {SW:World->Prop} {k f:Nat} {ls:Array Bool}
theorem RK.tp' (i:Nat) (ho:ops[i]?=some o) (hv:pq n E o=some v) (hS:SW W) (h:RK P n ops SW k f (ls.setIfInBounds i true) (put E o.dst v) W K) (hs:(Region.noSelect ops&&Region.free .any ops ls i&&(Region.ready .any ops ls).contains i&&kA ops k i&&!(Nat.beq i k))=true := by kernel_rfl):RK P n ops SW k (f+1) ls E W K := .tp i ho hv hS hs h
theorem RK.ts' (i:Nat) (ho:ops[i]?=some o) (hv:∀ W, SW W->fY P n E o W v W) (hS:SW W) (hg:og n o=true) (h:RK P n ops SW k f (ls.setIfInBounds i true) (put E o.dst v) W K) (hs:(Region.noSelect ops&&Region.free .any ops ls i&&(Region.ready .any ops ls).contains i&&kA ops k i&&!(Nat.beq i k))=true := by kernel_rfl):RK P n ops SW k (f+1) ls E W K := .ts i ho hv hS hg hs h
theorem RG.qn {P:Program} {n:Nat} {ops:Array Oper} {o:Oper} {E:Env} {W:World} {v:Value} {K:Env->World->Prop} (h:pq n E o=some v) (k:K (put E o.dst v) W):RG P n ops [o] E W K := .q h (.nil k)
end
end Go.Proofs.YtgcmopfhafoabaaGreatDoor.X
namespace Go.Proofs.YtgcmopfhafoabaaGreatDoor.N
open Go.Proofs.YtgcmopfhafoabaaGreatDoor.X
open T Tryz
noncomputable section
theorem vL {a0:List Int} {v_0:Hd} {w:World} {r:aP} (h:mA a0=some r) (q_0:RO w v_0 5 1 (D.int .u8) a0):CL 38 #[sv v_0] w (Ret No w (λs:Nat×{x:Hd // ∀ (T:Nat->Prop),RV w T (sv v_0) 5 1 (D.int .u8) a0->RV w T (sv x) 5 1 (D.int .u8) r.b}=>.pointer (some ⟨s.1,0,none⟩)) (λs=>[.box s.1 117 [(sv s.2.1),vi r.p]])):=by
 unfold mA at h
 refine au func38 z z ?_
 have s:=Sep.start w
 refine .g (.qn z (bv h λy1 hy1 h=>?_))
 refine .seq (CW.via (R':=λx E' W'=>x=.normal/\∃ (v1:Hd),(∀ (T:Nat->Prop),RV w T (sv v_0) 5 1 (D.int .u8) a0->RV w T (sv v1) 5 1 (D.int .u8) y1)/\aD E' [(0,(sv v1))]/\Sep No w W' []) ?_ ?_)
 ·have h:=hy1
  refine .g (.q z (.s (a8 (s.keep q_0) u22 z z) z (.q z (.nil ?_))))
  refine .cs z h ?_ ?_ <;> intro h
  ·refine .region (.q z (bv h λr1 hr1 h=>.s (slv hr1 q_0 u22 t5 z z z z) z (.q z (.nil ?_))))
   obtain rfl:=o9 h
   exact ⟨z,(rN v_0 (Int.toNat 0) 1 r1.length),λ_ q_0=>(AK hr1 q_0),sb z,s.to []⟩
  refine .skip ?_
  obtain rfl:=o9 h
  exact ⟨z,v_0,λ_ q_0=>q_0,sb z,s.to []⟩
 intro x E W hJ
 obtain ⟨rfl,v2,q2,hE,s⟩:=hJ
 refine ⟨_,hE.sub,?_⟩
 refine .g (.q z (.s (bs T.s117 z z) z (.c (.box s z z ?_))))
 intro g1 W s
 cases h
 exact .qn z (.ret (ac (g1,⟨v2,λ_ q_0=>(q2 _ q_0)⟩) (rt z rn) z (s.to [0])))
theorem aj {a0:aP} {a1:Int} {aw:Hd} {g_0:Nat} {S:Nat->Prop} {w:World} {r:Int×Int} (h:ar a0 a1=some r) (aN:RV w (Old S w) (sv aw) 5 1 (D.int .u8) a0.b) (hO:bQ w [.box g_0 117 [sv aw,vi a0.p]] S) (hlt:∀ b,S b->b<w.heap.size):CL 39 #[Pt g_0,vi a1] w (Ret S w (λs:Unit=>.int .i64 r.1) (λs=>[.box g_0 117 [sv aw,vi r.2]])):=by
 unfold ar at h
 refine au func39 z z ?_
 have s:=Sep.sm hO hlt
 refine .g (.qn z (.g (.q z (.q z (.q z (.s (fa f117_1 z z z) z (.s (ld T.t3 s z z z z z) z (.q z (.q z (.s (fa f117_1 z z z) z (.c (.st T.t3 s z z z ?_))))))))))))
 intro W s
 refine .nil (.seq (.g (.q z (.q z (.q z (.cu 7 24 ((decide (a1<1))||((a0.b.length:Int)==0)) s ?_ ?_))))))
 ·refine .both (decide (a1<1)) (λb=>?_) (λb=>?_)
  ·exact .xx b z (.xx b z (.xx b z (.xx b z (.xx b z (.xx b z (.s (pkt b z z z) z (.nil (ck 7 s z (ff b)))))))))
  have hg1:=b
  exact .g hg1 (.q z (.g hg1 (.q z (.g hg1 (.s (fa f117_0 z z z) z (.g hg1 (.s (ld t22 s z z z z z) z (.g hg1 (.s (a8 (s.keep aN) u22 z z) z (.g hg1 (.q z (.s (pkf hg1 z z z) z (.nil (ck 7 s z (fg hg1)))))))))))))))
 intro W s
 refine .nil ?_
 refine .cs z h ?_ ?_ <;> intro h
 ·cases h
  exact .g (.qn z (.ret (ac () (rt z rn) z (s.to [0]))))
 refine .skip (.g (.q z (.q z (.s (fa f117_1 z z z) z (.s (ld T.t3 s z z z z z) z (.q z (.qn z (.seq (.g (.q z (.q z (.q z (.s (fa f117_0 z z z) z (.s (ld t22 s z z z z z) z (.s (a8 (s.keep aN) u22 z z) z (.q z (.nil ?_)))))))))))))))))
 refine .cs z h ?_ ?_ <;> intro h
 ·refine .g (.q z (.q z (.s (fa f117_0 z z z) z (.s (ld t22 s z z z z z) z (.q z (bv h λx1 hx1 h=>.s (ixv (s.keep aN) hx1 u22 t5 z z z) z (.s (lde (RV.flat (s.keep aN) hx1 z) t5 z z z z z) z (.s (cv u5 u3 z z) z (.q z (bv h λd1 hd1 h=>.s (dr hd1 z z z) z (.qn z (.ret ?_))))))))))))
  cases h
  exact ac () (rt z rn) z (s.to [0])
 refine .skip (.seq (.rk 46 s [0] T.mix ?_))
 intro W s
 have t:=s.to [0]
 refine .tp' 0 z z t (.tp' 1 z z t (.ts' 2 z (λW t=>fa f117_0 z z z) t z (.ts' 3 z (λW t=>ld t22 t z z z z z) t z (.tp' 4 z z t (.tp' 5 z z t (.tp' 6 z z t (.ts' 7 z (λW t=>fa f117_0 z z z) t z (.ts' 8 z (λW t=>ld t22 t z z z z z) t z (.ts' 9 z (λW t=>a8 (s.keep aN) u22 z z) t z (bv h λd2 hd2 h=>.ts' 10 z (λW t=>dr hd2 z z z) t z (bv h λx2 hx2 h=>.ts' 11 z (λW t=>ixv (s.keep aN) hx2 u22 t5 z z z) t z (.ts' 12 z (λW t=>lde (RV.flat (t.keep aN) hx2 z) t5 z z z z z) t z (.ts' 13 z (λW t=>cv u5 u3 z z) t z (.tp' 14 z z t (.tp' 15 z z t (.tp' 16 z z t (.ts' 17 z (λW t=>fa f117_0 z z z) t z (.ts' 18 z (λW t=>ld t22 t z z z z z) t z (.tp' 19 z z t (.tp' 20 z z t (.tp' 21 z z t (.tp' 22 z z t (.tp' 23 z z t (.ts' 24 z (λW t=>fa f117_0 z z z) t z (.ts' 25 z (λW t=>ld t22 t z z z z z) t z (.ts' 26 z (λW t=>a8 (s.keep aN) u22 z z) t z (bv h λd3 hd3 h=>.ts' 27 z (λW t=>dr hd3 z z z) t z (bv h λx3 hx3 h=>.ts' 28 z (λW t=>ixv (s.keep aN) hx3 u22 t5 z z z) t z (.ts' 29 z (λW t=>lde (RV.flat (t.keep aN) hx3 z) t5 z z z z z) t z (.ts' 30 z (λW t=>cv u5 u3 z z) t z (.tp' 31 z z t (.tp' 32 z z t (.tp' 33 z z t (.tp' 34 z z t (.tp' 35 z z t (.tp' 36 z z t (.tp' 37 z z t (.tp' 38 z z t (.ts' 39 z (λW t=>fa f117_0 z z z) t z (.ts' 40 z (λW t=>ld t22 t z z z z z) t z (.ts' 41 z (λW t=>a8 (s.keep aN) u22 z z) t z (bv h λd4 hd4 h=>.ts' 42 z (λW t=>dq hd4 z z z) t z (.tp' 43 z z t (.tp' 44 z z t (.tp' 45 z z t (.done (.g (.q z (.q z (.q z (.q z (.qn z (.g (.q z (.q z (bv h λd5 hd5 h=>.s (dr hd5 z z z) z (.qn z (.ret ?_))))))))))))))))))))))))))))))))))))))))))))))))))))))))))
 cases h
 exact ac () (rt z rn) z (s.to [0])
theorem dD {a0:aP} {aw:Hd} {g_0:Nat} {S:Nat->Prop} {w:World} {r:Int×Int} (h:dv a0=some r) (aN:RV w (Old S w) (sv aw) 5 1 (D.int .u8) a0.b) (hO:bQ w [.box g_0 117 [sv aw,vi a0.p]] S) (hlt:∀ b,S b->b<w.heap.size):CL 194 #[Pt g_0] w (Ret S w (λs:Unit=>.int .i64 r.1) (λs=>[.box g_0 117 [sv aw,vi r.2]])):=by
 unfold dv at h
 refine au func194 z z ?_
 have s:=Sep.sm hO hlt
 refine .g (.qn z (.g (.q z (bv h λy1 hy1 h=>.c (.cS (L0:=[.box g_0 117 [sv aw,vi a0.p]]) s func39 (λS h1 h2 h3=>(aj hy1 (s.ks aN h1) h2 (zz h1))) z z ?_)))))
 rintro ⟨⟩ W s
 cases h
 exact .qn z (.ret (ac () (rt z rn) z (s.to [0])))
theorem jw {a0:Int} {w:World} {r:Int} (h:cn a0=some r):CL 72 #[vi a0] w (RU w (.int .i64 r)):=by
 unfold cn at h
 refine au func72 z z ?_
 have s:=Sep.start w
 refine .g (.qn z (.g (.q z (.q z (.qn z (.seq (.g (.q z (.q z (.nil ?_))))))))))
 refine .cs z h ?_ ?_ <;> intro h
 ·cases h
  exact .g (.q z (.q z (.qn z (.ret (ac () (rt z rn) z (s.to []))))))
 refine .skip (.seq (.g (.q z (.q z (.nil ?_)))))
 refine .cs z h ?_ ?_ <;> intro h
 ·cases h
  exact .g (.q z (.q z (.qn z (.ret (ac () (rt z rn) z (s.to []))))))
 cases h
 exact .skip (.g (.q z (.qn z (.ret (ac () (rt z rn) z (s.to []))))))
theorem uf {a0:aP} {aw:Hd} {g_0:Nat} {S:Nat->Prop} {w:World} {r:Int×Int} (h:kB a0=some r) (aN:RV w (Old S w) (sv aw) 5 1 (D.int .u8) a0.b) (hO:bQ w [.box g_0 117 [sv aw,vi a0.p]] S) (hlt:∀ b,S b->b<w.heap.size):CL 195 #[Pt g_0] w (Ret S w (λs:Unit=>.int .i64 r.1) (λs=>[.box g_0 117 [sv aw,vi r.2]])):=by
 unfold kB at h
 refine au func195 z z ?_
 have s:=Sep.sm hO hlt
 refine .g (.qn z (.seq (.g (.q z (bv h λy1 hy1 h=>.c (.cS (L0:=[.box g_0 117 [sv aw,vi a0.p]]) s func39 (λS h1 h2 h3=>(aj hy1 (s.ks aN h1) h2 (zz h1))) z z ?_))))))
 rintro ⟨⟩ W s
 refine .nil (.block (.g (.q z (.qn z (.cond z (λb=>?_) (λb=>?_))))))
 ·have h:=aK b h
  refine .g (.c (.liv [(-2147483648),2147483647,(-1),0,1,(-2147483647),65536,(-65536)] (D.int .i64) u23 T.t3 s z z z z ?_ z (λ_=>z)))
  intro v1 W s
  refine .q z (bv h λy2 hy2 h=>?_)
  have s:=s.p1
  refine .c (.cS (L0:=[.box g_0 117 [sv aw,vi y1.2]]) s func39 (λS h1 h2 h3=>(aj hy2 (s.ks aN h1) h2 (zz h1))) z z ?_)
  rintro ⟨⟩ W s
  refine bv h λx1 hx1 h=>.s (ixv s.p1.lv hx1 u23 T.t3 z z z) z (.s (lde (RV.flat s.p1.lv hx1 z) T.t3 z z z z z) z (.qn z (.ret ?_)))
  cases h
  exact ac () (rt z rn) z (s.to [0])
 have h:=aL b h
 refine .g (.q z (.qn z (.cond z (λb=>?_) (λb=>?_))))
 ·have h:=aK b h
  refine .g (.q z (bv h λy3 hy3 h=>.c (.cS (L0:=[.box g_0 117 [sv aw,vi y1.2]]) s func39 (λS h1 h2 h3=>(aj hy3 (s.ks aN h1) h2 (zz h1))) z z ?_)))
  rintro ⟨⟩ W s
  refine .q z (.q z (bv h λy4 hy4 h=>.c (.cS (L0:=[.box g_0 117 [sv aw,vi y3.2]]) s func39 (λS h1 h2 h3=>(aj hy4 (s.ks aN h1) h2 (zz h1))) z z ?_)))
  rintro ⟨⟩ W s
  refine .q z (.q z (.q z (bv h λy5 hy5 h=>.c (.cS (L0:=[.box g_0 117 [sv aw,vi y4.2]]) s func39 (λS h1 h2 h3=>(aj hy5 (s.ks aN h1) h2 (zz h1))) z z ?_))))
  rintro ⟨⟩ W s
  refine .q z (.q z (bv h λy6 hy6 h=>.c (.cS (L0:=[.box g_0 117 [sv aw,vi y5.2]]) s func39 (λS h1 h2 h3=>(aj hy6 (s.ks aN h1) h2 (zz h1))) z z ?_)))
  rintro ⟨⟩ W s
  refine .q z (.q z (bv h λy7 hy7 h=>.c (.cO s func72 (jw hy7) z z ?_)))
  intro W s
  cases h
  exact .qn z (.ret (ac () (rt z rn) z (s.to [0])))
 have h:=aL b h
 refine .g (.q z (.qn z (.cond z (λb=>?_) (λb=>?_))))
 ·have h:=aK b h
  refine .g (.q z (bv h λy8 hy8 h=>.c (.cS (L0:=[.box g_0 117 [sv aw,vi y1.2]]) s func39 (λS h1 h2 h3=>(aj hy8 (s.ks aN h1) h2 (zz h1))) z z ?_)))
  rintro ⟨⟩ W s
  cases h
  exact .q z (.qn z (.ret (ac () (rt z rn) z (s.to [0]))))
 have h:=aL b h
 refine .skip (.g (.q z (bv h λy9 hy9 h=>.c (.cS (L0:=[.box g_0 117 [sv aw,vi y1.2]]) s func39 (λS h1 h2 h3=>(aj hy9 (s.ks aN h1) h2 (zz h1))) z z ?_))))
 rintro ⟨⟩ W s
 cases h
 exact .qn z (.ret (ac () (rt z rn) z (s.to [0])))
theorem qY {a0:aP} {aw:Hd} {g_0:Nat} {S:Nat->Prop} {w:World} {r:Int×Int} (h:lK a0=some r) (aN:RV w (Old S w) (sv aw) 5 1 (D.int .u8) a0.b) (hO:bQ w [.box g_0 117 [sv aw,vi a0.p]] S) (hlt:∀ b,S b->b<w.heap.size):CL 196 #[Pt g_0] w (Ret S w (λs:Unit=>.int .i64 r.1) (λs=>[.box g_0 117 [sv aw,vi r.2]])):=by
 unfold lK at h
 refine au func196 z z ?_
 have s:=Sep.sm hO hlt
 refine .g (.qn z (.g (.q z (bv h λy1 hy1 h=>.c (.cS (L0:=[.box g_0 117 [sv aw,vi a0.p]]) s func39 (λS h1 h2 h3=>(aj hy1 (s.ks aN h1) h2 (zz h1))) z z ?_)))))
 rintro ⟨⟩ W s
 cases h
 exact .q z (.qn z (.ret (ac () (rt z rn) z (s.to [0]))))
theorem ug {a0:aP} {a1:Int} {aw:Hd} {g_0:Nat} {S:Nat->Prop} {w:World} {r:ah×Int} (h:kC a0 a1=some r) (aN:RV w (Old S w) (sv aw) 5 1 (D.int .u8) a0.b) (hO:bQ w [.box g_0 117 [sv aw,vi a0.p]] S) (hlt:∀ b,S b->b<w.heap.size):CL 172 #[Pt g_0,vi a1] w (Ret S w (λs:Unit=>.agg #[vi r.1.Op,vi r.1.Dst,vi r.1.A,vi r.1.B,vi r.1.N]) (λs=>[.box g_0 117 [sv aw,vi r.2]])):=by
 unfold kC at h
 refine au func172 z z ?_
 have s:=Sep.sm hO hlt
 refine .g (.c (.alloc t102 s ?_))
 intro g1 W s
 refine .nil (.seq (.g (.q z (bv h λy1 hy1 h=>?_))))
 have s:=s.p1
 refine .c (.cS (L0:=[.box g_0 117 [sv aw,vi a0.p]]) s func39 (λS h1 h2 h3=>(aj hy1 (s.ks aN h1) h2 (zz h1))) z z ?_)
 rintro ⟨⟩ W s
 refine .nil (.block (bv h λy2 hy2 h=>?_))
 refine .seq (CW.via (R':=λx E' W'=>x=.normal/\aD E' [(0,Pt g_0),(1,vi a1),(4,Pt g1),(13,vi y1.1),(14,.bool y2)]/\Sep S w W' [.box g_0 117 [sv aw,vi y1.2],.box g1 102 [vi 0,vi 0,vi 0,vi 0,vi 0]]) ?_ ?_)
 ·have h:=hy2
  refine .g (.q z (.q z (.nil ?_)))
  refine .cs z h ?_ ?_ <;> intro h
  ·refine .skip ?_
   cases h
   exact ⟨z,sb z,s.to [0,0]⟩
  refine .region (.q z (.q z (.nil ?_)))
  cases h
  exact ⟨z,sb z,s.to [0,0]⟩
 intro x E W hJ
 obtain ⟨rfl,hE,s⟩:=hJ
 refine ⟨_,hE.sub,?_⟩
 refine .cond z (λb=>?_) (λb=>?_)
 ·have h:=aK b h
  refine .g (.q z (bv h λy3 hy3 h=>.c (.cS (L0:=[.box g_0 117 [sv aw,vi y1.2]]) s func194 (λS h1 h2 h3=>(dD hy3 (s.ks aN h1) h2 (zz h1))) z z ?_)))
  rintro ⟨⟩ W s
  refine .q z (bv h λy4 hy4 h=>.c (.cS (L0:=[.box g_0 117 [sv aw,vi y3.2]]) s func195 (λS h1 h2 h3=>(uf hy4 (s.ks aN h1) h2 (zz h1))) z z ?_))
  rintro ⟨⟩ W s
  refine .c (.liv [0,1,2,y4.1] (D.int .i64) u23 T.t3 s z z z z ?_ z (λ_=>z))
  intro v1 W s
  refine .q z (bv h λy5 hy5 h=>?_)
  have s:=s.p1
  refine .c (.cS (L0:=[.box g_0 117 [sv aw,vi y4.2]]) s func39 (λS h1 h2 h3=>(aj hy5 (s.ks aN h1) h2 (zz h1))) z z ?_)
  rintro ⟨⟩ W s
  refine bv h λx1 hx1 h=>.s (ixv s.p1.lv hx1 u23 T.t3 z z z) z (.s (lde (RV.flat s.p1.lv hx1 z) T.t3 z z z z z) z (.s (bs T.s102 z z) z (.c (.st t102 s.p2 z z z ?_))))
  intro W s
  cases h
  exact .nil (.ret (ac () (rc s t102 z rn z z) z (s.to [1])))
 have h:=aL b h
 refine bv h λy6 hy6 h=>?_
 refine .seq (CW.via (R':=λx E' W'=>x=.normal/\aD E' [(0,Pt g_0),(1,vi a1),(4,Pt g1),(13,vi y1.1),(27,.bool y6)]/\Sep S w W' [.box g_0 117 [sv aw,vi y1.2],.box g1 102 [vi 0,vi 0,vi 0,vi 0,vi 0]]) ?_ ?_)
 ·have h:=hy6
  refine .g (.q z (.q z (.nil ?_)))
  refine .cs z h ?_ ?_ <;> intro h
  ·refine .skip ?_
   cases h
   exact ⟨z,sb z,s.to [0,0]⟩
  refine .region (.q z (.q z (.nil ?_)))
  cases h
  exact ⟨z,sb z,s.to [0,0]⟩
 intro x E W hJ
 obtain ⟨rfl,hE,s⟩:=hJ
 refine ⟨_,hE.sub,?_⟩
 refine .cond z (λb=>?_) (λb=>?_)
 ·have h:=aK b h
  refine .g (.q z (bv h λy7 hy7 h=>.c (.cS (L0:=[.box g_0 117 [sv aw,vi y1.2]]) s func194 (λS h1 h2 h3=>(dD hy7 (s.ks aN h1) h2 (zz h1))) z z ?_)))
  rintro ⟨⟩ W s
  refine .qn z (.g (.q z (.q z (bv h λy8 hy8 h=>.c (.cS (L0:=[.box g_0 117 [sv aw,vi y7.2]]) s func194 (λS h1 h2 h3=>(dD hy8 (s.ks aN h1) h2 (zz h1))) z z ?_)))))
  rintro ⟨⟩ W s
  refine .s (bs T.s102 z z) z (.c (.st t102 s.p1 z z z ?_))
  intro W s
  cases h
  exact .nil (.ret (ac () (rc s t102 z rn z z) z (s.to [1])))
 have h:=aL b h
 refine bv h λy9 hy9 h=>?_
 refine .seq (CW.via (R':=λx E' W'=>x=.normal/\aD E' [(0,Pt g_0),(1,vi a1),(4,Pt g1),(13,vi y1.1),(36,.bool y9)]/\Sep S w W' [.box g_0 117 [sv aw,vi y1.2],.box g1 102 [vi 0,vi 0,vi 0,vi 0,vi 0]]) ?_ ?_)
 ·have h:=hy9
  refine .g (.q z (.q z (.nil ?_)))
  refine .cs z h ?_ ?_ <;> intro h
  ·refine .skip ?_
   cases h
   exact ⟨z,sb z,s.to [0,0]⟩
  refine .g (.q z (.q z (.nil ?_)))
  refine .cs z h ?_ ?_ <;> intro h
  ·refine .skip ?_
   cases h
   exact ⟨z,sb z,s.to [0,0]⟩
  refine .region (.q z (.q z (.nil ?_)))
  cases h
  exact ⟨z,sb z,s.to [0,0]⟩
 intro x E W hJ
 obtain ⟨rfl,hE,s⟩:=hJ
 refine ⟨_,hE.sub,?_⟩
 refine .cond z (λb=>?_) (λb=>?_)
 ·have h:=aK b h
  refine .g (.q z (bv h λy10 hy10 h=>.c (.cS (L0:=[.box g_0 117 [sv aw,vi y1.2]]) s func194 (λS h1 h2 h3=>(dD hy10 (s.ks aN h1) h2 (zz h1))) z z ?_)))
  rintro ⟨⟩ W s
  refine .qn z (.g (.q z (bv h λy11 hy11 h=>.c (.cS (L0:=[.box g_0 117 [sv aw,vi y10.2]]) s func194 (λS h1 h2 h3=>(dD hy11 (s.ks aN h1) h2 (zz h1))) z z ?_))))
  rintro ⟨⟩ W s
  refine .qn z (.g (.q z (bv h λy12 hy12 h=>.c (.cS (L0:=[.box g_0 117 [sv aw,vi y11.2]]) s func194 (λS h1 h2 h3=>(dD hy12 (s.ks aN h1) h2 (zz h1))) z z ?_))))
  rintro ⟨⟩ W s
  refine .qn z (.g (.q z (.q z (.q z (.q z (bv h λy13 hy13 h=>.c (.cS (L0:=[.box g_0 117 [sv aw,vi y12.2]]) s func196 (λS h1 h2 h3=>(qY hy13 (s.ks aN h1) h2 (zz h1))) z z ?_)))))))
  rintro ⟨⟩ W s
  refine .s (bs T.s102 z z) z (.c (.st t102 s.p1 z z z ?_))
  intro W s
  cases h
  exact .nil (.ret (ac () (rc s t102 z rn z z) z (s.to [1])))
 have h:=aL b h
 refine .g (.q z (.qn z (.cond z (λb=>?_) (λb=>?_))))
 ·have h:=aK b h
  refine .g (.q z (.q z (bv h λy14 hy14 h=>.c (.cS (L0:=[.box g_0 117 [sv aw,vi y1.2]]) s func39 (λS h1 h2 h3=>(aj hy14 (s.ks aN h1) h2 (zz h1))) z z ?_))))
  rintro ⟨⟩ W s
  refine .s (bs T.s102 z z) z (.c (.st t102 s.p1 z z z ?_))
  intro W s
  cases h
  exact .nil (.ret (ac () (rc s t102 z rn z z) z (s.to [1])))
 have h:=aL b h
 refine .g (.q z (.qn z (.cond z (λb=>?_) (λb=>?_))))
 ·have h:=aK b h
  refine .g (.q z (bv h λy15 hy15 h=>.c (.cS (L0:=[.box g_0 117 [sv aw,vi y1.2]]) s func194 (λS h1 h2 h3=>(dD hy15 (s.ks aN h1) h2 (zz h1))) z z ?_)))
  rintro ⟨⟩ W s
  refine .qn z (.g (.q z (.q z (.q z (bv h λy16 hy16 h=>.c (.cS (L0:=[.box g_0 117 [sv aw,vi y15.2]]) s func39 (λS h1 h2 h3=>(aj hy16 (s.ks aN h1) h2 (zz h1))) z z ?_))))))
  rintro ⟨⟩ W s
  refine .s (bs T.s102 z z) z (.c (.st t102 s.p1 z z z ?_))
  intro W s
  cases h
  exact .nil (.ret (ac () (rc s t102 z rn z z) z (s.to [1])))
 have h:=aL b h
 refine .g (.q z (.qn z (.cond z (λb=>?_) (λb=>?_))))
 ·have h:=aK b h
  refine .g (.q z (bv h λy17 hy17 h=>.c (.cS (L0:=[.box g_0 117 [sv aw,vi y1.2]]) s func194 (λS h1 h2 h3=>(dD hy17 (s.ks aN h1) h2 (zz h1))) z z ?_)))
  rintro ⟨⟩ W s
  refine .qn z (.g (.q z (.q z (bv h λy18 hy18 h=>.c (.cS (L0:=[.box g_0 117 [sv aw,vi y17.2]]) s func39 (λS h1 h2 h3=>(aj hy18 (s.ks aN h1) h2 (zz h1))) z z ?_)))))
  rintro ⟨⟩ W s
  refine .s (bs T.s102 z z) z (.c (.st t102 s.p1 z z z ?_))
  intro W s
  cases h
  exact .nil (.ret (ac () (rc s t102 z rn z z) z (s.to [1])))
 have h:=aL b h
 refine .g (.q z (.qn z (.cond z (λb=>?_) (λb=>?_))))
 ·have h:=aK b h
  refine .g (.q z (bv h λy19 hy19 h=>.c (.cS (L0:=[.box g_0 117 [sv aw,vi y1.2]]) s func194 (λS h1 h2 h3=>(dD hy19 (s.ks aN h1) h2 (zz h1))) z z ?_)))
  rintro ⟨⟩ W s
  refine .qn z (.g (.q z (.q z (bv h λy20 hy20 h=>.c (.cS (L0:=[.box g_0 117 [sv aw,vi y19.2]]) s func39 (λS h1 h2 h3=>(aj hy20 (s.ks aN h1) h2 (zz h1))) z z ?_)))))
  rintro ⟨⟩ W s
  refine .s (bs T.s102 z z) z (.c (.st t102 s.p1 z z z ?_))
  intro W s
  cases h
  exact .nil (.ret (ac () (rc s t102 z rn z z) z (s.to [1])))
 have h:=aL b h
 refine .skip (.seq (.g (.q z (bv h λy21 hy21 h=>.c (.cS (L0:=[.box g_0 117 [sv aw,vi y1.2]]) s func39 (λS h1 h2 h3=>(aj hy21 (s.ks aN h1) h2 (zz h1))) z z ?_)))))
 rintro ⟨⟩ W s
 refine .qn z (.cond z (λb=>?_) (λb=>?_))
 ·have h:=aK b h
  refine .g (.s (bs T.s102 z z) z (.c (.st t102 s.p1 z z z ?_)))
  intro W s
  cases h
  exact .nil (.ret (ac () (rc s t102 z rn z z) z (s.to [1])))
 have h:=aL b h
 refine .skip (.g (.q z (bv h λy22 hy22 h=>.c (.cS (L0:=[.box g_0 117 [sv aw,vi y21.2]]) s func194 (λS h1 h2 h3=>(dD hy22 (s.ks aN h1) h2 (zz h1))) z z ?_))))
 rintro ⟨⟩ W s
 refine .s (bs T.s102 z z) z (.c (.st t102 s.p1 z z z ?_))
 intro W s
 cases h
 exact .nil (.ret (ac () (rc s t102 z rn z z) z (s.to [1])))
theorem nW {a0:aP} {aw:Hd} {g_0:Nat} {S:Nat->Prop} {w:World} {r:(List ah)×Int} (h:gi a0=some r) (aN:RV w (Old S w) (sv aw) 5 1 (D.int .u8) a0.b) (hO:bQ w [.box g_0 117 [sv aw,vi a0.p]] S) (hlt:∀ b,S b->b<w.heap.size):CL 129 #[Pt g_0] w (Ret S w (λs:Hd=>(sv s)) (λs=>[.box g_0 117 [sv aw,vi r.2],ae (sv s) 102 5 aq r.1])):=by
 unfold gi at h
 refine au func129 z z ?_
 have s:=Sep.sm hO hlt
 refine .g (.qn z (.g (.q z (bv h λy1 hy1 h=>.c (.cS (L0:=[.box g_0 117 [sv aw,vi a0.p]]) s func39 (λS h1 h2 h3=>(aj hy1 (s.ks aN h1) h2 (zz h1))) z z ?_)))))
 rintro ⟨⟩ W s
 refine .q z (.qn z (.g (.c (.liv [] aq u78 t102 s z z z z ?_ z (λ_=>z)))))
 intro v1 W s
 refine .qn z (.seq (.g (.qn z (.block (bv h λy2 hy2 h=>?_)))))
 refine .via (.iter (λs1 E' W'=>∃ (v4:Hd),aD E' [(0,Pt g_0),(3,vi (w64 (1+y1.1))),(4,(sv v4)),(5,vi s1.2.1)]/\Sep S w W' [.box g_0 117 [sv aw,vi s1.2.2],ae (sv v4) 102 5 aq s1.1]) (λy3 x E' W'=>x=.exit 0/\∃ (v5:Hd),aD E' [(0,Pt g_0),(3,vi (w64 (1+y1.1))),(4,(sv v5))]/\Sep S w W' [.box g_0 117 [sv aw,vi y3.2],ae (sv v5) 102 5 aq y3.1]) hy2 ⟨v1,sb z,s.to [1,0]⟩ ?_) ?_
 ·intro s1 y4 E W h hI
  obtain ⟨v3,hE,s⟩:=hI
  refine CW.sub hE ?_
  unfold kD at h
  refine .seq (.g (.q z (.q z (.q z (.qn z (.cond z (λb=>?_) (λb=>?_)))))))
  ·have h:=aK b h
   refine .skip (.seq (.block (.region (.q z (.q z (.q z (bv h λy5 hy5 h=>.c (.cS (L0:=[.box g_0 117 [sv aw,vi s1.2.2]]) s func172 (λS h1 h2 h3=>(ug hy5 (s.ks aN h1) h2 (zz h1))) z z ?_))))))))
   rintro ⟨⟩ W s
   refine .c (.liv [y5.1] aq u78 t102 s z z z z ?_ z (λ_=>z))
   intro v6 W s
   refine bv h λr1 hr1 h=>?_
   have hT0:=s.p2
   refine .c (.av hr1 hT0 hT0.p1.lv (λ_=>z) u78 t102 z z z ?_)
   intro v7 W s
   refine .qn z (.region (.q z (.q z (.q z (.nil ?_)))))
   cases h
   exact ⟨z,v7,sb z,s.to [2,0]⟩
  have h:=aL b h
  refine .exit ?_
  cases h
  exact ⟨by simp,z,v3,sb z,s.to [0,0]⟩
 intro x E W hJ
 obtain ⟨rfl,v8,hE,s⟩:=hJ
 refine ⟨_,hE.sub,?_⟩
 refine .seq (.g (.q z (bv h λy6 hy6 h=>.c (.cS (L0:=[.box g_0 117 [sv aw,vi y2.2]]) s func39 (λS h1 h2 h3=>(aj hy6 (s.ks aN h1) h2 (zz h1))) z z ?_))))
 rintro ⟨⟩ W s
 refine .qn z (.cond z (λb=>?_) (λb=>?_))
 ·have h:=aK b h
  refine .g (.q z (.q z (.q z (bv h λy7 hy7 h=>.c (.cS (L0:=[.box g_0 117 [sv aw,vi y6.2]]) s func39 (λS h1 h2 h3=>(aj hy7 (s.ks aN h1) h2 (zz h1))) z z ?_)))))
  rintro ⟨⟩ W s
  refine .s (bs T.s102 z z) z (.c (.liv [(ah.mk 4 0 0 0 y7.1)] aq u78 t102 s z z z z ?_ z (λ_=>z)))
  intro v9 W s
  refine bv h λr2 hr2 h=>?_
  have hT0:=s.p2
  refine .c (.av hr2 hT0 hT0.p1.lv (λ_=>z) u78 t102 z z z ?_)
  intro v10 W s
  cases h
  exact .qn z (.ret (ac v10 (rt z rn) z (s.to [2,0])))
 have h:=aL b h
 refine .skip (.g (.q z (.s (bs T.s102 z z) z (.c (.liv [(ah.mk 10 0 0 0 0)] aq u78 t102 s z z z z ?_ z (λ_=>z))))))
 intro v11 W s
 refine bv h λr3 hr3 h=>?_
 have hT0:=s.p2
 refine .c (.av hr3 hT0 hT0.p1.lv (λ_=>z) u78 t102 z z z ?_)
 intro v12 W s
 cases h
 exact .qn z (.ret (ac v12 (rt z rn) z (s.to [2,0])))
def ka (F:List ax->Option (Int)):Prop:=∀ {a0:List ax} {v_0:Hd} {w:World} {r:Int} (h:F a0=some r) (q_0:RO w v_0 206 8 aC a0) , CL 176 #[sv v_0] w (RU w (.int .i64 r))
theorem uh {k:Nat} {eB:List ax->Option (Int)} (oK:ka eB):ka (eC k eB):=by
 intro a0 v_0 w r h q_0
 unfold eC at h
 refine au func176 z z ?_
 have s:=Sep.start w
 refine .g (.qn z (.g (.qn z (.seq (.g (.qn z (.block (bv h λy1 hy1 h=>?_))))))))
 refine .via (.iter (λs1 E' W'=>aD E' [(0,(sv v_0)),(3,vi s1.1),(4,vi s1.2)]/\Sep No w W' []) (λy2 x E' W'=>x=.exit 0/\aD E' [(3,vi y2)]/\Sep No w W' []) hy1 ⟨sb z,s.to []⟩ ?_) ?_
 ·intro s1 y3 E W h hI
  obtain ⟨hE,s⟩:=hI
  refine CW.sub hE ?_
  unfold jf at h
  refine .seq (.g (.q z (.q z (.s (a8 (s.keep q_0) u162 z z) z (.q z (.nil ?_))))))
  refine .cs z h ?_ ?_ <;> intro h
  ·refine .skip (.seq (.block (.rk 17 s [] T.mix ?_)))
   intro W s
   have t:=s.to []
   refine .tp' 0 z z t (.tp' 1 z z t (.tp' 2 z z t (.tp' 3 z z t (bv h λx1 hx1 h=>?_))))
   obtain ⟨k1,hd,hck1⟩:=RV.el2 q_0 hx1
   have hd1:=px (iI _) hd
   obtain ⟨k1,rfl,hd2⟩:=dJ q_0 z hd1
   obtain ⟨k1,rfl,hd3⟩:=dJ q_0 z hd2
   obtain ⟨k1,rfl,hd4⟩:=dJ q_0 z hd3
   have hd5:=px (fI _) hd4
   obtain ⟨k1,rfl,hd6⟩:=dJ q_0 z hd5
   obtain ⟨k1,rfl,hd7⟩:=dJ q_0 z hd6
   obtain ⟨v1,k1,rfl,q1,hd8⟩:=c9 q_0 hd7
   obtain ⟨v2,k1,rfl,q2,hd9⟩:=c9 q_0 hd8
   obtain ⟨v3,k1,rfl,q3,hd10⟩:=c9 q_0 hd9
   obtain rfl:=iq q_0 hd10
   refine .ts' 4 z (λW t=>ixv (s.keep q_0) hx1 u162 t206 z z z) t z (.ts' 5 z (λW t=>fe f206_4 z z z) t z (.ts' 6 z (λW t=>lde (hck1 _ t.agree) t162 z z z z z) t z (.tp' 9 z z t (.tp' 10 z z t (bv h λx2 hx2 h=>?_)))))
   obtain ⟨k2,hd,hck2⟩:=RV.el2 q_0 hx2
   have hd1:=px (iI _) hd
   obtain ⟨k2,rfl,hd2⟩:=dJ q_0 z hd1
   obtain ⟨k2,rfl,hd3⟩:=dJ q_0 z hd2
   obtain ⟨k2,rfl,hd4⟩:=dJ q_0 z hd3
   have hd5:=px (fI _) hd4
   obtain ⟨k2,rfl,hd6⟩:=dJ q_0 z hd5
   obtain ⟨k2,rfl,hd7⟩:=dJ q_0 z hd6
   obtain ⟨v4,k2,rfl,q4,hd8⟩:=c9 q_0 hd7
   obtain ⟨v5,k2,rfl,q5,hd9⟩:=c9 q_0 hd8
   obtain ⟨v6,k2,rfl,q6,hd10⟩:=c9 q_0 hd9
   obtain rfl:=iq q_0 hd10
   refine .ts' 11 z (λW t=>ixv (s.keep q_0) hx2 u162 t206 z z z) t z (.ts' 12 z (λW t=>fe f206_5 z z z) t z (.ts' 13 z (λW t=>lde (hck2 _ t.agree) t162 z z z z z) t z (bv h λy4 hy4 h=>.by1 7 z (.cO s func176 (oK hy4 (s.keep (q2 _ q_0))) z z ?_))))
   intro W s
   refine s.an [] λt=>.tp' 8 z z t (bv h λy5 hy5 h=>.by1 14 z (.cO s func176 (oK hy5 (s.keep (q6 _ q_0))) z z ?_))
   intro W s
   refine s.an [] λt=>.tp' 15 z z t (.tp' 16 z z t (.done (.region (.q z (.q z (.q z (.nil ?_)))))))
   cases h
   exact ⟨z,sb z,s.to []⟩
  refine .exit ?_
  cases h
  exact ⟨by simp,z,sb z,s.to []⟩
 intro x E W hJ
 obtain ⟨rfl,hE,s⟩:=hJ
 refine ⟨_,hE.sub,?_⟩
 obtain rfl:=o9 h
 exact .g (.q z (.qn z (.ret (ac () (rt z rn) z (s.to [])))))
theorem pZ (k:Nat):ka (d9 k):=by
  induction k with
  | zero=>exact by intro a0 v_0 w r h q_0; exact no h
  | succ k ih=>exact uh (k:=k) ih
theorem oL {k:Nat}:ka (d9 k):=(pZ k)
theorem cE {a0:Int} {a1:Int} {a2:Int} {w:World} {r:Bool} (h:aE a0 a1 a2=some r):CL 32 #[vi a0,vi a1,vi a2] w (RU w (.bool r)):=by
 unfold aE at h
 refine au func32 z z ?_
 have s:=Sep.start w
 refine .g (.qn z (.g (.q z (.q z (.q z (.q z (.cu 4 14 ((decide (a0>=a1))&&(decide (a0<=a2))) s ?_ ?_)))))))
 ·refine .both (decide (a0>=a1)) (λb=>?_) (λb=>?_)
  ·have hg1:=b
   exact .g hg1 (.q z (.g hg1 (.q z (.g hg1 (.q z (.s (pkt hg1 z z z) z (.nil (ck 4 s z (bi hg1)))))))))
  exact .xx b z (.xx b z (.xx b z (.s (pkf b z z z) z (.nil (ck 4 s z (bj b))))))
 intro W s
 cases h
 exact .qn z (.ret (ac () (rt z rn) z (s.to [])))
theorem gD {a0:ax} {a1:Bool} {aW:Hd} {cG:Hd} {cH:Hd} {w:World} {r:Bool} (h:fJ a0 a1=some r) (aF:RO w aW 204 3 be a0.Expr.Args) (cd:RO w cG 206 8 aC a0.Body) (bT:RO w cH 206 8 aC a0.Else):CL 234 #[.agg #[vi a0.Kind,vi a0.Var,vi a0.Box,vi a0.Expr.Op,vi a0.Expr.N,sv aW,sv cG,sv cH],.bool a1] w (RU w (.bool r)):=by
 unfold fJ at h
 refine au func234 z z ?_
 have s:=Sep.start w
 refine .g (.c (.box s z z ?_))
 intro g1 W s
 refine .qn z (.seq (.g (.q z (.nil ?_))))
 refine .cs z h ?_ ?_ <;> intro h
 ·refine .g (.s (fa f206_1 z z z) z (.s (ld T.t3 s z z z z z) z (bv h λy1 hy1 h=>.c (.cO s func32 (cE hy1) z z ?_))))
  intro W s
  obtain rfl:=o9 h
  exact .qn z (.ret (ac () (rt z rn) z (s.to [])))
 cases h
 exact .skip (.g (.s (fa f206_1 z z z) z (.s (ld T.t3 s z z z z z) z (.q z (.qn z (.ret (ac () (rt z rn) z (s.to []))))))))
theorem gF {a0:ax} {a1:Bool} {aW:Hd} {cG:Hd} {cH:Hd} {w:World} {r:Bool} (h:fK a0 a1=some r) (aF:RO w aW 204 3 be a0.Expr.Args) (cd:RO w cG 206 8 aC a0.Body) (bT:RO w cH 206 8 aC a0.Else):CL 235 #[.agg #[vi a0.Kind,vi a0.Var,vi a0.Box,vi a0.Expr.Op,vi a0.Expr.N,sv aW,sv cG,sv cH],.bool a1] w (RU w (.bool r)):=by
 unfold fK at h
 refine au func235 z z ?_
 have s:=Sep.start w
 refine .g (.c (.box s z z ?_))
 intro g1 W s
 refine .qn z (.seq (.g (.q z (.nil ?_))))
 refine .cs z h ?_ ?_ <;> intro h
 ·refine .g (.s (fa f206_2 z z z) z (.s (ld T.t3 s z z z z z) z (bv h λy1 hy1 h=>.c (.cO s func32 (cE hy1) z z ?_))))
  intro W s
  obtain rfl:=o9 h
  exact .qn z (.ret (ac () (rt z rn) z (s.to [])))
 cases h
 exact .skip (.g (.s (fa f206_2 z z z) z (.s (ld T.t3 s z z z z z) z (.q z (.qn z (.ret (ac () (rt z rn) z (s.to []))))))))
theorem mR {a0:Int} {w:World} {r:Bool} (h:fL a0=some r):CL 208 #[vi a0] w (RU w (.bool r)):=by
 unfold fL at h
 refine au func208 z z ?_
 have s:=Sep.start w
 refine .g (.qn z (.g (.q z (bv h λy1 hy1 h=>.c (.cO s func32 (cE hy1) z z ?_)))))
 intro W s
 obtain rfl:=o9 h
 exact .qn z (.ret (ac () (rt z rn) z (s.to [])))
def nX (F:Expr->Int->Option (Bool)):Prop:=∀ {a0:Expr} {a1:Int} {fk:Hd} {w:World} {r:Bool} (h:F a0 a1=some r) (br:RO w fk 204 3 be a0.Args) , CL 249 #[.agg #[vi a0.Op,vi a0.N,sv fk],vi a1] w (RU w (.bool r))
theorem yl {k:Nat} {mC:Expr->Int->Option (Bool)} (sh:nX mC):nX (mB k mC):=by
 intro a0 a1 fk w r h br
 unfold mB at h
 refine au func249 z z ?_
 have s:=Sep.start w
 refine .g (.c (.box s z z ?_))
 intro g1 W s
 refine .qn z (.seq (.g (.q z (.q z (.nil ?_)))))
 refine .cs z h ?_ ?_ <;> intro h
 ·obtain rfl:=o9 h
  exact .g (.qn z (.ret (ac () (rt z rn) z (s.to []))))
 refine .skip (.seq (.g (.s (fa f204_0 z z z) z (.s (ld T.t3 s z z z z z) z (.q z (.nil ?_))))))
 refine .cs z h ?_ ?_ <;> intro h
 ·refine .g (.s (fa f204_1 z z z) z (.s (ld T.t3 s z z z z z) z (bv h λy1 hy1 h=>.c (.cO s func32 (cE hy1) z z ?_))))
  intro W s
  refine .q z (.cu 5 18 (y1&&((a0.Args.length:Int)==0)) s ?_ ?_)
  ·refine .both (y1) (λb=>?_) (λb=>?_)
   ·have hg1:=b
    exact .g hg1 (.s (fa f204_2 z z z) z (.g hg1 (.s (ld t202 s z z z z z) z (.g hg1 (.s (a8 (s.keep br) u202 z z) z (.g hg1 (.q z (.s (pkt hg1 z z z) z (.nil (ck 5 s z (bi hg1)))))))))))
   exact .xx b z (.xx b z (.xx b z (.xx b z (.s (pkf b z z z) z (.nil (ck 5 s z (bj b)))))))
  intro W s
  cases h
  exact .qn z (.ret (ac () (rt z rn) z (s.to [])))
 refine .skip (.seq (.g (.s (fa f204_0 z z z) z (.s (ld T.t3 s z z z z z) z (.q z (.nil ?_))))))
 refine .cs z h ?_ ?_ <;> intro h
 ·refine .g (.s (fa f204_1 z z z) z (.s (ld T.t3 s z z z z z) z (bv h λy2 hy2 h=>.c (.cO s func32 (cE hy2) z z ?_))))
  intro W s
  refine .q z (.cu 5 30 (y2&&((a0.Args.length:Int)==0)) s ?_ ?_)
  ·refine .both (y2) (λb=>?_) (λb=>?_)
   ·have hg2:=b
    exact .g hg2 (.s (fa f204_2 z z z) z (.g hg2 (.s (ld t202 s z z z z z) z (.g hg2 (.s (a8 (s.keep br) u202 z z) z (.g hg2 (.q z (.s (pkt hg2 z z z) z (.nil (ck 5 s z (bi hg2)))))))))))
   exact .xx b z (.xx b z (.xx b z (.xx b z (.s (pkf b z z z) z (.nil (ck 5 s z (bj b)))))))
  intro W s
  cases h
  exact .qn z (.ret (ac () (rt z rn) z (s.to [])))
 refine .skip (.g (.s (fa f204_0 z z z) z (.s (ld T.t3 s z z z z z) z (bv h λy3 hy3 h=>.c (.cO s func208 (mR hy3) z z ?_)))))
 intro W s
 refine .q z (.cu 4 38 (y3&&(a0.N==0)) s ?_ ?_)
 ·refine .both (y3) (λb=>?_) (λb=>?_)
  ·have hg3:=b
   exact .g hg3 (.s (fa f204_1 z z z) z (.g hg3 (.s (ld T.t3 s z z z z z) z (.g hg3 (.q z (.s (pkt hg3 z z z) z (.nil (ck 4 s z (bi hg3)))))))))
  exact .xx b z (.xx b z (.xx b z (.s (pkf b z z z) z (.nil (ck 4 s z (bj b))))))
 intro W s
 refine .q z (.cu 5 44 ((y3&&(a0.N==0))&&((a0.Args.length:Int)==2)) s ?_ ?_)
 ·refine .both (y3&&(a0.N==0)) (λb=>?_) (λb=>?_)
  ·have hg4:=b
   exact .g hg4 (.s (fa f204_2 z z z) z (.g hg4 (.s (ld t202 s z z z z z) z (.g hg4 (.s (a8 (s.keep br) u202 z z) z (.g hg4 (.q z (.s (pkt hg4 z z z) z (.nil (ck 5 s z (bi hg4)))))))))))
  exact .xx b z (.xx b z (.xx b z (.xx b z (.s (pkf b z z z) z (.nil (ck 5 s z (bj b)))))))
 intro W s
 refine .q z (bv h λb1 hb1 h=>.cu 8 53 (b1) s ?_ ?_)
 ·refine .both ((y3&&(a0.N==0))&&((a0.Args.length:Int)==2)) (λb=>?_) (λb=>?_)
  ·have hg5:=b
   have h:=aK b hb1
   refine .g hg5 (.s (fa f204_2 z z z) z (.g hg5 (.s (ld t202 s z z z z z) z (bv h λx1 hx1 h=>?_))))
   obtain ⟨k1,hd,hck1⟩:=RV.el2 br hx1
   have hd1:=px (fI _) hd
   obtain ⟨k1,rfl,hd2⟩:=dJ br z hd1
   obtain ⟨k1,rfl,hd3⟩:=dJ br z hd2
   obtain ⟨v1,k1,rfl,q1,hd4⟩:=c9 br hd3
   obtain rfl:=iq br hd4
   refine .g hg5 (.s (ixv (s.keep br) hx1 u202 t204 z z z) z (.g hg5 (.s (lde (hck1 _ s.agree) t204 z z z z z) z (.g hg5 (.q z (.g hg5 (.q z (bv h λy4 hy4 h=>.g hg5 (.c (.cO s func249 (sh hy4 (s.keep (q1 _ br))) z z ?_))))))))))
   intro W s
   refine .s (pkt hg5 z z z) z ?_
   cases h
   exact .nil (ck 8 s)
  refine .xx b z (.xx b z (.xx b z (.xx b z (.xx b z (.xx b z (.xx b z ?_))))))
  cases aL b hb1
  exact .s (pkf b z z z) z (.nil (ck 8 s))
 intro W s
 refine .q z (bv h λb2 hb2 h=>.cu 8 62 (b2) s ?_ ?_)
 ·refine .both (b1) (λb=>?_) (λb=>?_)
  ·have hg6:=b
   have h:=aK b hb2
   refine .g hg6 (.s (fa f204_2 z z z) z (.g hg6 (.s (ld t202 s z z z z z) z (bv h λx2 hx2 h=>?_))))
   obtain ⟨k2,hd,hck2⟩:=RV.el2 br hx2
   have hd1:=px (fI _) hd
   obtain ⟨k2,rfl,hd2⟩:=dJ br z hd1
   obtain ⟨k2,rfl,hd3⟩:=dJ br z hd2
   obtain ⟨v2,k2,rfl,q2,hd4⟩:=c9 br hd3
   obtain rfl:=iq br hd4
   refine .g hg6 (.s (ixv (s.keep br) hx2 u202 t204 z z z) z (.g hg6 (.s (lde (hck2 _ s.agree) t204 z z z z z) z (.g hg6 (.q z (.g hg6 (.q z (bv h λy5 hy5 h=>.g hg6 (.c (.cO s func249 (sh hy5 (s.keep (q2 _ br))) z z ?_))))))))))
   intro W s
   refine .s (pkt hg6 z z z) z ?_
   cases h
   exact .nil (ck 8 s)
  refine .xx b z (.xx b z (.xx b z (.xx b z (.xx b z (.xx b z (.xx b z ?_))))))
  cases aL b hb2
  exact .s (pkf b z z z) z (.nil (ck 8 s))
 intro W s
 obtain rfl:=o9 h
 exact .qn z (.ret (ac () (rt z rn) z (s.to [])))
theorem sY (k:Nat):nX (oy k):=by
  induction k with
  | zero=>exact by intro a0 a1 fk w r h br; exact no h
  | succ k ih=>exact yl (k:=k) ih
theorem xr {k:Nat}:nX (oy k):=(sY k)
theorem iC {k:Nat} {a0:Expr} {fk:Hd} {w:World} {r:Bool} (h:dR k a0=some r) (br:RO w fk 204 3 be a0.Args):CL 236 #[.agg #[vi a0.Op,vi a0.N,sv fk]] w (RU w (.bool r)):=by
 unfold dR at h
 refine au func236 z z ?_
 have s:=Sep.start w
 refine .g (.c (.box s z z ?_))
 intro g1 W s
 refine .qn z (.g (.s (ld t204 s z z z z z) z (bv h λy1 hy1 h=>.c (.cO s func249 (xr hy1 (s.keep br)) z z ?_))))
 intro W s
 obtain rfl:=o9 h
 exact .qn z (.ret (ac () (rt z rn) z (s.to [])))
theorem oM {a0:Expr} {fk:Hd} {w:World} {r:Bool} (h:ia a0=some r) (br:RO w fk 204 3 be a0.Args):CL 248 #[.agg #[vi a0.Op,vi a0.N,sv fk]] w (RU w (.bool r)):=by
 unfold ia at h
 refine au func248 z z ?_
 have s:=Sep.start w
 refine .g (.c (.box s z z ?_))
 intro g1 W s
 refine .qn z (.g (.s (fa f204_0 z z z) z (.s (ld T.t3 s z z z z z) z (.q z (.q z (.cu 4 10 ((a0.Op==0)&&(a0.N==0)) s ?_ ?_))))))
 ·refine .both (a0.Op==0) (λb=>?_) (λb=>?_)
  ·have hg1:=b
   exact .g hg1 (.s (fa f204_1 z z z) z (.g hg1 (.s (ld T.t3 s z z z z z) z (.g hg1 (.q z (.s (pkt hg1 z z z) z (.nil (ck 4 s z (bi hg1)))))))))
  exact .xx b z (.xx b z (.xx b z (.s (pkf b z z z) z (.nil (ck 4 s z (bj b))))))
 intro W s
 refine .q z (.cu 5 16 (((a0.Op==0)&&(a0.N==0))&&((a0.Args.length:Int)==0)) s ?_ ?_)
 ·refine .both ((a0.Op==0)&&(a0.N==0)) (λb=>?_) (λb=>?_)
  ·have hg2:=b
   exact .g hg2 (.s (fa f204_2 z z z) z (.g hg2 (.s (ld t202 s z z z z z) z (.g hg2 (.s (a8 (s.keep br) u202 z z) z (.g hg2 (.q z (.s (pkt hg2 z z z) z (.nil (ck 5 s z (bi hg2)))))))))))
  exact .xx b z (.xx b z (.xx b z (.xx b z (.s (pkf b z z z) z (.nil (ck 5 s z (bj b)))))))
 intro W s
 cases h
 exact .qn z (.ret (ac () (rt z rn) z (s.to [])))
theorem si {k:Nat} {a0:ax} {aW:Hd} {cG:Hd} {cH:Hd} {w:World} {r:Bool} (h:gj k a0=some r) (aF:RO w aW 204 3 be a0.Expr.Args) (cd:RO w cG 206 8 aC a0.Body) (bT:RO w cH 206 8 aC a0.Else):CL 233 #[.agg #[vi a0.Kind,vi a0.Var,vi a0.Box,vi a0.Expr.Op,vi a0.Expr.N,sv aW,sv cG,sv cH]] w (RU w (.bool r)):=by
 unfold gj at h
 refine au func233 z z ?_
 have s:=Sep.start w
 refine .g (.c (.box s z z ?_))
 intro g1 W s
 refine .qn z (.seq (.g (.s (fa f206_4 z z z) z (.s (ld t162 s z z z z z) z (.s (a8 (s.keep cd) u162 z z) z (.q z (.q z (.cu 5 12 ((decide ((a0.Body.length:Int)>0))||(decide ((a0.Else.length:Int)>0))) s ?_ ?_))))))))
 ·refine .both (decide ((a0.Body.length:Int)>0)) (λb=>?_) (λb=>?_)
  ·exact .xx b z (.xx b z (.xx b z (.xx b z (.s (pkt b z z z) z (.nil (ck 5 s z (ff b)))))))
  have hg1:=b
  exact .g hg1 (.s (fa f206_5 z z z) z (.g hg1 (.s (ld t162 s z z z z z) z (.g hg1 (.s (a8 (s.keep bT) u162 z z) z (.g hg1 (.q z (.s (pkf hg1 z z z) z (.nil (ck 5 s z (fg hg1)))))))))))
 intro W s
 refine .nil ?_
 refine .cs z h ?_ ?_ <;> intro h
 ·obtain rfl:=o9 h
  exact .g (.qn z (.ret (ac () (rt z rn) z (s.to []))))
 refine .skip (.seq (.g (.s (fa f206_0 z z z) z (.s (ld T.t3 s z z z z z) z (.nil (.block (.g (.q z (.q z (.nil ?_))))))))))
 refine .cs z h ?_ ?_ <;> intro h
 ·refine .g (.s (ld t206 s z z z z z) z (bv h λy1 hy1 h=>.c (.cO s func234 (gD hy1 (s.keep aF) (s.keep cd) (s.keep bT)) z z ?_)))
  intro W s
  refine .q z (bv h λb1 hb1 h=>.cu 3 22 (b1) s ?_ ?_)
  ·refine .both (y1) (λb=>?_) (λb=>?_)
   ·have hg2:=b
    have h:=aK b hb1
    refine .g hg2 (.s (ld t206 s z z z z z) z (bv h λy2 hy2 h=>.g hg2 (.c (.cO s func235 (gF hy2 (s.keep aF) (s.keep cd) (s.keep bT)) z z ?_))))
    intro W s
    refine .s (pkt hg2 z z z) z ?_
    cases h
    exact .nil (ck 3 s)
   refine .xx b z (.xx b z ?_)
   cases aL b hb1
   exact .s (pkf b z z z) z (.nil (ck 3 s))
  intro W s
  refine .q z (bv h λb2 hb2 h=>.cu 4 27 (b2) s ?_ ?_)
  ·refine .both (b1) (λb=>?_) (λb=>?_)
   ·have hg3:=b
    have h:=aK b hb2
    refine .g hg3 (.s (fa f206_3 z z z) z (.g hg3 (.s (ld t204 s z z z z z) z (bv h λy3 hy3 h=>.g hg3 (.c (.cO s func236 (iC hy3 (s.keep aF)) z z ?_))))))
    intro W s
    refine .s (pkt hg3 z z z) z ?_
    cases h
    exact .nil (ck 4 s)
   refine .xx b z (.xx b z (.xx b z ?_))
   cases aL b hb2
   exact .s (pkf b z z z) z (.nil (ck 4 s))
  intro W s
  obtain rfl:=o9 h
  exact .qn z (.ret (ac () (rt z rn) z (s.to [])))
 refine .g (.q z (.q z (.nil ?_)))
 refine .cs z h ?_ ?_ <;> intro h
 ·refine .g (.s (ld t206 s z z z z z) z (bv h λy4 hy4 h=>.c (.cO s func234 (gD hy4 (s.keep aF) (s.keep cd) (s.keep bT)) z z ?_)))
  intro W s
  refine .q z (bv h λb3 hb3 h=>.cu 3 35 (b3) s ?_ ?_)
  ·refine .both (y4) (λb=>?_) (λb=>?_)
   ·have hg4:=b
    have h:=aK b hb3
    refine .g hg4 (.s (ld t206 s z z z z z) z (bv h λy5 hy5 h=>.g hg4 (.c (.cO s func235 (gF hy5 (s.keep aF) (s.keep cd) (s.keep bT)) z z ?_))))
    intro W s
    refine .s (pkt hg4 z z z) z ?_
    cases h
    exact .nil (ck 3 s)
   refine .xx b z (.xx b z ?_)
   cases aL b hb3
   exact .s (pkf b z z z) z (.nil (ck 3 s))
  intro W s
  refine .q z (bv h λb4 hb4 h=>.cu 4 40 (b4) s ?_ ?_)
  ·refine .both (b3) (λb=>?_) (λb=>?_)
   ·have hg5:=b
    have h:=aK b hb4
    refine .g hg5 (.s (fa f206_3 z z z) z (.g hg5 (.s (ld t204 s z z z z z) z (bv h λy6 hy6 h=>.g hg5 (.c (.cO s func236 (iC hy6 (s.keep aF)) z z ?_))))))
    intro W s
    refine .s (pkt hg5 z z z) z ?_
    cases h
    exact .nil (ck 4 s)
   refine .xx b z (.xx b z (.xx b z ?_))
   cases aL b hb4
   exact .s (pkf b z z z) z (.nil (ck 4 s))
  intro W s
  obtain rfl:=o9 h
  exact .qn z (.ret (ac () (rt z rn) z (s.to [])))
 refine .g (.q z (.q z (.nil ?_)))
 refine .cs z h ?_ ?_ <;> intro h
 ·refine .g (.s (ld t206 s z z z z z) z (bv h λy7 hy7 h=>.c (.cO s func234 (gD hy7 (s.keep aF) (s.keep cd) (s.keep bT)) z z ?_)))
  intro W s
  refine .q z (bv h λb5 hb5 h=>.cu 3 48 (b5) s ?_ ?_)
  ·refine .both (y7) (λb=>?_) (λb=>?_)
   ·have hg6:=b
    have h:=aK b hb5
    refine .g hg6 (.s (ld t206 s z z z z z) z (bv h λy8 hy8 h=>.g hg6 (.c (.cO s func235 (gF hy8 (s.keep aF) (s.keep cd) (s.keep bT)) z z ?_))))
    intro W s
    refine .s (pkt hg6 z z z) z ?_
    cases h
    exact .nil (ck 3 s)
   refine .xx b z (.xx b z ?_)
   cases aL b hb5
   exact .s (pkf b z z z) z (.nil (ck 3 s))
  intro W s
  refine .q z (bv h λb6 hb6 h=>.cu 4 53 (b6) s ?_ ?_)
  ·refine .both (b5) (λb=>?_) (λb=>?_)
   ·have hg7:=b
    have h:=aK b hb6
    refine .g hg7 (.s (fa f206_3 z z z) z (.g hg7 (.s (ld t204 s z z z z z) z (bv h λy9 hy9 h=>.g hg7 (.c (.cO s func248 (oM hy9 (s.keep aF)) z z ?_))))))
    intro W s
    refine .s (pkt hg7 z z z) z ?_
    cases h
    exact .nil (ck 4 s)
   refine .xx b z (.xx b z (.xx b z ?_))
   cases aL b hb6
   exact .s (pkf b z z z) z (.nil (ck 4 s))
  intro W s
  obtain rfl:=o9 h
  exact .qn z (.ret (ac () (rt z rn) z (s.to [])))
 refine .g (.q z (.q z (.nil ?_)))
 refine .cs z h ?_ ?_ <;> intro h
 ·refine .g (.s (ld t206 s z z z z z) z (bv h λy10 hy10 h=>.c (.cO s func234 (gD hy10 (s.keep aF) (s.keep cd) (s.keep bT)) z z ?_)))
  intro W s
  refine .q z (bv h λb7 hb7 h=>.cu 3 61 (b7) s ?_ ?_)
  ·refine .both (y10) (λb=>?_) (λb=>?_)
   ·have hg8:=b
    have h:=aK b hb7
    refine .g hg8 (.s (ld t206 s z z z z z) z (bv h λy11 hy11 h=>.g hg8 (.c (.cO s func235 (gF hy11 (s.keep aF) (s.keep cd) (s.keep bT)) z z ?_))))
    intro W s
    refine .s (pkt hg8 z z z) z ?_
    cases h
    exact .nil (ck 3 s)
   refine .xx b z (.xx b z ?_)
   cases aL b hb7
   exact .s (pkf b z z z) z (.nil (ck 3 s))
  intro W s
  refine .q z (bv h λb8 hb8 h=>.cu 4 66 (b8) s ?_ ?_)
  ·refine .both (b7) (λb=>?_) (λb=>?_)
   ·have hg9:=b
    have h:=aK b hb8
    refine .g hg9 (.s (fa f206_3 z z z) z (.g hg9 (.s (ld t204 s z z z z z) z (bv h λy12 hy12 h=>.g hg9 (.c (.cO s func248 (oM hy12 (s.keep aF)) z z ?_))))))
    intro W s
    refine .s (pkt hg9 z z z) z ?_
    cases h
    exact .nil (ck 4 s)
   refine .xx b z (.xx b z (.xx b z ?_))
   cases aL b hb8
   exact .s (pkf b z z z) z (.nil (ck 4 s))
  intro W s
  obtain rfl:=o9 h
  exact .qn z (.ret (ac () (rt z rn) z (s.to [])))
 refine .g (.q z (.q z (.nil ?_)))
 refine .cs z h ?_ ?_ <;> intro h
 ·refine .g (.s (ld t206 s z z z z z) z (bv h λy13 hy13 h=>.c (.cO s func234 (gD hy13 (s.keep aF) (s.keep cd) (s.keep bT)) z z ?_)))
  intro W s
  refine .q z (bv h λb9 hb9 h=>.cu 3 74 (b9) s ?_ ?_)
  ·refine .both (y13) (λb=>?_) (λb=>?_)
   ·have hg10:=b
    have h:=aK b hb9
    refine .g hg10 (.s (ld t206 s z z z z z) z (bv h λy14 hy14 h=>.g hg10 (.c (.cO s func235 (gF hy14 (s.keep aF) (s.keep cd) (s.keep bT)) z z ?_))))
    intro W s
    refine .s (pkt hg10 z z z) z ?_
    cases h
    exact .nil (ck 3 s)
   refine .xx b z (.xx b z ?_)
   cases aL b hb9
   exact .s (pkf b z z z) z (.nil (ck 3 s))
  intro W s
  refine .q z (bv h λb10 hb10 h=>.cu 4 79 (b10) s ?_ ?_)
  ·refine .both (b9) (λb=>?_) (λb=>?_)
   ·have hg11:=b
    have h:=aK b hb10
    refine .g hg11 (.s (fa f206_3 z z z) z (.g hg11 (.s (ld t204 s z z z z z) z (bv h λy15 hy15 h=>.g hg11 (.c (.cO s func236 (iC hy15 (s.keep aF)) z z ?_))))))
    intro W s
    refine .s (pkt hg11 z z z) z ?_
    cases h
    exact .nil (ck 4 s)
   refine .xx b z (.xx b z (.xx b z ?_))
   cases aL b hb10
   exact .s (pkf b z z z) z (.nil (ck 4 s))
  intro W s
  obtain rfl:=o9 h
  exact .qn z (.ret (ac () (rt z rn) z (s.to [])))
 obtain rfl:=o9 h
 exact .skip (.g (.qn z (.ret (ac () (rt z rn) z (s.to [])))))
def gG (F:List ax->Int->Option (Bool)):Prop:=∀ {a0:List ax} {a1:Int} {v_0:Hd} {w:World} {r:Bool} (h:F a0 a1=some r) (q_0:RO w v_0 206 8 aC a0) , CL 197 #[sv v_0,vi a1] w (RU w (.bool r))
def m8 (F:ax->Int->Option (Bool)):Prop:=∀ {a0:ax} {a1:Int} {aW:Hd} {cG:Hd} {cH:Hd} {w:World} {r:Bool} (h:F a0 a1=some r) (aF:RO w aW 204 3 be a0.Expr.Args) (cd:RO w cG 206 8 aC a0.Body) (bT:RO w cH 206 8 aC a0.Else) , CL 212 #[.agg #[vi a0.Kind,vi a0.Var,vi a0.Box,vi a0.Expr.Op,vi a0.Expr.N,sv aW,sv cG,sv cH],vi a1] w (RU w (.bool r))
def sZ (w:World) (r:Bool):Env->World->Prop:=Fin Tryz.prog Tryz.f197 No w (λs:Unit=>.bool r) (λs=>[]) .ret
theorem s8 {k:Nat} {dk:List ax->Int->Option (Bool)} {ed:ax->Int->Option (Bool)} (lw:gG dk) (qZ:m8 ed):gG (gk k dk ed):=by
 intro a0 a1 v_0 w r h q_0
 unfold gk at h
 refine au func197 z z ?_
 have s:=Sep.start w
 refine .g (.qn z (.seq (.g (.qn z (.block (bv h λy1 hy1 h=>?_))))))
 refine .via (.iter (λs1 E' W'=>aD E' [(0,(sv v_0)),(1,vi a1),(5,vi s1)]/\Sep No w W' []) (λy2 x E' W'=>(match y2 with | .inl o1=>x=.ret/\sZ w o1 E' W' | .inr o2=>x=.exit 0/\aD E' []/\Sep No w W' [])) hy1 ⟨sb rfl,s.to [] rfl⟩ ?_) ?_
 ·intro s1 y3 E W h hI
  obtain ⟨hE,s⟩:=hI
  refine CW.sub hE ?_
  unfold kE at h
  refine .seq (.g (.q z (.q z (.s (a8 (s.keep q_0) u162 z z) z (.q z (.nil ?_))))))
  refine .cs z h ?_ ?_ <;> intro h
  ·refine .skip (.seq (.block (.g (.q z (.q z (bv h λx1 hx1 h=>?_))))))
   obtain ⟨k1,hd,hck1⟩:=RV.el2 q_0 hx1
   have hd1:=px (iI _) hd
   obtain ⟨k1,rfl,hd2⟩:=dJ q_0 z hd1
   obtain ⟨k1,rfl,hd3⟩:=dJ q_0 z hd2
   obtain ⟨k1,rfl,hd4⟩:=dJ q_0 z hd3
   have hd5:=px (fI _) hd4
   obtain ⟨k1,rfl,hd6⟩:=dJ q_0 z hd5
   obtain ⟨k1,rfl,hd7⟩:=dJ q_0 z hd6
   obtain ⟨v1,k1,rfl,q1,hd8⟩:=c9 q_0 hd7
   obtain ⟨v2,k1,rfl,q2,hd9⟩:=c9 q_0 hd8
   obtain ⟨v3,k1,rfl,q3,hd10⟩:=c9 q_0 hd9
   obtain rfl:=iq q_0 hd10
   refine .s (ixv (s.keep q_0) hx1 u162 t206 z z z) z (.s (lde (hck1 _ s.agree) t206 z z z z z) z (.q z (bv h λy4 hy4 h=>.c (.cO s func212 (qZ hy4 (s.keep (q1 _ q_0)) (s.keep (q2 _ q_0)) (s.keep (q3 _ q_0))) z z ?_))))
   intro W s
   refine .q z (.nil ?_)
   refine .cs z h ?_ ?_ <;> intro h
   ·refine .g (.qn z (.ret ?_))
    cases h
    exact ⟨by simp,z,ac (vs:=[_]) () (rt z rn) z (s.to [])⟩
   refine .skip (.region (.q z (.q z (.q z (.nil ?_)))))
   cases h
   exact ⟨z,sb z,s.to []⟩
  refine .exit ?_
  cases h
  exact ⟨by simp,z,sb z,s.to []⟩
 intro x E W hJ
 rcases y1 with o3 | o4
 ·obtain ⟨rfl,hF⟩:=hJ
  refine ⟨_,λ_ _ h=>h,?_⟩
  cases h
  exact hF
 obtain ⟨rfl,hE,s⟩:=hJ
 refine ⟨_,hE.sub,?_⟩
 obtain rfl:=o9 h
 exact .g (.qn z (.ret (ac () (rt z rn) z (s.to []))))
theorem xt {k:Nat} {dk:List ax->Int->Option (Bool)} {ed:ax->Int->Option (Bool)} (lw:gG dk) (qZ:m8 ed):m8 (kF k dk ed):=by
 intro a0 a1 aW cG cH w r h aF cd bT
 unfold kF at h
 refine au func212 z z ?_
 have s:=Sep.start w
 refine .g (.c (.box s z z ?_))
 intro g1 W s
 refine .qn z (.seq (.g (.s (fa f206_0 z z z) z (.s (ld T.t3 s z z z z z) z (.q z (.q z (.cu 4 12 ((a0.Kind !=2)&&(a0.Kind !=3)) s ?_ ?_)))))))
 ·refine .both (a0.Kind !=2) (λb=>?_) (λb=>?_)
  ·have hg1:=b
   exact .g hg1 (.s (fa f206_0 z z z) z (.g hg1 (.s (ld T.t3 s z z z z z) z (.g hg1 (.q z (.s (pkt hg1 z z z) z (.nil (ck 4 s z (bi hg1)))))))))
  exact .xx b z (.xx b z (.xx b z (.s (pkf b z z z) z (.nil (ck 4 s z (bj b))))))
 intro W s
 refine .nil ?_
 refine .cs z h ?_ ?_ <;> intro h
 ·refine .g (.s (ld t206 s z z z z z) z (bv h λy1 hy1 h=>.c (.cO s func233 (si hy1 (s.keep aF) (s.keep cd) (s.keep bT)) z z ?_)))
  intro W s
  obtain rfl:=o9 h
  exact .qn z (.ret (ac () (rt z rn) z (s.to [])))
 refine .skip (.seq (.g (.q z (.q z (.q z (.cu 10 27 ((decide (a1<1))||((a0.Kind==3)&&(decide ((a0.Else.length:Int)>0)))) s ?_ ?_))))))
 ·refine .both (decide (a1<1)) (λb=>?_) (λb=>?_)
  ·exact .xx b z (.xx b z (.xx b z (.xx b z (.xu (.xu (.xu (.xu (.xx b z (.s (pkt b z z z) z (.nil (ck 10 s z (ff b))))))))))))
  have hg2:=b
  refine .g hg2 (.s (fa f206_0 z z z) z (.g hg2 (.s (ld T.t3 s z z z z z) z (.g hg2 (.q z (.g hg2 (.q z (.cu 5 26 ((a0.Kind==3)&&(decide ((a0.Else.length:Int)>0))) s ?_ ?_))))))))
  ·refine .both (a0.Kind==3) (λb=>?_) (λb=>?_)
   ·have hg3:=b
    exact .g hg3 (.s (fa f206_5 z z z) z (.g hg3 (.s (ld t162 s z z z z z) z (.g hg3 (.s (a8 (s.keep bT) u162 z z) z (.g hg3 (.q z (.g hg2 (.s (pkt hg3 z z z) z (.nil (ck 5 s z (bi hg3))))))))))))
   exact .xx b z (.xx b z (.xx b z (.xx b z (.g hg2 (.s (pkf b z z z) z (.nil (ck 5 s z (bj b))))))))
  intro W s
  exact .s (pkf hg2 z z z) z (.nil (ck 6 s z (fg hg2)))
 intro W s
 refine .nil ?_
 refine .cs z h ?_ ?_ <;> intro h
 ·obtain rfl:=o9 h
  exact .g (.qn z (.ret (ac () (rt z rn) z (s.to []))))
 refine .skip (.g (.s (ld t206 s z z z z z) z (bv h λy2 hy2 h=>.c (.cO s func234 (gD hy2 (s.keep aF) (s.keep cd) (s.keep bT)) z z ?_))))
 intro W s
 refine .q z (bv h λb1 hb1 h=>.cu 3 33 (b1) s ?_ ?_)
 ·refine .both (y2) (λb=>?_) (λb=>?_)
  ·have hg4:=b
   have h:=aK b hb1
   refine .g hg4 (.s (ld t206 s z z z z z) z (bv h λy3 hy3 h=>.g hg4 (.c (.cO s func235 (gF hy3 (s.keep aF) (s.keep cd) (s.keep bT)) z z ?_))))
   intro W s
   refine .s (pkt hg4 z z z) z ?_
   cases h
   exact .nil (ck 3 s)
  refine .xx b z (.xx b z ?_)
  cases aL b hb1
  exact .s (pkf b z z z) z (.nil (ck 3 s))
 intro W s
 refine .q z (bv h λb2 hb2 h=>.cu 4 38 (b2) s ?_ ?_)
 ·refine .both (b1) (λb=>?_) (λb=>?_)
  ·have hg5:=b
   have h:=aK b hb2
   refine .g hg5 (.s (fa f206_3 z z z) z (.g hg5 (.s (ld t204 s z z z z z) z (bv h λy4 hy4 h=>.g hg5 (.c (.cO s func236 (iC hy4 (s.keep aF)) z z ?_))))))
   intro W s
   refine .s (pkt hg5 z z z) z ?_
   cases h
   exact .nil (ck 4 s)
  refine .xx b z (.xx b z (.xx b z ?_))
  cases aL b hb2
  exact .s (pkf b z z z) z (.nil (ck 4 s))
 intro W s
 refine .q z (bv h λb3 hb3 h=>.cu 6 45 (b3) s ?_ ?_)
 ·refine .both (b2) (λb=>?_) (λb=>?_)
  ·have hg6:=b
   have h:=aK b hb3
   refine .g hg6 (.s (fa f206_4 z z z) z (.g hg6 (.s (ld t162 s z z z z z) z (.g hg6 (.q z (.g hg6 (.q z (bv h λy5 hy5 h=>.g hg6 (.c (.cO s func197 (lw hy5 (s.keep cd)) z z ?_))))))))))
   intro W s
   refine .s (pkt hg6 z z z) z ?_
   cases h
   exact .nil (ck 6 s)
  refine .xx b z (.xx b z (.xx b z (.xx b z (.xx b z ?_))))
  cases aL b hb3
  exact .s (pkf b z z z) z (.nil (ck 6 s))
 intro W s
 refine .q z (bv h λb4 hb4 h=>.cu 6 52 (b4) s ?_ ?_)
 ·refine .both (b3) (λb=>?_) (λb=>?_)
  ·have hg7:=b
   have h:=aK b hb4
   refine .g hg7 (.s (fa f206_5 z z z) z (.g hg7 (.s (ld t162 s z z z z z) z (.g hg7 (.q z (.g hg7 (.q z (bv h λy6 hy6 h=>.g hg7 (.c (.cO s func197 (lw hy6 (s.keep bT)) z z ?_))))))))))
   intro W s
   refine .s (pkt hg7 z z z) z ?_
   cases h
   exact .nil (ck 6 s)
  refine .xx b z (.xx b z (.xx b z (.xx b z (.xx b z ?_))))
  cases aL b hb4
  exact .s (pkf b z z z) z (.nil (ck 6 s))
 intro W s
 obtain rfl:=o9 h
 exact .qn z (.ret (ac () (rt z rn) z (s.to [])))
theorem pG (k:Nat):gG (dB k)/\m8 (rl k):=by
  induction k with
  | zero=>exact ⟨by intro a0 a1 v_0 w r h q_0; exact no h,by intro a0 a1 aW cG cH w r h aF cd bT; exact no h⟩
  | succ k ih=>exact ⟨s8 (k:=k) ih.1 ih.2,xt (k:=k) ih.1 ih.2⟩
theorem sj {k:Nat}:gG (dB k):=(pG k).1
theorem rC {k:Nat} {a0:List ax} {v_0:Hd} {w:World} {r:Bool} (h:gV k a0=some r) (q_0:RO w v_0 206 8 aC a0):CL 173 #[sv v_0] w (RU w (.bool r)):=by
 unfold gV at h
 refine au func173 z z ?_
 have s:=Sep.start w
 refine .g (.qn z (.g (.q z (bv h λy1 hy1 h=>.c (.cO s func197 (sj hy1 (s.keep q_0)) z z ?_)))))
 intro W s
 refine .q z (bv h λb1 hb1 h=>.cu 4 9 (b1) s ?_ ?_)
 ·refine .both (y1) (λb=>?_) (λb=>?_)
  ·have hg1:=b
   have h:=aK b hb1
   refine .g hg1 (.q z (bv h λy2 hy2 h=>.g hg1 (.c (.cO s func176 (oL hy2 (s.keep q_0)) z z ?_))))
   intro W s
   refine .g hg1 (.q z (.s (pkt hg1 z z z) z ?_))
   cases h
   exact .nil (ck 4 s)
  refine .xx b z (.xx b z (.xx b z ?_))
  cases aL b hb1
  exact .s (pkf b z z z) z (.nil (ck 4 s))
 intro W s
 obtain rfl:=o9 h
 exact .qn z (.ret (ac () (rt z rn) z (s.to [])))
def ly (F:Expr->Int->Option ((List ah))):Prop:=∀ {a0:Expr} {a1:Int} {fk:Hd} {w:World} {r:(List ah)} (h:F a0 a1=some r) (br:RO w fk 204 3 be a0.Args) , CL 213 #[.agg #[vi a0.Op,vi a0.N,sv fk],vi a1] w (Ret No w (λs:Hd=>(sv s)) (λs=>[ae (sv s) 102 5 aq r]))
theorem vM {k:Nat} {iK:Expr->Int->Option ((List ah))} (pA:ly iK):ly (iJ k iK):=by
 intro a0 a1 fk w r h br
 unfold iJ at h
 refine au func213 z z ?_
 have s:=Sep.start w
 refine .g (.c (.box s z z ?_))
 intro g1 W s
 refine .qn z (.seq (.g (.s (fa f204_0 z z z) z (.s (ld T.t3 s z z z z z) z (.q z (.nil ?_))))))
 refine .cs z h ?_ ?_ <;> intro h
 ·refine .g (.q z (.s (fa f204_1 z z z) z (.s (ld T.t3 s z z z z z) z (.s (bs T.s102 z z) z (.c (.liv [(ah.mk 1 a1 0 0 a0.N)] aq u78 t102 s z z z z ?_ z (λ_=>z)))))))
  intro v1 W s
  cases h
  exact .qn z (.ret (ac v1 (rt z rn) z (s.to [0])))
 refine .skip (.seq (.g (.s (fa f204_0 z z z) z (.s (ld T.t3 s z z z z z) z (.q z (.nil ?_))))))
 refine .cs z h ?_ ?_ <;> intro h
 ·refine .g (.q z (.s (fa f204_1 z z z) z (.s (ld T.t3 s z z z z z) z (.s (bs T.s102 z z) z (.c (.liv [(ah.mk 2 a1 a0.N 0 0)] aq u78 t102 s z z z z ?_ z (λ_=>z)))))))
  intro v2 W s
  cases h
  exact .qn z (.ret (ac v2 (rt z rn) z (s.to [0])))
 refine .skip (.seq (.rk 15 s [0] T.mix ?_))
 intro W s
 have t:=s.to [0]
 refine .ts' 0 z (λW t=>fa f204_2 z z z) t z (.ts' 1 z (λW t=>ld t202 t z z z z z) t z (bv h λx1 hx1 h=>?_))
 obtain ⟨k1,hd,hck1⟩:=RV.el2 br hx1
 have hd1:=px (fI _) hd
 obtain ⟨k1,rfl,hd2⟩:=dJ br z hd1
 obtain ⟨k1,rfl,hd3⟩:=dJ br z hd2
 obtain ⟨v3,k1,rfl,q1,hd4⟩:=c9 br hd3
 obtain rfl:=iq br hd4
 refine .ts' 2 z (λW t=>ixv (s.keep br) hx1 u202 t204 z z z) t z (.ts' 3 z (λW t=>lde (hck1 _ t.agree) t204 z z z z z) t z (.tp' 4 z z t (.ts' 6 z (λW t=>fa f204_2 z z z) t z (.ts' 7 z (λW t=>ld t202 t z z z z z) t z (bv h λx2 hx2 h=>?_)))))
 obtain ⟨k2,hd,hck2⟩:=RV.el2 br hx2
 have hd1:=px (fI _) hd
 obtain ⟨k2,rfl,hd2⟩:=dJ br z hd1
 obtain ⟨k2,rfl,hd3⟩:=dJ br z hd2
 obtain ⟨v4,k2,rfl,q2,hd4⟩:=c9 br hd3
 obtain rfl:=iq br hd4
 refine .ts' 8 z (λW t=>ixv (s.keep br) hx2 u202 t204 z z z) t z (.ts' 9 z (λW t=>lde (hck2 _ t.agree) t204 z z z z z) t z (.tp' 10 z z t (.tp' 11 z z t (bv h λy1 hy1 h=>.by1 5 z (.cV s func213 (pA hy1 (s.keep (q1 _ br))) z z ?_)))))
 intro v5 W s
 refine s.an [1] λt=>bv h λy2 hy2 h=>.by1 12 z (.cV s func213 (pA hy2 (s.keep (q2 _ br))) z z ?_)
 intro v6 W s
 refine s.an [2] λt=>bv h λr1 hr1 h=>?_
 have hT0:=s.p1
 refine .by1 13 z (.av hr1 hT0 hT0.p1.lv (λ_=>z) u78 t102 z z z ?_)
 intro v7 W s
 refine s.an [2] λt=>.tp' 14 z z t (.done (.g (.q z (.q z (.q z (.q z (.q z (.s (fa f204_0 z z z) z (.s (ld T.t3 s.p2 z z z z z) z (.s (bs T.s102 z z) z (.c (.liv [(ah.mk 3 a1 a1 (w64 (a1+1)) a0.Op)] aq u78 t102 s z z z z ?_ z (λ_=>z)))))))))))))
 intro v8 W s
 refine bv h λr2 hr2 h=>?_
 have hT0:=s.p1
 refine .c (.av hr2 hT0 hT0.p1.lv (λ_=>z) u78 t102 z z z ?_)
 intro v9 W s
 obtain rfl:=o9 h
 exact .qn z (.ret (ac v9 (rt z rn) z (s.to [0])))
theorem qF (k:Nat):ly (ee k):=by
  induction k with
  | zero=>exact by intro a0 a1 fk w r h br; exact no h
  | succ k ih=>exact vM (k:=k) ih
theorem mS {k:Nat}:ly (ee k):=(qF k)
def fp (F:List ax->Int->Option ((List ah))):Prop:=∀ {a0:List ax} {a1:Int} {v_0:Hd} {w:World} {r:(List ah)} (h:F a0 a1=some r) (q_0:RO w v_0 206 8 aC a0) , CL 174 #[sv v_0,vi a1] w (Ret No w (λs:Hd=>(sv s)) (λs=>[ae (sv s) 102 5 aq r]))
def gH (F:ax->Int->Option ((List ah))):Prop:=∀ {a0:ax} {a1:Int} {aW:Hd} {cG:Hd} {cH:Hd} {w:World} {r:(List ah)} (h:F a0 a1=some r) (aF:RO w aW 204 3 be a0.Expr.Args) (cd:RO w cG 206 8 aC a0.Body) (bT:RO w cH 206 8 aC a0.Else) , CL 198 #[.agg #[vi a0.Kind,vi a0.Var,vi a0.Box,vi a0.Expr.Op,vi a0.Expr.N,sv aW,sv cG,sv cH],vi a1] w (Ret No w (λs:Hd=>(sv s)) (λs=>[ae (sv s) 102 5 aq r]))
def jx (F:ax->Int->Option ((List ah))):Prop:=∀ {a0:ax} {a1:Int} {aW:Hd} {cG:Hd} {cH:Hd} {w:World} {r:(List ah)} (h:F a0 a1=some r) (aF:RO w aW 204 3 be a0.Expr.Args) (cd:RO w cG 206 8 aC a0.Body) (bT:RO w cH 206 8 aC a0.Else) , CL 214 #[.agg #[vi a0.Kind,vi a0.Var,vi a0.Box,vi a0.Expr.Op,vi a0.Expr.N,sv aW,sv cG,sv cH],vi a1] w (Ret No w (λs:Hd=>(sv s)) (λs=>[ae (sv s) 102 5 aq r]))
def fF (F:ax->Int->Option ((List ah))):Prop:=∀ {a0:ax} {a1:Int} {aW:Hd} {cG:Hd} {cH:Hd} {w:World} {r:(List ah)} (h:F a0 a1=some r) (aF:RO w aW 204 3 be a0.Expr.Args) (cd:RO w cG 206 8 aC a0.Body) (bT:RO w cH 206 8 aC a0.Else) , CL 215 #[.agg #[vi a0.Kind,vi a0.Var,vi a0.Box,vi a0.Expr.Op,vi a0.Expr.N,sv aW,sv cG,sv cH],vi a1] w (Ret No w (λs:Hd=>(sv s)) (λs=>[ae (sv s) 102 5 aq r]))
theorem vN {k:Nat} {bH:List ax->Int->Option ((List ah))} {bG:ax->Int->Option ((List ah))} {cK:ax->Int->Option ((List ah))} {bO:ax->Int->Option ((List ah))} (fG:fp bH) (kb:gH bG) (mv:jx cK) (jy:fF bO):fp (iL k bH bG cK bO):=by
 intro a0 a1 v_0 w r h q_0
 unfold iL at h
 refine au func174 z z ?_
 have s:=Sep.start w
 refine .g (.qn z (.g (.c (.liv [] aq u78 t102 s z z z z ?_ z (λ_=>z)))))
 intro v1 W s
 refine .qn z (.seq (.g (.qn z (.block (bv h λy1 hy1 h=>?_)))))
 refine .via (.iter (λs1 E' W'=>∃ (v4:Hd),aD E' [(0,(sv v_0)),(1,vi a1),(5,(sv v4)),(6,vi s1.2)]/\Sep No w W' [ae (sv v4) 102 5 aq s1.1]) (λy2 x E' W'=>x=.exit 0/\∃ (v5:Hd),aD E' [(5,(sv v5))]/\Sep No w W' [ae (sv v5) 102 5 aq y2]) hy1 ⟨v1,sb z,s.to [0]⟩ ?_) ?_
 ·intro s1 y3 E W h hI
  obtain ⟨v3,hE,s⟩:=hI
  refine CW.sub hE ?_
  unfold mL at h
  refine .seq (.g (.q z (.q z (.s (a8 (s.keep q_0) u162 z z) z (.q z (.nil ?_))))))
  refine .cs z h ?_ ?_ <;> intro h
  ·refine .skip (.seq (.block (.region (.q z (.q z (.q z (bv h λx1 hx1 h=>?_)))))))
   obtain ⟨k1,hd,hck1⟩:=RV.el2 q_0 hx1
   have hd1:=px (iI _) hd
   obtain ⟨k1,rfl,hd2⟩:=dJ q_0 z hd1
   obtain ⟨k1,rfl,hd3⟩:=dJ q_0 z hd2
   obtain ⟨k1,rfl,hd4⟩:=dJ q_0 z hd3
   have hd5:=px (fI _) hd4
   obtain ⟨k1,rfl,hd6⟩:=dJ q_0 z hd5
   obtain ⟨k1,rfl,hd7⟩:=dJ q_0 z hd6
   obtain ⟨v6,k1,rfl,q5,hd8⟩:=c9 q_0 hd7
   obtain ⟨v7,k1,rfl,q6,hd9⟩:=c9 q_0 hd8
   obtain ⟨v8,k1,rfl,q7,hd10⟩:=c9 q_0 hd9
   obtain rfl:=iq q_0 hd10
   refine .s (ixv (s.keep q_0) hx1 u162 t206 z z z) z (.s (lde (hck1 _ s.agree) t206 z z z z z) z (.q z (.q z (.s (a8 s.lv u78 z z) z (.q z (bv h λy4 hy4 h=>.c (.cV s func198 (kb hy4 (s.keep (q5 _ q_0)) (s.keep (q6 _ q_0)) (s.keep (q7 _ q_0))) z z ?_)))))))
   intro v9 W s
   refine bv h λr1 hr1 h=>?_
   have hT0:=s.p1
   refine .c (.av hr1 hT0 hT0.p1.lv (λ_=>z) u78 t102 z z z ?_)
   intro v10 W s
   refine .qn z (.region (.q z (.q z (.q z (.nil ?_)))))
   cases h
   exact ⟨z,v10,sb z,s.to [0]⟩
  refine .exit ?_
  cases h
  exact ⟨by simp,z,v3,sb z,s.to [0]⟩
 intro x E W hJ
 obtain ⟨rfl,v11,hE,s⟩:=hJ
 refine ⟨_,hE.sub,?_⟩
 obtain rfl:=o9 h
 exact .g (.q z (.qn z (.ret (ac v11 (rt z rn) z (s.to [0])))))
theorem vO {k:Nat} {bH:List ax->Int->Option ((List ah))} {bG:ax->Int->Option ((List ah))} {cK:ax->Int->Option ((List ah))} {bO:ax->Int->Option ((List ah))} (fG:fp bH) (kb:gH bG) (mv:jx cK) (jy:fF bO):gH (iM k bH bG cK bO):=by
 intro a0 a1 aW cG cH w r h aF cd bT
 unfold iM at h
 refine au func198 z z ?_
 have s:=Sep.start w
 refine .g (.c (.box s z z ?_))
 intro g1 W s
 refine .qn z (.g (.s (fa f206_3 z z z) z (.s (ld t204 s z z z z z) z (bv h λy1 hy1 h=>.c (.cV s func213 (mS hy1 (s.keep aF)) z z ?_)))))
 intro v1 W s
 refine .qn z (.seq (.g (.s (fa f206_0 z z z) z (.s (ld T.t3 s.p1 z z z z z) z (.nil (.block (.g (.q z (.q z (.nil ?_))))))))))
 refine .cs z h ?_ ?_ <;> intro h
 ·refine .g (.s (ld t206 s.p1 z z z z z) z (.q z (bv h λy2 hy2 h=>.c (.cV s func214 (mv hy2 (s.keep aF) (s.keep cd) (s.keep bT)) z z ?_))))
  intro v2 W s
  obtain rfl:=o9 h
  exact .qn z (.ret (ac v2 (rt z rn) z (s.to [0])))
 refine .g (.q z (.q z (.nil ?_)))
 refine .cs z h ?_ ?_ <;> intro h
 ·refine .g (.s (ld t206 s.p1 z z z z z) z (.q z (bv h λy3 hy3 h=>.c (.cV s func215 (jy hy3 (s.keep aF) (s.keep cd) (s.keep bT)) z z ?_))))
  intro v3 W s
  obtain rfl:=o9 h
  exact .qn z (.ret (ac v3 (rt z rn) z (s.to [0])))
 refine .g (.q z (.q z (.nil ?_)))
 refine .cs z h ?_ ?_ <;> intro h
 ·refine .g (.q z (.s (fa f206_1 z z z) z (.s (ld T.t3 s.p1 z z z z z) z (.s (bs T.s102 z z) z (.c (.liv [(ah.mk 2 a0.Var 4 0 0)] aq u78 t102 s z z z z ?_ z (λ_=>z)))))))
  intro v4 W s
  refine bv h λr1 hr1 h=>?_
  have hT0:=s.p1
  refine .c (.av hr1 hT0 hT0.p1.lv (λ_=>z) u78 t102 z z z ?_)
  intro v5 W s
  obtain rfl:=o9 h
  exact .qn z (.ret (ac v5 (rt z rn) z (s.to [0])))
 refine .g (.q z (.q z (.nil ?_)))
 refine .cs z h ?_ ?_ <;> intro h
 ·refine .g (.q z (.s (fa f206_2 z z z) z (.s (ld T.t3 s.p1 z z z z z) z (.s (bs T.s102 z z) z (.c (.liv [(ah.mk 6 0 4 0 a0.Box)] aq u78 t102 s z z z z ?_ z (λ_=>z)))))))
  intro v6 W s
  refine bv h λr2 hr2 h=>?_
  have hT0:=s.p1
  refine .c (.av hr2 hT0 hT0.p1.lv (λ_=>z) u78 t102 z z z ?_)
  intro v7 W s
  obtain rfl:=o9 h
  exact .qn z (.ret (ac v7 (rt z rn) z (s.to [0])))
 refine .g (.q z (.q z (.nil ?_)))
 refine .cs z h ?_ ?_ <;> intro h
 ·refine .g (.q z (.s (bs T.s102 z z) z (.c (.liv [(ah.mk 9 0 4 0 0)] aq u78 t102 s z z z z ?_ z (λ_=>z)))))
  intro v8 W s
  refine bv h λr3 hr3 h=>?_
  have hT0:=s.p1
  refine .c (.av hr3 hT0 hT0.p1.lv (λ_=>z) u78 t102 z z z ?_)
  intro v9 W s
  obtain rfl:=o9 h
  exact .qn z (.ret (ac v9 (rt z rn) z (s.to [0])))
 refine .g (.q z (.q z (.nil ?_)))
 refine .cs z h ?_ ?_ <;> intro h
 ·refine .g (.s (fa f206_1 z z z) z (.s (ld T.t3 s.p1 z z z z z) z (.s (fa f206_2 z z z) z (.s (ld T.t3 s.p1 z z z z z) z (.s (bs T.s102 z z) z (.c (.liv [(ah.mk 7 a0.Var 0 0 a0.Box)] aq u78 t102 s z z z z ?_ z (λ_=>z))))))))
  intro v10 W s
  cases h
  exact .qn z (.ret (ac v10 (rt z rn) z (s.to [0])))
 refine .skip (.g (.s (bs T.s102 z z) z (.c (.liv [(ah.mk 8 0 0 0 0)] aq u78 t102 s z z z z ?_ z (λ_=>z)))))
 intro v11 W s
 cases h
 exact .qn z (.ret (ac v11 (rt z rn) z (s.to [0])))
theorem xv {k:Nat} {bH:List ax->Int->Option ((List ah))} {bG:ax->Int->Option ((List ah))} {cK:ax->Int->Option ((List ah))} {bO:ax->Int->Option ((List ah))} (fG:fp bH) (kb:gH bG) (mv:jx cK) (jy:fF bO):jx (kG k bH bG cK bO):=by
 intro a0 a1 aW cG cH w r h aF cd bT
 unfold kG at h
 refine au func214 z z ?_
 have s:=Sep.start w
 refine .g (.c (.box s z z ?_))
 intro g1 W s
 refine .qn z (.g (.s (fa f206_3 z z z) z (.s (ld t204 s z z z z z) z (bv h λy1 hy1 h=>.c (.cV s func213 (mS hy1 (s.keep aF)) z z ?_)))))
 intro v1 W s
 refine .qn z (.g (.s (fa f206_4 z z z) z (.s (ld t162 s.p1 z z z z z) z (.q z (.q z (.s (a8 s.lv u78 z z) z (.q z (.q z (bv h λy2 hy2 h=>.c (.cV s func174 (fG hy2 (s.keep cd)) z z ?_))))))))))
 intro v2 W s
 refine .qn z (.g (.q z (.q z (.s (a8 s.p1.lv u78 z z) z (.q z (.q z (.q z (.s (a8 s.lv u78 z z) z (.q z (.qn z (.seq (.g (.s (fa f206_5 z z z) z (.s (ld t162 s.p2 z z z z z) z (.s (a8 (s.keep bT) u162 z z) z (.q z (.nil ?_)))))))))))))))))
 refine .cs z h ?_ ?_ <;> intro h
 ·refine .g (.q z (.q z (.s (bs T.s102 z z) z (.c (.liv [(ah.mk 5 0 4 0 (w64 ((w64 ((w64 (a1+(y1.length:Int)))+1))+(y2.length:Int))))] aq u78 t102 s z z z z ?_ z (λ_=>z))))))
  intro v3 W s
  refine bv h λr1 hr1 h=>?_
  have hT0:=s.p2
  refine .c (.av hr1 hT0 hT0.p1.lv (λ_=>z) u78 t102 z z z ?_)
  intro v4 W s
  refine .qn z (.g (.q z (.q z (bv h λr2 hr2 h=>?_))))
  have hT0:=s
  refine .c (.av hr2 hT0 hT0.p2.lv (λ_=>z) u78 t102 z z z ?_)
  intro v5 W s
  obtain rfl:=o9 h
  exact .qn z (.ret (ac v5 (rt z rn) z (s.to [0])))
 refine .skip (.g (.s (fa f206_5 z z z) z (.s (ld t162 s.p2 z z z z z) z (.q z (.q z (bv h λy3 hy3 h=>.c (.cV s func174 (fG hy3 (s.keep bT)) z z ?_)))))))
 intro v6 W s
 refine .qn z (.g (.q z (.q z (.q z (.s (bs T.s102 z z) z (.c (.liv [(ah.mk 5 0 4 0 (w64 ((w64 ((w64 ((w64 (a1+(y1.length:Int)))+1))+(y2.length:Int)))+1)))] aq u78 t102 s z z z z ?_ z (λ_=>z))))))))
 intro v7 W s
 refine bv h λr3 hr3 h=>?_
 have hT0:=s.p3
 refine .c (.av hr3 hT0 hT0.p1.lv (λ_=>z) u78 t102 z z z ?_)
 intro v8 W s
 refine .qn z (.g (.q z (.q z (bv h λr4 hr4 h=>?_))))
 have hT0:=s
 refine .c (.av hr4 hT0 hT0.p3.lv (λ_=>z) u78 t102 z z z ?_)
 intro v9 W s
 refine .qn z (.g (.q z (.q z (.q z (.q z (.s (a8 s.p2.lv u78 z z) z (.q z (.s (bs T.s102 z z) z (.c (.liv [(ah.mk 4 0 0 0 (w64 ((w64 ((w64 ((w64 ((w64 (a1+(y1.length:Int)))+1))+(y2.length:Int)))+1))+(y3.length:Int))))] aq u78 t102 s z z z z ?_ z (λ_=>z)))))))))))
 intro v10 W s
 refine bv h λr5 hr5 h=>?_
 have hT0:=s.p1
 refine .c (.av hr5 hT0 hT0.p1.lv (λ_=>z) u78 t102 z z z ?_)
 intro v11 W s
 refine .qn z (.g (.q z (.q z (bv h λr6 hr6 h=>?_))))
 have hT0:=s
 refine .c (.av hr6 hT0 hT0.p3.lv (λ_=>z) u78 t102 z z z ?_)
 intro v12 W s
 obtain rfl:=o9 h
 exact .qn z (.ret (ac v12 (rt z rn) z (s.to [0])))
theorem ui {k:Nat} {bH:List ax->Int->Option ((List ah))} {bG:ax->Int->Option ((List ah))} {cK:ax->Int->Option ((List ah))} {bO:ax->Int->Option ((List ah))} (fG:fp bH) (kb:gH bG) (mv:jx cK) (jy:fF bO):fF (gW k bH bG cK bO):=by
 intro a0 a1 aW cG cH w r h aF cd bT
 unfold gW at h
 refine au func215 z z ?_
 have s:=Sep.start w
 refine .g (.c (.box s z z ?_))
 intro g1 W s
 refine .qn z (.g (.s (fa f206_3 z z z) z (.s (ld t204 s z z z z z) z (bv h λy1 hy1 h=>.c (.cV s func213 (mS hy1 (s.keep aF)) z z ?_)))))
 intro v1 W s
 refine .qn z (.g (.s (fa f206_4 z z z) z (.s (ld t162 s.p1 z z z z z) z (.q z (.q z (.s (a8 s.lv u78 z z) z (.q z (.q z (bv h λy2 hy2 h=>.c (.cV s func174 (fG hy2 (s.keep cd)) z z ?_))))))))))
 intro v2 W s
 refine .qn z (.g (.q z (.q z (.q z (.s (a8 s.p1.lv u78 z z) z (.q z (.q z (.q z (.s (a8 s.lv u78 z z) z (.q z (.q z (.s (bs T.s102 z z) z (.c (.liv [(ah.mk 5 0 4 0 (w64 ((w64 ((w64 ((w64 (a1+(y1.length:Int)))+1))+(y2.length:Int)))+1)))] aq u78 t102 s z z z z ?_ z (λ_=>z)))))))))))))))
 intro v3 W s
 refine bv h λr1 hr1 h=>?_
 have hT0:=s.p2
 refine .c (.av hr1 hT0 hT0.p1.lv (λ_=>z) u78 t102 z z z ?_)
 intro v4 W s
 refine .qn z (.g (.q z (.q z (bv h λr2 hr2 h=>?_))))
 have hT0:=s
 refine .c (.av hr2 hT0 hT0.p2.lv (λ_=>z) u78 t102 z z z ?_)
 intro v5 W s
 refine .qn z (.g (.q z (.q z (.s (bs T.s102 z z) z (.c (.liv [(ah.mk 4 0 0 0 a1)] aq u78 t102 s z z z z ?_ z (λ_=>z)))))))
 intro v6 W s
 refine bv h λr3 hr3 h=>?_
 have hT0:=s.p1
 refine .c (.av hr3 hT0 hT0.p1.lv (λ_=>z) u78 t102 z z z ?_)
 intro v7 W s
 obtain rfl:=o9 h
 exact .qn z (.ret (ac v7 (rt z rn) z (s.to [0])))
theorem qG (k:Nat):fp (fM k)/\gH (jg k)/\jx (ni k)/\fF (jG k):=by
  induction k with
  | zero=>exact ⟨by intro a0 a1 v_0 w r h q_0; exact no h,by intro a0 a1 aW cG cH w r h aF cd bT; exact no h,by intro a0 a1 aW cG cH w r h aF cd bT; exact no h,by intro a0 a1 aW cG cH w r h aF cd bT; exact no h⟩
  | succ k ih=>exact ⟨vN (k:=k) ih.1 ih.2.1 ih.2.2.1 ih.2.2.2,vO (k:=k) ih.1 ih.2.1 ih.2.2.1 ih.2.2.2,xv (k:=k) ih.1 ih.2.1 ih.2.2.1 ih.2.2.2,ui (k:=k) ih.1 ih.2.1 ih.2.2.1 ih.2.2.2⟩
theorem uj {k:Nat}:fp (fM k):=(qG k).1
theorem qH {k:Nat} {a0:List ax} {v_0:Hd} {w:World} {r:(List ah)×Bool} (h:gl k a0=some r) (q_0:RO w v_0 206 8 aC a0):CL 130 #[sv v_0] w (Ret No w (λs:Hd=>.tuple #[sv s,.bool r.2]) (λs=>[ae (sv s) 102 5 aq r.1])):=by
 unfold gl at h
 refine au func130 z z ?_
 have s:=Sep.start w
 refine .g (.q z (.qn z (.seq (.g (.q z (bv h λy1 hy1 h=>.c (.cO s func173 (rC hy1 (s.keep q_0)) z z ?_)))))))
 intro W s
 refine .q z (.nil ?_)
 refine .cs z h ?_ ?_ <;> intro h
 ·refine .g (.c (.liv [] aq u78 t102 s z z z z ?_ z (λ_=>z)))
  intro v1 W s
  cases h
  exact .q z (.qn z (.ret (ac (vs:=[_,_]) v1 (rt z (rt z rn)) z (s.to [0]))))
 refine .skip (.g (.q z (bv h λy2 hy2 h=>.c (.cV s func174 (uj hy2 (s.keep q_0)) z z ?_))))
 intro v2 W s
 refine .s (bs T.s102 z z) z (.c (.liv [(ah.mk 10 0 0 0 0)] aq u78 t102 s z z z z ?_ z (λ_=>z)))
 intro v3 W s
 refine bv h λr1 hr1 h=>?_
 have hT0:=s.p1
 refine .c (.av hr1 hT0 hT0.p1.lv (λ_=>z) u78 t102 z z z ?_)
 intro v4 W s
 cases h
 exact .q z (.qn z (.ret (ac (vs:=[_,_]) v4 (rt z (rt z rn)) z (s.to [0]))))
theorem dE {a0:Int} {a1:Expr} {a2:Expr} {vP:Hd} {vQ:Hd} {S:Nat->Prop} {w:World} {r:Expr} (h:kr a0 a1 a2=some r) (hO:bQ w [ae (sv vP) 204 3 be a1.Args,ae (sv vQ) 204 3 be a2.Args] S) (hlt:∀ b,S b->b<w.heap.size):CL 237 #[vi a0,.agg #[vi a1.Op,vi a1.N,sv vP],.agg #[vi a2.Op,vi a2.N,sv vQ]] w (Ret S w (λs:Hd=>.agg #[vi r.Op,vi r.N,sv s]) (λs=>[ae (sv s) 204 3 be r.Args])):=by
 unfold kr at h
 refine au func237 z z ?_
 have s:=Sep.sm hO hlt
 refine .g (.c (.box s z z ?_))
 intro g1 W s
 refine .c (.box s z z ?_)
 intro g2 W s
 refine .c (.alloc t204 s ?_)
 intro g3 W s
 refine .nil (.g (.q z (.s (ld t204 s.p2 z z z z z) z (.s (ld t204 s.p1 z z z z z) z (.c (.lg (L1:=[ae (sv vP) 204 3 be a1.Args,ae (sv vQ) 204 3 be a2.Args]) [(Expr.mk a1.Op a1.N a1.Args),(Expr.mk a2.Op a2.N a2.Args)] be u202 t204 (s.to [3,3,0,0,0]) z z z (.aggE (fI _) (.flat (c1:=[vi a1.Op]) z (.flat (c1:=[vi a1.N]) z (.row (.aggE (fI _) (.flat (c1:=[vi a2.Op]) z (.flat (c1:=[vi a2.N]) z (.row .nil)))))))) ?_ z AN))))))
 intro v1 W s
 refine .s (bs T.s204 z z) z (.c (.st t204 s.p1 z z z ?_))
 intro W s
 cases h
 exact .nil (.ret (ac v1 (rc s t204 z rn z z) z (s.to [1])))
theorem bo {a0:Int} {a1:Int} {w:World} {r:Expr} (h:ek a0 a1=some r):CL 238 #[vi a0,vi a1] w (Ret No w (λs:Hd=>.agg #[vi r.Op,vi r.N,sv s]) (λs=>[ae (sv s) 204 3 be r.Args])):=by
 unfold ek at h
 refine au func238 z z ?_
 have s:=Sep.start w
 refine .g (.c (.alloc t204 s ?_))
 intro g1 W s
 refine .nil (.g (.q z (.q z (.c (.lg (L1:=[]) [] be u202 t204 (s.to [0]) z z z (.nil) ?_ z AN)))))
 intro v1 W s
 refine .s (bs T.s204 z z) z (.c (.st t204 s.p1 z z z ?_))
 intro W s
 cases h
 exact .nil (.ret (ac v1 (rc s t204 z rn z z) z (s.to [1])))
theorem uk {a0:aP} {aw:Hd} {g_0:Nat} {S:Nat->Prop} {w:World} {r:Expr×Int} (h:jh a0=some r) (aN:RV w (Old S w) (sv aw) 5 1 (D.int .u8) a0.b) (hO:bQ w [.box g_0 117 [sv aw,vi a0.p]] S) (hlt:∀ b,S b->b<w.heap.size):CL 239 #[Pt g_0] w (Ret S w (λs:Hd=>.agg #[vi r.1.Op,vi r.1.N,sv s]) (λs=>[.box g_0 117 [sv aw,vi r.2],ae (sv s) 204 3 be r.1.Args])):=by
 unfold jh at h
 refine au func239 z z ?_
 have s:=Sep.sm hO hlt
 refine .g (.c (.alloc t204 s ?_))
 intro g1 W s
 refine .nil (.seq (.g (.q z (bv h λy1 hy1 h=>?_))))
 have s:=s.p1
 refine .c (.cS (L0:=[.box g_0 117 [sv aw,vi a0.p]]) s func39 (λS h1 h2 h3=>(aj hy1 (s.ks aN h1) h2 (zz h1))) z z ?_)
 rintro ⟨⟩ W s
 refine .nil (.block (.g (.q z (.qn z (.cond z (λb=>?_) (λb=>?_))))))
 ·have h:=aK b h
  refine .g (.q z (bv h λy2 hy2 h=>.c (.cS (L0:=[.box g_0 117 [sv aw,vi y1.2]]) s func39 (λS h1 h2 h3=>(aj hy2 (s.ks aN h1) h2 (zz h1))) z z ?_)))
  rintro ⟨⟩ W s
  refine bv h λy3 hy3 h=>.c (.cV s func238 (bo hy3) z z ?_)
  intro v1 W s
  refine .c (.st t204 s.p2 z z z ?_)
  intro W s
  cases h
  exact .nil (.ret (ac v1 (rc s t204 z rn z z) z (s.to [2,1])))
 have h:=aL b h
 refine .g (.q z (.qn z (.cond z (λb=>?_) (λb=>?_))))
 ·have h:=aK b h
  refine .g (.c (.liv [5,31,32,100,2047,2048,65536,99999] (D.int .i64) u23 T.t3 s z z z z ?_ z (λ_=>z)))
  intro v2 W s
  refine .q z (bv h λy4 hy4 h=>?_)
  have s:=s.p1
  refine .c (.cS (L0:=[.box g_0 117 [sv aw,vi y1.2]]) s func39 (λS h1 h2 h3=>(aj hy4 (s.ks aN h1) h2 (zz h1))) z z ?_)
  rintro ⟨⟩ W s
  refine bv h λx1 hx1 h=>.s (ixv s.p1.lv hx1 u23 T.t3 z z z) z (.s (lde (RV.flat s.p1.lv hx1 z) T.t3 z z z z z) z (bv h λy5 hy5 h=>.c (.cV s func238 (bo hy5) z z ?_)))
  intro v3 W s
  refine .c (.st t204 s.p3 z z z ?_)
  intro W s
  cases h
  exact .nil (.ret (ac v3 (rc s t204 z rn z z) z (s.to [2,1])))
 have h:=aL b h
 refine .skip (.g (.q z (bv h λy6 hy6 h=>.c (.cS (L0:=[.box g_0 117 [sv aw,vi y1.2]]) s func39 (λS h1 h2 h3=>(aj hy6 (s.ks aN h1) h2 (zz h1))) z z ?_))))
 rintro ⟨⟩ W s
 refine bv h λy7 hy7 h=>.c (.cV s func238 (bo hy7) z z ?_)
 intro v4 W s
 refine .c (.st t204 s.p2 z z z ?_)
 intro W s
 cases h
 exact .nil (.ret (ac v4 (rc s t204 z rn z z) z (s.to [2,1])))
def lz (F:aP->Int->Option (Expr×Int)):Prop:=∀ {a0:aP} {a1:Int} {aw:Hd} {g_0:Nat} {S:Nat->Prop} {w:World} {r:Expr×Int} (h:F a0 a1=some r) (aN:RV w (Old S w) (sv aw) 5 1 (D.int .u8) a0.b) (hO:bQ w [.box g_0 117 [sv aw,vi a0.p]] S) (hlt:∀ b,S b->b<w.heap.size) , CL 220 #[Pt g_0,vi a1] w (Ret S w (λs:Hd=>.agg #[vi r.1.Op,vi r.1.N,sv s]) (λs=>[.box g_0 117 [sv aw,vi r.2],ae (sv s) 204 3 be r.1.Args]))
end

end Go.Proofs.YtgcmopfhafoabaaGreatDoor.N
