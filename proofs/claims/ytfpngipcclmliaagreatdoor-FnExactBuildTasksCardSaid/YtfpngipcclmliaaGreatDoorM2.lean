/- For every input the law FnExactBuildTasks returns true and leaves its arguments as they were. Condition (tied by the card to the program's text): the package-level variables impl.colorRegs, impl.binInstrs read as the program lays them. -/
import Derived.Test.YtfpngipcclmliaaGreatDoorK9
import Derived.Test.YtfpngipcclmliaaGreatDoorTie
import Derived.Test.YtfpngipcclmliaaGreatDoorCards
import Derived.Carry
import Derived.ProofKit
import Derived.OpenShut
import Derived.OpenVars
import Derived.ChangeSame
import Derived.ChangeVars
import Derived.RowKit
import Derived.Handy
import Derived.Lay
import Derived.SevenTiedAt
set_option linter.unusedVariables false
set_option linter.unusedSimpArgs false
set_option maxRecDepth 100000
set_option maxHeartbeats 4000000
namespace Go.Proofs.YtfpngipcclmliaaGreatDoor
open Go.ChangeShapes Go.WideShapes Go.ChangeAt Go.RowKit
namespace FnExactBuildTasks
open Go.Proofs.YtfpngipcclmliaaGreatDoor.X Go.Proofs.YtfpngipcclmliaaGreatDoor.N
def ts : List TypeId:=[3,23,41,43,114,151,153,155]
theorem ts_ok : ts.all (okT Tryz.prog ts) = true:=by kernel_rfl
theorem c3 : Tryz.prog.cellsOf 3 = 1:=by kernel_rfl
def W23 : List Int → Prop:=fun l=>∀ x ∈ l,(fun n=>(Lit.int .i64 n).wf = true) x
theorem D23 : Dec Tryz.prog 23 (fun (l : List Int)=>D.row 3 1 (l.map (D.int .i64))) W23:=Dec.slice T.u23 c3 (Dec.int T.u3)
theorem recs_list {P : Program} {e : TypeId} {α : Type} {enc : α → D} : ∀ {xs : List D},(∀ d ∈ xs,Typ P d e → ∃ x,d = enc x) → yh P xs e → ∃ l : List α,xs = l.map enc
 | [],_,_=>⟨[],rfl⟩
 | d :: xs,ih,⟨h1,h2⟩=>by
  obtain ⟨x,rfl⟩:=ih d (by simp) h1
  obtain ⟨l,rfl⟩:=recs_list (fun d hd=>ih d (by simp [hd])) h2
  exact ⟨x :: l,rfl⟩
theorem typ_recs {P : Program} {t e : TypeId} {size : Nat} {α : Type} {enc : α → D} {ds : List D} {ts : List TypeId} (hu : P.underlying t = some (.slice e)) (hc : P.cellsOf e = size) (ih : ∀ d,SizeOf.sizeOf d < SizeOf.sizeOf ds → Typ P d e → ∃ x,d = enc x) (h : zM P ds (t :: ts)) :
  ∃ (l : List α) (ds' : List D),ds = D.row e size (l.map enc) :: ds' ∧ True ∧ zM P ds' ts:=by
 cases ds with
 | nil=>exact h.elim
 | cons d ds =>
  obtain ⟨h1,h2⟩:=h
  cases d with
  | row e' s xs =>
   obtain ⟨k1,k2,k3⟩:=h1
   rw [hu] at k1
   injection k1 with k1
   injection k1 with k1
   subst k1
   obtain ⟨l,rfl⟩:=recs_list (fun d hd hT=>ih d (by have:=List.sizeOf_lt_of_mem hd; simp; omega) hT) k3
   exact ⟨l,ds,by rw [k2,hc],trivial,h2⟩
  | bool b=>rw [show P.underlying t = some .bool from h1] at hu; cases hu
  | int k' n=>rw [h1.1] at hu; cases hu
  | str s=>rw [show P.underlying t = some .string from h1.1] at hu; cases hu
  | agg xs=>obtain ⟨ts,h1,_⟩:=h1; simp [sX,hu] at h1
theorem c153 : Tryz.prog.cellsOf 153 = 3:=by kernel_rfl
theorem S153 : sX Tryz.prog 153 = some [3,3,151]:=by kernel_rfl
def W153 : Go.Proofs.YtfpngipcclmliaaGreatDoor.N.ay → Prop:=fun _=>True
theorem D153 : Dec Tryz.prog 153 iK W153:=by
 have key : ∀ (n : Nat) (d : D),SizeOf.sizeOf d ≤ n → Typ Tryz.prog d 153 → ∃ x : Go.Proofs.YtfpngipcclmliaaGreatDoor.N.ay,d = iK x:=by
  intro n
  induction n with
  | zero=>intro d hn; cases d <;> simp at hn
  | succ n ih =>
   intro d hn h0
   obtain ⟨ds,rfl,h⟩:=zN S153 h0
   obtain ⟨x0,ds,rfl,_,h⟩:=nI (Dec.int T.u3) h
   obtain ⟨x1,ds,rfl,_,h⟩:=nI (Dec.int T.u3) h
   obtain ⟨x2,ds,rfl,_,h⟩:=typ_recs (enc:=iK) T.u151 c153 (fun d hd hT=>ih d (by simp at hn; omega) hT) h
   obtain rfl:=zO h
   exact ⟨⟨x0,x1,x2⟩,by rw [wY]⟩
 exact fun d h=>let ⟨x,e⟩:=key _ d (Nat.le_refl _) h; ⟨x,e,trivial⟩
theorem c155 : Tryz.prog.cellsOf 155 = 8:=by kernel_rfl
theorem S155 : sX Tryz.prog 155 = some [3,3,3,153,114,114]:=by kernel_rfl
def W155 : Go.Proofs.YtfpngipcclmliaaGreatDoor.N.au → Prop:=fun _=>True
theorem D155 : Dec Tryz.prog 155 cQ W155:=by
 have key : ∀ (n : Nat) (d : D),SizeOf.sizeOf d ≤ n → Typ Tryz.prog d 155 → ∃ x : Go.Proofs.YtfpngipcclmliaaGreatDoor.N.au,d = cQ x:=by
  intro n
  induction n with
  | zero=>intro d hn; cases d <;> simp at hn
  | succ n ih =>
   intro d hn h0
   obtain ⟨ds,rfl,h⟩:=zN S155 h0
   obtain ⟨x0,ds,rfl,_,h⟩:=nI (Dec.int T.u3) h
   obtain ⟨x1,ds,rfl,_,h⟩:=nI (Dec.int T.u3) h
   obtain ⟨x2,ds,rfl,_,h⟩:=nI (Dec.int T.u3) h
   obtain ⟨x3,ds,rfl,_,h⟩:=nI D153 h
   obtain ⟨x4,ds,rfl,_,h⟩:=typ_recs (enc:=cQ) T.u114 c155 (fun d hd hT=>ih d (by simp at hn; omega) hT) h
   obtain ⟨x5,ds,rfl,_,h⟩:=typ_recs (enc:=cQ) T.u114 c155 (fun d hd hT=>ih d (by simp at hn; omega) hT) h
   obtain rfl:=zO h
   exact ⟨⟨x0,x1,x2,x3,x4,x5⟩,by rw [Be]⟩
 exact fun d h=>let ⟨x,e⟩:=key _ d (Nat.le_refl _) h; ⟨x,e,trivial⟩
def W114 : List Go.Proofs.YtfpngipcclmliaaGreatDoor.N.au → Prop:=fun l=>∀ x ∈ l,W155 x
theorem D114 : Dec Tryz.prog 114 (fun (l : List au)=>D.row 155 8 (l.map cQ)) W114:=Dec.slice T.u114 c155 D155
theorem c114 : Tryz.prog.cellsOf 114 = 1:=by kernel_rfl
def W41 : List (List Go.Proofs.YtfpngipcclmliaaGreatDoor.N.au) → Prop:=fun l=>∀ x ∈ l,W114 x
theorem D41 : Dec Tryz.prog 41 (fun (l : List (List au))=>D.row 114 1 (l.map (fun (l : List au)=>D.row 155 8 (l.map cQ)))) W41:=Dec.slice T.u41 c114 D114
theorem S43 : sX Tryz.prog 43 = some [23,41]:=by kernel_rfl
def W43 : Go.Proofs.YtfpngipcclmliaaGreatDoor.N.aR → Prop:=fun x=>W23 x.Rooms ∧ W41 x.Tasks
theorem D43 : Dec Tryz.prog 43 sM W43:=by
 intro d h0
 obtain ⟨ds,rfl,h⟩:=zN S43 h0
 obtain ⟨x0,ds,rfl,w0,h⟩:=nI D23 h
 obtain ⟨x1,ds,rfl,w1,h⟩:=nI D41 h
 obtain rfl:=zO h
 exact ⟨⟨x0,x1⟩,rfl,⟨w0,w1⟩⟩
def W151 : List Go.Proofs.YtfpngipcclmliaaGreatDoor.N.ay → Prop:=fun l=>∀ x ∈ l,W153 x
theorem D151 : Dec Tryz.prog 151 (fun (l : List ay)=>D.row 153 3 (l.map iK)) W151:=Dec.slice T.u151 c153 D153
theorem own : ownKnob Tryz.prog.godebug = none:=by kernel_rfl
theorem laidOut : laidOutB Tryz.prog = true:=by kernel_rfl
abbrev laids : List (String × DataW Unit):=[("loop.example/cothreads/impl.colorRegs",Rows.laid_loop_example_cothreads_impl_colorRegs),("loop.example/cothreads/impl.binInstrs",Rows.laid_loop_example_cothreads_impl_binInstrs)]
def gts : List TypeId:=[3,110,149]
theorem gts_ok : gts.all (okF Tryz.prog gts) = true:=by kernel_rfl
theorem lifted (os : Os) (started : os.Started) (H : Type) (enc : TypeId × Value → H) :
  ReturnsInHanded {} Tryz.checked os 4 .any (fun w args=>(Rows.fnExactBuildTasksSpec.pre enc Tryz.prog Tryz.f4 [] false w args ∧ laidMet Tryz.prog laids w) ∧ sizedMet enc Tryz.prog Tryz.f4 (OpenSpec.ofChange Rows.fnExactBuildTasksSpec) false w args)
   (Rows.fnExactBuildTasksSpec.post enc Tryz.prog Tryz.f4 false true false false):=by
 refine returnsInHanded_of_change_and (C:=Tryz.checked) (X:=fun w _=>laidMet Tryz.prog laids w) (fun _ _ _ hh h=>h.of_heap hh) own started (by kernel_rfl) Tryz.func4
  (ChangeSpec.witness_shaped (enc:=enc) (C:=Tryz.checked) (os:=os) (X:=fun w _=>laidMet Tryz.prog laids w) false (World.laidAll Tryz.prog os laids) #[.agg #[.slice none 0 0,.slice none 0 0],.int .i64 0,.int .i64 0] 8 (World.laidAll_os _ _ _)
   (World.shaped_of_ZipB (by kernel_rfl) (by kernel_rfl)) (by kernel_rfl) (by kernel_rfl) (by kernel_rfl)
   (laidMet_laidAll _ (by kernel_rfl) (by kernel_rfl))) ?_
 intro W base args ds gs before hval0 hW _ _ hL _
 have hval : ∀ (j : Nat) t v,Tryz.f4.params[j]? = some t → args[j]? = some v → Value.okWide Tryz.prog W .any base t v:=hval0
 have hW':=hW
 obtain ⟨p,q,hA0,hV,rfl,hfz,hnd⟩:=hW
 have hA : DataW.TrodAll enc Tryz.prog W 0 (fun _=>true) true Tryz.f4.params.toList args.toList ds p:=hA0
 rw [Tryz.params4] at hA hval
 obtain ⟨v0,vs0,d0,ds0,p0,q0,hargs,rfl,rfl,h0,r0⟩:=trodAll_cons hA
 obtain ⟨v1,vs1,d1,ds1,p1,q1,rfl,rfl,rfl,h1,r1⟩:=trodAll_cons r0
 obtain ⟨v2,vs2,d2,ds2,p2,q2,rfl,rfl,rfl,h2,r2⟩:=trodAll_cons r1
 obtain ⟨rfl,rfl,rfl⟩:=trodAll_nil r2
 obtain rfl : args = #[v0,v1,v2]:=by cases args; simp_all
 have hV1 : DataW.TrodVars enc Tryz.prog W (fun _=>true) ["loop.example/cothreads/impl.colorRegs","loop.example/cothreads/impl.binInstrs"] gs q:=hV
 obtain ⟨g0,g1,rfl⟩:=D0 hV1
 obtain ⟨lp,hLv,_,_⟩:=hL
 obtain ⟨cs_0,hc_0,hv_0,lq_0,hLv⟩:=xA gts_ok (g:=2) (t:=149) (by kernel_rfl) (by kernel_rfl) (by decide) hLv
 obtain ⟨cs_1,hc_1,hv_1,lq_1,hLv⟩:=xA gts_ok (g:=0) (t:=110) (by kernel_rfl) (by kernel_rfl) (by decide) hLv
 have hG : Go.Proofs.YtfpngipcclmliaaGreatDoor.N.Gl W:=⟨DZ (fun _=>rfl) (hc_1.trans (by kernel_rfl)) hv_1 (by kernel_rfl),trivial,DZ (fun _=>rfl) (hc_0.trans (by kernel_rfl)) hv_0 (by kernel_rfl),trivial⟩
 have k0:=h0
 have lt0 : ∀ x ∈ p0,x.block < W.heap.size:=by obtain ⟨m,hm⟩:=k0; exact DataW.trod_lt m _ _ _ hm
 obtain ⟨fuel,hf⟩:=h0
 obtain ⟨dd,hT,hR0,_⟩:=DY (ts:=ts) ts_ok (by decide) hf
 obtain ⟨a0,rfl,w0⟩:=D43 dd hT
 obtain ⟨cs0,rfl,_⟩:=okWide_struct Tryz.underlying43 (hval 0 43 v0 rfl rfl)
 obtain ⟨k,hk⟩ : ∃ k,k = cs0.toList:=⟨_,rfl⟩
 have hR : D.rd W (sM a0) (Old No W) k:=hk ▸ hR0
 have hd : ∀ T',D.rd W (sM a0) T' k → D.rds W [.row 3 1 (a0.Rooms.map (D.int .i64)),.row 114 1 (a0.Tasks.map (fun (l : List au)=>D.row 155 8 (l.map cQ)))] T' k:=fun _ h=>h
 clear hR0
 obtain ⟨z1,k,rfl,qz1,hd⟩:=bn hR hd
 obtain ⟨z2,k,rfl,qz2,hd⟩:=bn hR hd
 obtain rfl:=gU hR hd
 obtain rfl : cs0 = #[sv z1,sv z2]:=Array.ext' hk.symm
 have hR0:=hR
 clear hk hd
 have k1:=h1
 have lt1 : ∀ x ∈ p1,x.block < W.heap.size:=by obtain ⟨m,hm⟩:=k1; exact DataW.trod_lt m _ _ _ hm
 obtain ⟨a1,rfl,rfl,rfl,w1⟩:=open_int Tryz.underlying3 (hval 1 3 v1 rfl rfl) h1
 have k2:=h2
 have lt2 : ∀ x ∈ p2,x.block < W.heap.size:=by obtain ⟨m,hm⟩:=k2; exact DataW.trod_lt m _ _ _ hm
 obtain ⟨a2,rfl,rfl,rfl,w2⟩:=open_int Tryz.underlying3 (hval 2 3 v2 rfl rfl) h2
 clear hA0 hval0
 refine (Go.Proofs.YtfpngipcclmliaaGreatDoor.N.oY (BJ a0 a1 a2 (EL (qz1 _ hR0) (qz2 _ hR0))) (qz1 _ hR0) (qz2 _ hR0) hG).mono fun e W' ⟨_,he,hS⟩=>?_
 subst he
 have bel:=hS.below
 exact ⟨_,rfl,_,_,_,[],_,_,hW',trodAll_mk1 (shut_bool Tryz.underlying4 _),(trodAll_cons_mk (Below.trod laidOut (by kernel_rfl) (of_decide_eq_true (by kernel_rfl)) k0 bel lt0) (trodAll_cons_mk (Below.trod laidOut (by kernel_rfl) (of_decide_eq_true (by kernel_rfl)) k1 bel lt1) (trodAll_cons_mk (Below.trod laidOut (by kernel_rfl) (of_decide_eq_true (by kernel_rfl)) k2 bel lt2) trodAll_mk0))),Below.trodVars laidOut bel (by kernel_rfl) hV1,bel.frame _,fun h=>by cases h⟩
theorem row_holds : Rows.FnExactBuildTasksSaid:=
 OpenClaim.holds_of_wide 4 Tryz.f4 rfl rfl rfl rfl rfl rfl rfl ⟨rfl,rfl,rfl,rfl,rfl⟩ rfl rfl rfl rfl rfl (by kernel_rfl) Tryz.func4 (by kernel_rfl)
  (of_decide_eq_true (by kernel_rfl)) (by unfold Func.isWrapper; first | (rw [if_pos (by decide +kernel)]; kernel_rfl) | (rw [if_neg (by decide +kernel)]; exact ⟨rfl,rfl⟩))
  (fun os started H enc _=>lifted os started H enc)
end FnExactBuildTasks
theorem fnExactBuildTasks_card : Rows.FnExactBuildTasksCardSaid:=
 Claim7.holds_tied_plain_at .later [] [.data,.data] true (true,"bcf424f1ec2e5fd40d1221a1ab1aec5c09a4d0198b1ad741868035f20a8ef492") false
  FnExactBuildTasks.row_holds (fun _ h=>by cases h) (by kernel_rfl) (fun _ h=>by cases h) fnExactBuildTasks_row_tie rfl ⟨rfl,rfl⟩ (by kernel_rfl) rfl
  (fun f fn hf hfn=>by
   obtain rfl : f = 4:=Option.some.inj ((show Tryz.prog.funcNamed "loop.example/cothreads/laws.FnExactBuildTasks" = some 4 by kernel_rfl).symm.trans hf) |>.symm
   obtain rfl : fn = Tryz.f4:=(Option.some.inj (Tryz.func4.symm.trans hfn)).symm
   exact ⟨by kernel_rfl,fun j t ht=>by
    rw [Tryz.params4] at ht
    have hm : t ∈ [43,3,3]:=by simpa using Array.mem_of_getElem? ht
    have hall : ([43,3,3].all fun u=>!Tryz.prog.wantsStandIn u) = true:=by kernel_rfl
    exact (show Tryz.prog.wantsStandIn t = false by simpa using List.all_eq_true.1 hall t hm)⟩)
  (by kernel_rfl)
#print axioms fnExactBuildTasks_card
end Go.Proofs.YtfpngipcclmliaaGreatDoor
