/- For every input the law FnBuildTasks returns true and leaves its arguments as they were. Condition (tied by the card to the program's text): the package-level variables impl.colorRegs, impl.binInstrs read as the program lays them. -/
import Derived.Test.YtfpngipcclmliaaGreatDoorK8
import Derived.Test.YtfpngipcclmliaaGreatDoorTie
import Derived.Test.YtfpngipcclmliaaGreatDoorCards
import Derived.Carry
import Derived.ProofKit
import Derived.OpenShut
import Derived.OpenVars
import Derived.ChangeSame
import Derived.ChangeVars
import Derived.RowKit
import Derived.Handy
import Derived.Lay
import Derived.SevenTiedAt
set_option linter.unusedVariables false
set_option linter.unusedSimpArgs false
set_option maxRecDepth 100000
set_option maxHeartbeats 4000000
namespace Go.Proofs.YtfpngipcclmliaaGreatDoor
open Go.ChangeShapes Go.WideShapes Go.ChangeAt Go.RowKit
namespace FnBuildTasks
open Go.Proofs.YtfpngipcclmliaaGreatDoor.X Go.Proofs.YtfpngipcclmliaaGreatDoor.N
def ts : List TypeId:=[5,22]
theorem ts_ok : ts.all (okT Tryz.prog ts) = true:=by kernel_rfl
theorem c5 : Tryz.prog.cellsOf 5 = 1:=by kernel_rfl
def W22 : List Int → Prop:=fun l=>∀ x ∈ l,(fun n=>(Lit.int .u8 n).wf = true) x
theorem D22 : Dec Tryz.prog 22 (fun (l : List Int)=>D.row 5 1 (l.map (D.int .u8))) W22:=Dec.slice T.u22 c5 (Dec.int T.u5)
theorem own : ownKnob Tryz.prog.godebug = none:=by kernel_rfl
theorem laidOut : laidOutB Tryz.prog = true:=by kernel_rfl
abbrev laids : List (String × DataW Unit):=[("loop.example/cothreads/impl.colorRegs",Rows.laid_loop_example_cothreads_impl_colorRegs),("loop.example/cothreads/impl.binInstrs",Rows.laid_loop_example_cothreads_impl_binInstrs)]
def gts : List TypeId:=[3,110,149]
theorem gts_ok : gts.all (okF Tryz.prog gts) = true:=by kernel_rfl
theorem lifted (os : Os) (started : os.Started) (H : Type) (enc : TypeId × Value → H) :
  ReturnsInHanded {} Tryz.checked os 3 .any (fun w args=>(Rows.fnBuildTasksSpec.pre enc Tryz.prog Tryz.f3 [] false w args ∧ laidMet Tryz.prog laids w) ∧ sizedMet enc Tryz.prog Tryz.f3 (OpenSpec.ofChange Rows.fnBuildTasksSpec) false w args)
   (Rows.fnBuildTasksSpec.post enc Tryz.prog Tryz.f3 false true false false):=by
 refine returnsInHanded_of_change_and (C:=Tryz.checked) (X:=fun w _=>laidMet Tryz.prog laids w) (fun _ _ _ hh h=>h.of_heap hh) own started (by kernel_rfl) Tryz.func3
  (ChangeSpec.witness_shaped (enc:=enc) (C:=Tryz.checked) (os:=os) (X:=fun w _=>laidMet Tryz.prog laids w) false (World.laidAll Tryz.prog os laids) #[.slice none 0 0] 8 (World.laidAll_os _ _ _)
   (World.shaped_of_ZipB (by kernel_rfl) (by kernel_rfl)) (by kernel_rfl) (by kernel_rfl) (by kernel_rfl)
   (laidMet_laidAll _ (by kernel_rfl) (by kernel_rfl))) ?_
 intro W base args ds gs before hval0 hW _ _ hL _
 have hval : ∀ (j : Nat) t v,Tryz.f3.params[j]? = some t → args[j]? = some v → Value.okWide Tryz.prog W .any base t v:=hval0
 have hW':=hW
 obtain ⟨p,q,hA0,hV,rfl,hfz,hnd⟩:=hW
 have hA : DataW.TrodAll enc Tryz.prog W 0 (fun _=>true) true Tryz.f3.params.toList args.toList ds p:=hA0
 rw [Tryz.params3] at hA hval
 obtain ⟨v0,vs0,d0,ds0,p0,q0,hargs,rfl,rfl,h0,r0⟩:=trodAll_cons hA
 obtain ⟨rfl,rfl,rfl⟩:=trodAll_nil r0
 obtain rfl : args = #[v0]:=by cases args; simp_all
 have hV1 : DataW.TrodVars enc Tryz.prog W (fun _=>true) ["loop.example/cothreads/impl.colorRegs","loop.example/cothreads/impl.binInstrs"] gs q:=hV
 obtain ⟨g0,g1,rfl⟩:=Bv hV1
 obtain ⟨lp,hLv,_,_⟩:=hL
 obtain ⟨cs_0,hc_0,hv_0,lq_0,hLv⟩:=vF gts_ok (g:=2) (t:=149) (by kernel_rfl) (by kernel_rfl) (by decide) hLv
 obtain ⟨cs_1,hc_1,hv_1,lq_1,hLv⟩:=vF gts_ok (g:=0) (t:=110) (by kernel_rfl) (by kernel_rfl) (by decide) hLv
 have hG : Go.Proofs.YtfpngipcclmliaaGreatDoor.N.Gl W:=⟨Bu (fun _=>rfl) (hc_1.trans (by kernel_rfl)) hv_1 (by kernel_rfl),trivial,Bu (fun _=>rfl) (hc_0.trans (by kernel_rfl)) hv_0 (by kernel_rfl),trivial⟩
 have k0:=h0
 have lt0 : ∀ x ∈ p0,x.block < W.heap.size:=by obtain ⟨m,hm⟩:=k0; exact DataW.trod_lt m _ _ _ hm
 obtain ⟨fuel,hf⟩:=h0
 obtain ⟨dd,hT,hR0,_⟩:=Bt (ts:=ts) ts_ok (by decide) hf
 obtain ⟨a0,rfl,w0⟩:=D22 dd hT
 obtain ⟨A0,n0,c0,rfl⟩:=okWide_slice Tryz.underlying22 (hval 0 22 v0 rfl rfl)
 have q0 : RV W (Old No W) (sv ⟨A0,n0,c0⟩) 5 1 (D.int .u8) a0:=hR0
 clear hA0 hval0
 refine (Go.Proofs.YtfpngipcclmliaaGreatDoor.N.qf (Ah (k:=20) (Nat.le_refl _) (Br w0)) q0 hG).mono fun e W' ⟨_,he,hS⟩=>?_
 subst he
 have bel:=hS.below
 exact ⟨_,rfl,_,_,_,[],_,_,hW',trodAll_mk1 (shut_bool Tryz.underlying4 _),(trodAll_cons_mk (Below.trod laidOut (by kernel_rfl) (of_decide_eq_true (by kernel_rfl)) k0 bel lt0) trodAll_mk0),Below.trodVars laidOut bel (by kernel_rfl) hV1,bel.frame _,fun h=>by cases h⟩
theorem row_holds : Rows.FnBuildTasksSaid:=
 OpenClaim.holds_of_wide 3 Tryz.f3 rfl rfl rfl rfl rfl rfl rfl ⟨rfl,rfl,rfl,rfl,rfl⟩ rfl rfl rfl rfl rfl (by kernel_rfl) Tryz.func3 (by kernel_rfl)
  (of_decide_eq_true (by kernel_rfl)) (by unfold Func.isWrapper; first | (rw [if_pos (by decide +kernel)]; kernel_rfl) | (rw [if_neg (by decide +kernel)]; exact ⟨rfl,rfl⟩))
  (fun os started H enc _=>lifted os started H enc)
end FnBuildTasks
theorem fnBuildTasks_card : Rows.FnBuildTasksCardSaid:=
 Claim7.holds_tied_plain_at .later [] [.data,.data] true (true,"bcf424f1ec2e5fd40d1221a1ab1aec5c09a4d0198b1ad741868035f20a8ef492") false
  FnBuildTasks.row_holds (fun _ h=>by cases h) (by kernel_rfl) (fun _ h=>by cases h) fnBuildTasks_row_tie rfl ⟨rfl,rfl⟩ (by kernel_rfl) rfl
  (fun f fn hf hfn=>by
   obtain rfl : f = 3:=Option.some.inj ((show Tryz.prog.funcNamed "loop.example/cothreads/laws.FnBuildTasks" = some 3 by kernel_rfl).symm.trans hf) |>.symm
   obtain rfl : fn = Tryz.f3:=(Option.some.inj (Tryz.func3.symm.trans hfn)).symm
   exact ⟨by kernel_rfl,fun j t ht=>by
    rw [Tryz.params3] at ht
    have hm : t ∈ [22]:=by simpa using Array.mem_of_getElem? ht
    have hall : ([22].all fun u=>!Tryz.prog.wantsStandIn u) = true:=by kernel_rfl
    exact (show Tryz.prog.wantsStandIn t = false by simpa using List.all_eq_true.1 hall t hm)⟩)
  (by kernel_rfl)
#print axioms fnBuildTasks_card
end Go.Proofs.YtfpngipcclmliaaGreatDoor
