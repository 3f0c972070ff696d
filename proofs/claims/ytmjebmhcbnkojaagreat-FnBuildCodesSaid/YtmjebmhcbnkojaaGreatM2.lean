/- For every input the law FnBuildCodes returns true and leaves its arguments as they were. No condition. -/
import Derived.Test.YtmjebmhcbnkojaaGreatK8
import Derived.Test.YtmjebmhcbnkojaaGreatRows
import Derived.Carry
import Derived.ProofKit
import Derived.OpenShut
import Derived.OpenVars
import Derived.ChangeSame
import Derived.ChangeVars
import Derived.RowKit
import Derived.Handy
import Derived.Lay
import Derived.SevenTiedAt
set_option linter.unusedVariables false
set_option linter.unusedSimpArgs false
set_option maxRecDepth 100000
set_option maxHeartbeats 4000000
namespace Go.Proofs.YtmjebmhcbnkojaaGreat
open Go.ChangeShapes Go.WideShapes Go.ChangeAt Go.RowKit
namespace FnBuildCodes
open Go.Proofs.YtmjebmhcbnkojaaGreat.X Go.Proofs.YtmjebmhcbnkojaaGreat.N
def ts : List TypeId:=[5,22]
theorem ts_ok : ts.all (okT Tryz.prog ts) = true:=by kernel_rfl
theorem c5 : Tryz.prog.cellsOf 5 = 1:=by kernel_rfl
def W22 : List Int → Prop:=fun l=>∀ x ∈ l,(fun n=>(Lit.int .u8 n).wf = true) x
theorem D22 : Dec Tryz.prog 22 (fun (l : List Int)=>D.row 5 1 (l.map (D.int .u8))) W22:=Dec.slice T.u22 c5 (Dec.int T.u5)
theorem own : ownKnob Tryz.prog.godebug = none:=by kernel_rfl
theorem laidOut : laidOutB Tryz.prog = true:=by kernel_rfl
theorem lifted (os : Os) (started : os.Started) (H : Type) (enc : TypeId × Value → H) :
  ReturnsInHanded {} Tryz.checked os 3 .any (Rows.fnBuildCodesSpec.pre6 enc Tryz.prog Tryz.f3 Rows.fnBuildCodesRow.domain false) (Rows.fnBuildCodesSpec.post enc Tryz.prog Tryz.f3 false true false false):=by
 refine returnsInHanded_of_change (C:=Tryz.checked) own started (by kernel_rfl) Tryz.func3
  (ChangeSpec.witness6 (enc:=enc) (C:=Tryz.checked) false ⟨#[],#[.slice none 0 0],[]⟩ 8 (by kernel_rfl) (by kernel_rfl) (by kernel_rfl) (by kernel_rfl)) ?_
 intro W base args ds gs before hval0 hW hcnd _
 have hval : ∀ (j : Nat) t v,Tryz.f3.params[j]? = some t → args[j]? = some v → Value.okWide Tryz.prog W .any base t v:=hval0
 have hW':=hW
 obtain ⟨p,q,hA0,hV,rfl,hfz,hnd⟩:=hW
 have hA : DataW.TrodAll enc Tryz.prog W 0 (fun _=>true) true Tryz.f3.params.toList args.toList ds p:=hA0
 rw [Tryz.params3] at hA hval
 obtain ⟨v0,vs0,d0,ds0,p0,q0,hargs,rfl,rfl,h0,r0⟩:=trodAll_cons hA
 obtain ⟨rfl,rfl,rfl⟩:=trodAll_nil r0
 obtain rfl : args = #[v0]:=by cases args; simp_all
 obtain ⟨rfl,rfl⟩:=trodVars_none hV
 have k0:=h0
 have lt0 : ∀ x ∈ p0,x.block < W.heap.size:=by obtain ⟨m,hm⟩:=k0; exact DataW.trod_lt m _ _ _ hm
 obtain ⟨fuel,hf⟩:=h0
 obtain ⟨dd,hT,hR0,_⟩:=yI (ts:=ts) ts_ok (by decide) hf
 obtain ⟨a0,rfl,w0⟩:=D22 dd hT
 obtain ⟨A0,n0,c0,rfl⟩:=okWide_slice Tryz.underlying22 (hval 0 22 v0 rfl rfl)
 have q0 : RV W (Old No W) (sv ⟨A0,n0,c0⟩) 5 1 (D.int .u8) a0:=hR0
 clear hA0 hval0
 refine (Go.Proofs.YtmjebmhcbnkojaaGreat.N.oe (xB (k:=20) (Nat.le_refl _) (yH w0)) q0).mono fun e W' ⟨_,he,hS⟩=>?_
 subst he
 have bel:=hS.below
 exact ⟨_,rfl,_,_,_,[],_,_,hW',trodAll_mk1 (shut_bool Tryz.underlying4 _),(trodAll_cons_mk (Below.trod laidOut (by kernel_rfl) (of_decide_eq_true (by kernel_rfl)) k0 bel lt0) trodAll_mk0),rfl,bel.frame _,fun h=>by cases h⟩
theorem row_holds : Rows.FnBuildCodesSaid:=
 OpenClaim.holds_of_wide 3 Tryz.f3 rfl rfl rfl rfl rfl rfl rfl ⟨rfl,rfl,rfl,rfl,rfl⟩ rfl rfl rfl rfl rfl (by kernel_rfl) Tryz.func3 (by kernel_rfl)
  (of_decide_eq_true (by kernel_rfl)) (by unfold Func.isWrapper; first | (rw [if_pos (by decide +kernel)]; kernel_rfl) | (rw [if_neg (by decide +kernel)]; exact ⟨rfl,rfl⟩))
  (fun os started H enc _=>lifted os started H enc)
end FnBuildCodes
theorem fnBuildCodes_holds : Rows.FnBuildCodesSaid:=FnBuildCodes.row_holds
#print axioms fnBuildCodes_holds
end Go.Proofs.YtmjebmhcbnkojaaGreat
