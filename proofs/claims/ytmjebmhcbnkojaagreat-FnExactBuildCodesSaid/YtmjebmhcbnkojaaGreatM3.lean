/- For every input the law FnExactBuildCodes returns true and leaves its arguments as they were. No condition. -/
import Derived.Test.YtmjebmhcbnkojaaGreatK7
import Derived.Test.YtmjebmhcbnkojaaGreatRows
import Derived.Carry
import Derived.ProofKit
import Derived.OpenShut
import Derived.OpenVars
import Derived.ChangeSame
import Derived.ChangeVars
import Derived.RowKit
import Derived.Handy
import Derived.Lay
import Derived.SevenTiedAt
set_option linter.unusedVariables false
set_option linter.unusedSimpArgs false
set_option maxRecDepth 100000
set_option maxHeartbeats 4000000
namespace Go.Proofs.YtmjebmhcbnkojaaGreat
open Go.ChangeShapes Go.WideShapes Go.ChangeAt Go.RowKit
namespace FnExactBuildCodes
open Go.Proofs.YtmjebmhcbnkojaaGreat.X Go.Proofs.YtmjebmhcbnkojaaGreat.N
def ts : List TypeId:=[3,23,42,44,108,139,141,143]
theorem ts_ok : ts.all (okT Tryz.prog ts) = true:=by kernel_rfl
theorem c3 : Tryz.prog.cellsOf 3 = 1:=by kernel_rfl
def W23 : List Int → Prop:=fun l=>∀ x ∈ l,(fun n=>(Lit.int .i64 n).wf = true) x
theorem D23 : Dec Tryz.prog 23 (fun (l : List Int)=>D.row 3 1 (l.map (D.int .i64))) W23:=Dec.slice T.u23 c3 (Dec.int T.u3)
theorem recs_list {P : Program} {e : TypeId} {α : Type} {enc : α → D} : ∀ {xs : List D},(∀ d ∈ xs,Typ P d e → ∃ x,d = enc x) → vP P xs e → ∃ l : List α,xs = l.map enc
 | [],_,_=>⟨[],rfl⟩
 | d :: xs,ih,⟨h1,h2⟩=>by
  obtain ⟨x,rfl⟩:=ih d (by simp) h1
  obtain ⟨l,rfl⟩:=recs_list (fun d hd=>ih d (by simp [hd])) h2
  exact ⟨x :: l,rfl⟩
theorem typ_recs {P : Program} {t e : TypeId} {size : Nat} {α : Type} {enc : α → D} {ds : List D} {ts : List TypeId} (hu : P.underlying t = some (.slice e)) (hc : P.cellsOf e = size) (ih : ∀ d,SizeOf.sizeOf d < SizeOf.sizeOf ds → Typ P d e → ∃ x,d = enc x) (h : xh P ds (t :: ts)) :
  ∃ (l : List α) (ds' : List D),ds = D.row e size (l.map enc) :: ds' ∧ True ∧ xh P ds' ts:=by
 cases ds with
 | nil=>exact h.elim
 | cons d ds =>
  obtain ⟨h1,h2⟩:=h
  cases d with
  | row e' s xs =>
   obtain ⟨k1,k2,k3⟩:=h1
   rw [hu] at k1
   injection k1 with k1
   injection k1 with k1
   subst k1
   obtain ⟨l,rfl⟩:=recs_list (fun d hd hT=>ih d (by have:=List.sizeOf_lt_of_mem hd; simp; omega) hT) k3
   exact ⟨l,ds,by rw [k2,hc],trivial,h2⟩
  | bool b=>rw [show P.underlying t = some .bool from h1] at hu; cases hu
  | int k' n=>rw [h1.1] at hu; cases hu
  | str s=>rw [show P.underlying t = some .string from h1.1] at hu; cases hu
  | agg xs=>obtain ⟨ts,h1,_⟩:=h1; simp [qJ,hu] at h1
theorem c141 : Tryz.prog.cellsOf 141 = 3:=by kernel_rfl
theorem S141 : qJ Tryz.prog 141 = some [3,3,139]:=by kernel_rfl
def W141 : Go.Proofs.YtmjebmhcbnkojaaGreat.N.ax → Prop:=fun _=>True
theorem D141 : Dec Tryz.prog 141 gS W141:=by
 have key : ∀ (n : Nat) (d : D),SizeOf.sizeOf d ≤ n → Typ Tryz.prog d 141 → ∃ x : Go.Proofs.YtmjebmhcbnkojaaGreat.N.ax,d = gS x:=by
  intro n
  induction n with
  | zero=>intro d hn; cases d <;> simp at hn
  | succ n ih =>
   intro d hn h0
   obtain ⟨ds,rfl,h⟩:=xi S141 h0
   obtain ⟨x0,ds,rfl,_,h⟩:=my (Dec.int T.u3) h
   obtain ⟨x1,ds,rfl,_,h⟩:=my (Dec.int T.u3) h
   obtain ⟨x2,ds,rfl,_,h⟩:=typ_recs (enc:=gS) T.u139 c141 (fun d hd hT=>ih d (by simp at hn; omega) hT) h
   obtain rfl:=xj h
   exact ⟨⟨x0,x1,x2⟩,by rw [uz]⟩
 exact fun d h=>let ⟨x,e⟩:=key _ d (Nat.le_refl _) h; ⟨x,e,trivial⟩
theorem c143 : Tryz.prog.cellsOf 143 = 8:=by kernel_rfl
theorem S143 : qJ Tryz.prog 143 = some [3,3,3,141,108,108]:=by kernel_rfl
def W143 : Go.Proofs.YtmjebmhcbnkojaaGreat.N.aq → Prop:=fun _=>True
theorem D143 : Dec Tryz.prog 143 cB W143:=by
 have key : ∀ (n : Nat) (d : D),SizeOf.sizeOf d ≤ n → Typ Tryz.prog d 143 → ∃ x : Go.Proofs.YtmjebmhcbnkojaaGreat.N.aq,d = cB x:=by
  intro n
  induction n with
  | zero=>intro d hn; cases d <;> simp at hn
  | succ n ih =>
   intro d hn h0
   obtain ⟨ds,rfl,h⟩:=xi S143 h0
   obtain ⟨x0,ds,rfl,_,h⟩:=my (Dec.int T.u3) h
   obtain ⟨x1,ds,rfl,_,h⟩:=my (Dec.int T.u3) h
   obtain ⟨x2,ds,rfl,_,h⟩:=my (Dec.int T.u3) h
   obtain ⟨x3,ds,rfl,_,h⟩:=my D141 h
   obtain ⟨x4,ds,rfl,_,h⟩:=typ_recs (enc:=cB) T.u108 c143 (fun d hd hT=>ih d (by simp at hn; omega) hT) h
   obtain ⟨x5,ds,rfl,_,h⟩:=typ_recs (enc:=cB) T.u108 c143 (fun d hd hT=>ih d (by simp at hn; omega) hT) h
   obtain rfl:=xj h
   exact ⟨⟨x0,x1,x2,x3,x4,x5⟩,by rw [yr]⟩
 exact fun d h=>let ⟨x,e⟩:=key _ d (Nat.le_refl _) h; ⟨x,e,trivial⟩
def W108 : List Go.Proofs.YtmjebmhcbnkojaaGreat.N.aq → Prop:=fun l=>∀ x ∈ l,W143 x
theorem D108 : Dec Tryz.prog 108 (fun (l : List aq)=>D.row 143 8 (l.map cB)) W108:=Dec.slice T.u108 c143 D143
theorem c108 : Tryz.prog.cellsOf 108 = 1:=by kernel_rfl
def W42 : List (List Go.Proofs.YtmjebmhcbnkojaaGreat.N.aq) → Prop:=fun l=>∀ x ∈ l,W108 x
theorem D42 : Dec Tryz.prog 42 (fun (l : List (List aq))=>D.row 108 1 (l.map (fun (l : List aq)=>D.row 143 8 (l.map cB)))) W42:=Dec.slice T.u42 c108 D108
theorem S44 : qJ Tryz.prog 44 = some [23,42]:=by kernel_rfl
def W44 : Go.Proofs.YtmjebmhcbnkojaaGreat.N.aN → Prop:=fun x=>W23 x.Rooms ∧ W42 x.Tasks
theorem D44 : Dec Tryz.prog 44 qz W44:=by
 intro d h0
 obtain ⟨ds,rfl,h⟩:=xi S44 h0
 obtain ⟨x0,ds,rfl,w0,h⟩:=my D23 h
 obtain ⟨x1,ds,rfl,w1,h⟩:=my D42 h
 obtain rfl:=xj h
 exact ⟨⟨x0,x1⟩,rfl,⟨w0,w1⟩⟩
def W139 : List Go.Proofs.YtmjebmhcbnkojaaGreat.N.ax → Prop:=fun l=>∀ x ∈ l,W141 x
theorem D139 : Dec Tryz.prog 139 (fun (l : List ax)=>D.row 141 3 (l.map gS)) W139:=Dec.slice T.u139 c141 D141
theorem own : ownKnob Tryz.prog.godebug = none:=by kernel_rfl
theorem laidOut : laidOutB Tryz.prog = true:=by kernel_rfl
theorem lifted (os : Os) (started : os.Started) (H : Type) (enc : TypeId × Value → H) :
  ReturnsInHanded {} Tryz.checked os 4 .any (Rows.fnExactBuildCodesSpec.pre6 enc Tryz.prog Tryz.f4 Rows.fnExactBuildCodesRow.domain false) (Rows.fnExactBuildCodesSpec.post enc Tryz.prog Tryz.f4 false true false false):=by
 refine returnsInHanded_of_change (C:=Tryz.checked) own started (by kernel_rfl) Tryz.func4
  (ChangeSpec.witness6 (enc:=enc) (C:=Tryz.checked) false ⟨#[],#[.agg #[.slice none 0 0,.slice none 0 0],.int .i64 0],[]⟩ 8 (by kernel_rfl) (by kernel_rfl) (by kernel_rfl) (by kernel_rfl)) ?_
 intro W base args ds gs before hval0 hW hcnd _
 have hval : ∀ (j : Nat) t v,Tryz.f4.params[j]? = some t → args[j]? = some v → Value.okWide Tryz.prog W .any base t v:=hval0
 have hW':=hW
 obtain ⟨p,q,hA0,hV,rfl,hfz,hnd⟩:=hW
 have hA : DataW.TrodAll enc Tryz.prog W 0 (fun _=>true) true Tryz.f4.params.toList args.toList ds p:=hA0
 rw [Tryz.params4] at hA hval
 obtain ⟨v0,vs0,d0,ds0,p0,q0,hargs,rfl,rfl,h0,r0⟩:=trodAll_cons hA
 obtain ⟨v1,vs1,d1,ds1,p1,q1,rfl,rfl,rfl,h1,r1⟩:=trodAll_cons r0
 obtain ⟨rfl,rfl,rfl⟩:=trodAll_nil r1
 obtain rfl : args = #[v0,v1]:=by cases args; simp_all
 obtain ⟨rfl,rfl⟩:=trodVars_none hV
 have k0:=h0
 have lt0 : ∀ x ∈ p0,x.block < W.heap.size:=by obtain ⟨m,hm⟩:=k0; exact DataW.trod_lt m _ _ _ hm
 obtain ⟨fuel,hf⟩:=h0
 obtain ⟨dd,hT,hR0,_⟩:=Bq (ts:=ts) ts_ok (by decide) hf
 obtain ⟨a0,rfl,w0⟩:=D44 dd hT
 obtain ⟨cs0,rfl,_⟩:=okWide_struct Tryz.underlying44 (hval 0 44 v0 rfl rfl)
 obtain ⟨k,hk⟩ : ∃ k,k = cs0.toList:=⟨_,rfl⟩
 have hR : D.rd W (qz a0) (Old No W) k:=hk ▸ hR0
 have hd : ∀ T',D.rd W (qz a0) T' k → D.rds W [.row 3 1 (a0.Rooms.map (D.int .i64)),.row 108 1 (a0.Tasks.map (fun (l : List aq)=>D.row 143 8 (l.map cB)))] T' k:=fun _ h=>h
 clear hR0
 obtain ⟨z1,k,rfl,qz1,hd⟩:=bf hR hd
 obtain ⟨z2,k,rfl,qz2,hd⟩:=bf hR hd
 obtain rfl:=gc hR hd
 obtain rfl : cs0 = #[sv z1,sv z2]:=Array.ext' hk.symm
 have hR0:=hR
 clear hk hd
 have k1:=h1
 have lt1 : ∀ x ∈ p1,x.block < W.heap.size:=by obtain ⟨m,hm⟩:=k1; exact DataW.trod_lt m _ _ _ hm
 obtain ⟨a1,rfl,rfl,rfl,w1⟩:=open_int Tryz.underlying3 (hval 1 3 v1 rfl rfl) h1
 clear hA0 hval0
 refine (Go.Proofs.YtmjebmhcbnkojaaGreat.N.nl (yR a0 a1 (B5 (qz1 _ hR0) (qz2 _ hR0))) (qz1 _ hR0) (qz2 _ hR0)).mono fun e W' ⟨_,he,hS⟩=>?_
 subst he
 have bel:=hS.below
 exact ⟨_,rfl,_,_,_,[],_,_,hW',trodAll_mk1 (shut_bool Tryz.underlying4 _),(trodAll_cons_mk (Below.trod laidOut (by kernel_rfl) (of_decide_eq_true (by kernel_rfl)) k0 bel lt0) (trodAll_cons_mk (Below.trod laidOut (by kernel_rfl) (of_decide_eq_true (by kernel_rfl)) k1 bel lt1) trodAll_mk0)),rfl,bel.frame _,fun h=>by cases h⟩
theorem row_holds : Rows.FnExactBuildCodesSaid:=
 OpenClaim.holds_of_wide 4 Tryz.f4 rfl rfl rfl rfl rfl rfl rfl ⟨rfl,rfl,rfl,rfl,rfl⟩ rfl rfl rfl rfl rfl (by kernel_rfl) Tryz.func4 (by kernel_rfl)
  (of_decide_eq_true (by kernel_rfl)) (by unfold Func.isWrapper; first | (rw [if_pos (by decide +kernel)]; kernel_rfl) | (rw [if_neg (by decide +kernel)]; exact ⟨rfl,rfl⟩))
  (fun os started H enc _=>lifted os started H enc)
end FnExactBuildCodes
theorem fnExactBuildCodes_holds : Rows.FnExactBuildCodesSaid:=FnExactBuildCodes.row_holds
#print axioms fnExactBuildCodes_holds
end Go.Proofs.YtmjebmhcbnkojaaGreat
