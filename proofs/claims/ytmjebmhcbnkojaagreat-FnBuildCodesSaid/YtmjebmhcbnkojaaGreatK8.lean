/- What a row says of its arguments, in the program logic's words: data types in general. -/
import Derived.Test.YtmjebmhcbnkojaaGreatK7
import Derived.RowKit
import Derived.ChangeSlices
import Derived.ChangeArms
import Derived.WideShapes
set_option linter.unusedVariables false
set_option linter.unusedSimpArgs false
set_option maxRecDepth 100000
set_option maxHeartbeats 4000000
namespace Go.Proofs.YtmjebmhcbnkojaaGreat.X
noncomputable section
variable {P:Program} {w:World} {T:Nat->Prop} {t e:TypeId} {size:Nat} {k:IntKind} {α:Type} {enc:α->D} {H:Type} {en:TypeId×Value->H} {base:Nat} {spare:Nat->Bool} {held:Bool}
def xC (P:Program) (t:TypeId):Option (List TypeId):=match P.underlying t with
 | some (.struct fs)=>some (fs.toList.map (·.type))
 | _=>none
mutual
def Typ (P:Program):D->TypeId->Prop
 | .int k n,t=>P.underlying t=some (.int k)/\(Lit.int k n).wf=true
 | .bool _,t=>P.underlying t=some .bool
 | .str s,t=>P.underlying t=some .string/\s.size<=maxLen
 | .row e size xs,t=>P.underlying t=some (.slice e)/\size=P.cellsOf e/\uY P xs e
 | .agg xs,t=>∃ ts,xC P t=some ts/\Ae P xs ts
def uY (P:Program):List D->TypeId->Prop
 | [],_=>True
 | x::xs,e=>Typ P x e/\uY P xs e
def Ae (P:Program):List D->List TypeId->Prop
 | [],[]=>True
 | x::xs,t::ts=>Typ P x t/\Ae P xs ts
 | _,_=>False
end
def tS (P:Program):List Field->Nat->Option Nat
 | [],k=>some k
 | f::r,k=>match Nat.beq f.offset k with
  | true=>tS P r (k+P.cellsOf f.type)
  | false=>none
def okT (P:Program) (ts:List TypeId) (t:TypeId):Bool:=match P.underlying t with
 | some (.int _) | some .bool | some .string=>Nat.beq (P.cellsOf t) 1
 | some (.slice e)=>Nat.beq (P.cellsOf t) 1&&ts.contains e&&!(Nat.beq (P.cellsOf e) 0)
 | some (.struct fs)=>(match tS P fs.toList 0 with
  | some n=>Nat.beq n (P.cellsOf t)
  | none=>false)&&fs.toList.all (λf=>ts.contains f.type)
 | _=>false
theorem D.rd_length:∀ {d:D} {cs:List Value},D.rd w d T cs->cs.length=d.sz
 | .int _ _,_,h=>by simp only [D.rd] at h; subst h; rfl
 | .bool _,_,h=>by simp only [D.rd] at h; subst h; rfl
 | .str _,_,h=>by simp only [D.rd] at h; subst h; rfl
 | .row _ _ _,_,⟨A,cap,c,h1,_⟩=>by subst h1; rfl
 | .agg xs,_,h=>by simp only [D.sz]; exact m9 (xs:=xs) h
theorem uY.append:∀ {xs ys:List D},uY P xs e->uY P ys e->uY P (xs++ys) e
 | [],_,_,h=>h
 | x::xs,_,⟨h1,h2⟩,h=>⟨h1,uY.append h2 h⟩
theorem vN {a:Addr} {v:Value} (h:w.cell? a=some v):Old No w a.block:=⟨World.block_lt_of_cell? w a h,id⟩
theorem yI {ts:List TypeId} (hts:ts.all (okT P ts)=true):∀ {fuel:Nat} {t:TypeId} {cs:List Value} {x:DataW H×List MemPlace},t∈ts->DataW.trod en P w base spare held fuel t cs=some x->∃ d,Typ P d t/\D.rd w d (Old No w) cs/\d.sz=P.cellsOf t:=by
 intro fuel
 induction fuel with
 | zero=>intro t cs x _ h; simp [DataW.trod] at h
 | succ fuel ih =>
  intro t cs x ht h
  have hok:=List.all_eq_true.1 hts t ht
  unfold okT at hok
  split at hok
  ·rename_i k hu
   obtain ⟨n,rfl,_,hw⟩:=DataW.trod_int hu h
   exact ⟨.int k n,⟨hu,hw⟩,rfl,(Nat.eq_of_beq_eq_true hok).symm⟩
  ·rename_i hu
   obtain ⟨b,rfl,_⟩:=DataW.trod_bool hu h
   exact ⟨.bool b,hu,rfl,(Nat.eq_of_beq_eq_true hok).symm⟩
  ·rename_i hu
   obtain ⟨s,rfl,_,hs⟩:=DataW.trod_string hu h
   exact ⟨.str s,⟨hu,hs⟩,rfl,(Nat.eq_of_beq_eq_true hok).symm⟩
  ·rename_i e hu
   simp only [Bool.and_eq_true,Bool.not_eq_true'] at hok
   obtain ⟨⟨h1,h2⟩,h3⟩:=hok
   have he:e∈ts:=by simpa using h2
   have h0:P.cellsOf e≠0:=by intro h0; rw [h0] at h3; cases h3
   have hc1:=(Nat.eq_of_beq_eq_true h1).symm
   rcases DataW.trod_slice hu h with ⟨rfl,_⟩ | ⟨a,len,cap,elems,rest,n,hn,rfl,_,hb,hl,hm,hlen,hel,_,_⟩
   ·exact ⟨.row e (P.cellsOf e) [],⟨hu,rfl,trivial⟩,⟨none,0,[],rfl,Nat.le_refl _,Nat.zero_le _,by simp,λh=>absurd rfl h,rfl⟩,hc1⟩
   ·obtain rfl:fuel=n:=by omega
    have key:∀ m,m<=len->∃ ds c,ds.length=m/\uY P ds e/\(∀ x∈ds,x.sz=P.cellsOf e)/\D.rds w ds (Old No w) c/\c.length=m*P.cellsOf e/\∀ j u,c[j]?=some u->w.cell? (a.add j)=some u:=by
     intro m
     induction m with
     | zero=>intro _; exact ⟨[],[],rfl,trivial,by simp,rfl,by simp,by simp⟩
     | succ m ihm =>
      intro hle
      obtain ⟨ds,c,k1,k2,k3,k4,k5,k6⟩:=ihm (by omega)
      have hi:=hel m (by omega)
      have hs:∃ y,elems[m]?=some y:=⟨_,List.getElem?_eq_getElem (by omega)⟩
      obtain ⟨y,hy⟩:=hs
      rw [hy,Option.bind_eq_some_iff] at hi
      obtain ⟨ci,hci,hyi⟩:=hi
      obtain ⟨d,g1,g2,g3⟩:=ih he hyi
      obtain ⟨_,q2,q3⟩:=World.cells?_some hci
      refine ⟨ds++[d],c++ci,by simp [k1],k2.append ⟨g1,trivial⟩,λx hx=>?_,sE k4 ⟨ci,[],by simp,D.rd_length g2,g2,rfl⟩,by rw [List.length_append,k5,q2,Nat.add_mul]; omega,λj u hj=>?_⟩
      ·rcases List.mem_append.1 hx with hx | hx
       ·exact k3 x hx
       ·rw [List.mem_singleton.1 hx]; exact g3
      ·rcases Nat.lt_or_ge j c.length with hj' | hj'
       ·rw [List.getElem?_append_left hj'] at hj; exact k6 j u hj
       ·rw [List.getElem?_append_right hj'] at hj
        have hlt:j-c.length<P.cellsOf e:=by
         rcases Nat.lt_or_ge (j-c.length) ci.length with h | h
         ·omega
         ·rw [List.getElem?_eq_none h] at hj; cases hj
        have:=q3 _ hlt
        rw [hj,Addr.add_add,<-k5] at this
        rw [show c.length+(j-c.length)=j by omega] at this
        exact this
    obtain ⟨ds,c,k1,k2,k3,k4,k5,k6⟩:=key len (Nat.le_refl _)
    refine ⟨.row e (P.cellsOf e) ds,⟨hu,rfl,k2⟩,⟨some a,cap,c,by rw [k1],by omega,by omega,k3,λhne=>⟨a,rfl,?_,k6⟩,k4⟩,hc1⟩
    have hpos:0<c.length:=by
     rw [k5,<-k1]
     exact Nat.mul_pos (List.length_pos_iff.2 hne) (by omega)
    have h6:=k6 0 _ (List.getElem?_eq_getElem hpos)
    simp only [Addr.add,if_true] at h6
    exact vN h6
  ·rename_i fs hu
   simp only [Bool.and_eq_true] at hok
   obtain ⟨h1,h2⟩:=hok
   split at h1
   ·rename_i tot hcg
    obtain rfl:=Nat.eq_of_beq_eq_true h1
    obtain ⟨xs,n,hn,_,hlen,hxl,hf⟩:=DataW.trod_struct hu h
    obtain rfl:fuel=n:=by omega
    have key:∀ (gs:List Field) (o:Nat),(∀ f∈gs,f.type∈ts/\∃ y,DataW.trod en P w base spare held fuel f.type ((cs.drop f.offset).take (P.cellsOf f.type))=some y)->tS P gs o=some (P.cellsOf t) ->
      ∃ ds,Ae P ds (gs.map (·.type))/\D.rds w ds (Old No w) (cs.drop o)/\o+D.szs ds=P.cellsOf t:=by
     intro gs
     induction gs with
     | nil =>
      intro o _ hc
      simp only [tS,Option.some.injEq] at hc
      subst hc
      exact ⟨[],trivial,by rw [<-hlen,List.drop_length]; rfl,rfl⟩
     | cons f gs ihg =>
      intro o hall hc
      simp only [tS] at hc
      split at hc
      ·rename_i ho
       have ho':=Nat.eq_of_beq_eq_true ho
       obtain ⟨hft,y,hy⟩:=hall f (by simp)
       obtain ⟨d,g1,g2,g3⟩:=ih hft hy
       obtain ⟨ds,q1,q2,q3⟩:=ihg _ (λg hg=>hall g (by simp [hg])) hc
       rw [ho'] at g2
       refine ⟨d::ds,⟨g1,q1⟩,⟨_,_,?_,D.rd_length g2,g2,q2⟩,?_⟩
       ·rw [<-List.drop_drop,List.take_append_drop]
       ·simp only [D.szs,g3]; omega
      ·cases hc
    obtain ⟨ds,q1,q2,q3⟩:=key fs.toList 0 (λf hf'=>⟨by have:=List.all_eq_true.1 h2 f hf'; simpa using this,by
      obtain ⟨i,hi⟩:=List.getElem?_of_mem hf'
      have hi':fs[i]?=some f:=by simpa using hi
      have hlt:i<xs.length:=by
       have:=(List.getElem?_eq_some_iff.1 hi).1
       rw [hxl]
       simpa using this
      exact ⟨_,(hf i f hi').trans (List.getElem?_eq_getElem hlt)⟩⟩) hcg
    exact ⟨.agg ds,⟨_,by simp only [xC,hu],q1⟩,q2,by simp only [D.sz]; omega⟩
   ·cases h1
  ·cases hok
def Dec (P:Program) (t:TypeId) (enc:α->D) (Wf:α->Prop):Prop:=∀ d,Typ P d t->∃ x,d=enc x/\Wf x
theorem Dec.int (hu:P.underlying t=some (.int k)):Dec P t (D.int k) (λn=>(Lit.int k n).wf=true):=by
 intro d h
 cases d with
 | int k' n =>
  obtain ⟨h1,h2⟩:=h
  rw [hu] at h1
  injection h1 with h1
  injection h1 with h1
  subst h1
  exact ⟨n,rfl,h2⟩
 | bool b=>rw [show P.underlying t=some .bool from h] at hu; cases hu
 | str s=>rw [show P.underlying t=some .string from h.1] at hu; cases hu
 | row e s xs=>rw [h.1] at hu; cases hu
 | agg xs=>obtain ⟨ts,h1,_⟩:=h; simp [xC,hu] at h1
theorem Dec.bool (hu:P.underlying t=some .bool):Dec P t D.bool (λ_=>True):=by
 intro d h
 cases d with
 | bool b=>exact ⟨b,rfl,trivial⟩
 | int k' n=>rw [h.1] at hu; cases hu
 | str s=>rw [show P.underlying t=some .string from h.1] at hu; cases hu
 | row e s xs=>rw [h.1] at hu; cases hu
 | agg xs=>obtain ⟨ts,h1,_⟩:=h; simp [xC,hu] at h1
theorem Dec.str (hu:P.underlying t=some .string):Dec P t D.str (λs=>s.size<=maxLen):=by
 intro d h
 cases d with
 | str s=>exact ⟨s,rfl,h.2⟩
 | bool b=>rw [show P.underlying t=some .bool from h] at hu; cases hu
 | int k' n=>rw [h.1] at hu; cases hu
 | row e s xs=>rw [h.1] at hu; cases hu
 | agg xs=>obtain ⟨ts,h1,_⟩:=h; simp [xC,hu] at h1
theorem Dec.list {Wf:α->Prop} (h:Dec P e enc Wf):∀ {xs:List D},uY P xs e->∃ l:List α,xs=l.map enc/\∀ x∈l,Wf x
 | [],_=>⟨[],rfl,by simp⟩
 | d::xs,⟨h1,h2⟩=>by
  obtain ⟨x,rfl,hx⟩:=h d h1
  obtain ⟨l,rfl,hl⟩:=Dec.list h h2
  exact ⟨x::l,rfl,λy hy=>(List.mem_cons.1 hy).elim (λe=>e▸hx) (hl y)⟩
theorem Dec.slice {Wf:α->Prop} (hu:P.underlying t=some (.slice e)) (hc:P.cellsOf e=size) (h:Dec P e enc Wf):Dec P t (λ(l:List α)=>D.row e size (l.map enc)) (λl=>∀ x∈l,Wf x):=by
 intro d hd
 cases d with
 | row e' s xs =>
  obtain ⟨h1,h2,h3⟩:=hd
  rw [hu] at h1
  injection h1 with h1
  injection h1 with h1
  subst h1
  obtain ⟨l,rfl,hl⟩:=h.list h3
  exact ⟨l,by rw [h2,hc],hl⟩
 | bool b=>rw [show P.underlying t=some .bool from hd] at hu; cases hu
 | int k' n=>rw [hd.1] at hu; cases hu
 | str s=>rw [show P.underlying t=some .string from hd.1] at hu; cases hu
 | agg xs=>obtain ⟨ts,h1,_⟩:=hd; simp [xC,hu] at h1
end

end Go.Proofs.YtmjebmhcbnkojaaGreat.X
