/- A state that can be is read as it was written: the law of lists. -/
import Derived.Test.YtlljgefgbglmbaaDAD
set_option linter.unusedSimpArgs false
set_option linter.unusedVariables false
set_option maxRecDepth 100000
set_option maxHeartbeats 1000000
set_option cbv.maxSteps 10000000
namespace Go.Proofs.Ytlljgefgbglmbaa
open Go GoV

theorem eqL_vec:∀ {v w:List Int},v.length=w.length→rEqL (List.replicate v.length .int) (vec v) (vec w)=some (decide (v=w))
 | [],[],_=>rfl
 | [],_::_,h=>by simp at h
 | _::_,[],h=>by simp at h
 | x::r,y::s,h=>by
  have ih:=eqL_vec (v:=r) (w:=s) (by simpa using h)
  simp only[vec] at ih
  simp only[vec,List.length_cons,List.replicate_succ,List.map_cons,rEqL,rEqK,if_true,Option.bind_some,ih,List.cons.injEq]
  by_cases e:x=y<;>by_cases f:r=s<;>simp[e,f]
theorem vec_plain (v:List Int):(vec v).all plainI=true:=by
 simp[vec,plainI]
theorem flat_vec {v:List Int} (h:v.length=64):flatI [.arr 64 (vec v)]=some (vec v):=by
 have hl:(vec v).length=64:=by simpa [vec] using h
 rw[flatI,if_pos ⟨hl,vec_plain v⟩]
 simp[flatI]
theorem eqv_vec {v w:List Int} (h:v.length=64) (h':w.length=64):real .eqv [.int,.int,.int,.int,.int,.int,.int,.int,.int,.int,.int,.int,.int,.int,.int,.int,.int,.int,.int,.int,.int,.int,.int,.int,.int,.int,.int,.int,.int,.int,.int,.int,.int,.int,.int,.int,.int,.int,.int,.int,.int,.int,.int,.int,.int,.int,.int,.int,.int,.int,.int,.int,.int,.int,.int,.int,.int,.int,.int,.int,.int,.int,.int,.int] [.arr 64 (vec v)] [.arr 64 (vec w)]=some (decide (v=w)):=by
 show rEqv _ _ _=_
 rw[rEqv,flat_vec h,flat_vec h']
 simp only[Option.bind_some]
 have:=eqL_vec (v:=v) (w:=w) (by omega)
 rw[h] at this
 exact this
theorem bq_refl (s:ByteArray):(s==s)=true:=by
 rcases s with ⟨a⟩;show (a==a)=true;simp
/-! ### Shapes -/
def byteSh:Sh:=.sl (.int .u8) 1
theorem ty_bytes {xs:List IV} (h:TyI byteSh xs):∃ W:List Nat,xs=[.sl false 1 (by8 W)]∧W.length≤140737488351232∧∀ b,b∈W→b<256:=by
 obtain⟨es,rfl,hl,he⟩:=h
 have:∃ W:List Nat,es=by8 W∧∀ b,b∈W→b<256:=by
  clear hl
  induction es with
  | nil=>exact⟨[],rfl,fun b hb=>by simp at hb⟩
  | cons y r ih =>
   obtain⟨W,rfl,h8⟩:=ih fun z hz=>he z (by simp[hz])
   obtain⟨n,hn,hw⟩:=he y (by simp)
   have h2:0≤n∧n<256:=by
    simp[Lit.wf,IntKind.min,IntKind.max,IntKind.signed,IntKind.bits] at hw
    omega
   refine⟨n.toNat::W,?_,fun b hb=>?_⟩
   ·rw[hn]
    simp only[by8,List.map_cons,Int.toNat_of_nonneg h2.1]
   ·rcases List.mem_cons.1 hb with rfl|h
    ·omega
    ·exact h8 b h
 obtain⟨W,rfl,h8⟩:=this
 rw[by8_len] at hl
 exact⟨W,rfl,by unfold reachBytes at hl;omega,h8⟩
end Go.Proofs.Ytlljgefgbglmbaa
