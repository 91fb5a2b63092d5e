/- Contexts as one: gone through. -/
import Derived.Test.YtomchclmnmhjaaaDUB
set_option linter.unusedSimpArgs false
set_option linter.unusedVariables false
set_option maxRecDepth 100000
set_option maxHeartbeats 1000000
set_option cbv.maxSteps 10000000
namespace Go.Proofs.Ytomchclmnmhjaaa
open Go GoV

theorem tid_len {v : List Int} (hv : v.length = 64) (l : List Dt) : (tid v l).1.length = 64 ∧ (tid v l).2.length ≤ l.length := by
  rw [tid_ref hv l]
  refine ⟨itR_len (clampV_len hv) _, ?_⟩
  have := foldC_len (refU v l) l []
  simp only [List.length_nil] at this
  show (refC v l).length ≤ _
  unfold refC; omega
theorem segE {A : Ar} (hA : A = real) (q : List Dt) : A .seg (eDs q) 0 q.length = eDs q := by
  rw [hA, real_seg]; unfold rSeg; rw [List.drop_zero, List.take_of_length_le (by simp [eDs])]
def un (va : List Int) (la : List Dt) (vb : List Int) (lb : List Dt) : List Int × List Dt := tid (mxV (tid va la).1 (tid vb lb).1) ((tid va la).2 ++ (tid vb lb).2)
theorem un_len {va vb : List Int} (ha : va.length = 64) (hb : vb.length = 64) (la lb : List Dt) : (un va la vb lb).1.length = 64 ∧ (un va la vb lb).2.length ≤ la.length + lb.length := by
  have h1 := tid_len ha la
  have h2 := tid_len hb lb
  have h3 := tid_len (mxV_len h1.1 h2.1) ((tid va la).2 ++ (tid vb lb).2)
  rw [List.length_append] at h3
  exact ⟨h3.1, by unfold un; omega⟩
theorem h41 {va vb : List Int} (ha : va.length = 64) (hb : vb.length = 64) (la lb : List Dt) (t t2 : Bool) (h1 : la.length ≤ 400) (h2 : lb.length ≤ 400) :
    Qn 3310 41 [ctxF t va la, ctxF t2 vb lb] [] (.agg [.iv (.arr 64 (vec (un va la vb lb).1)), .slo 0 0 (un va la vb lb).2.length]) [.arr false false 2 (eDs (un va la vb lb).2)] := by
  refine playQ 3309 rfl rfl fun A call hA hcall => ?_
  obtain ⟨pl, mi, ml, nt, tn, ad, sb, K⟩ := kit hA
  obtain ⟨E, ix, sn, ll, cc, sg, D⟩ := lkit hA K ((0, 0) : Int × Int) (fun p => [.int .i64 p.1, .int .i64 p.2]) 16
  obtain ⟨W, gx, st', V⟩ := rkit hA
  have ta := tid_len ha la
  have tb := tid_len hb lb
  have ka := h34 ha la t (by omega) 3309 (by omega)
  have kb := h34 hb lb t2 (by omega) 3309 (by omega)
  have k26 := h26 ta.1 tb.1 3309 (by omega)
  have k87 := fun x y => h87 (tid va la).2 (tid vb lb).2 x y (by omega) (by omega) 3309 (by omega)
  have ku := fun x => h34 (mxV_len ta.1 tb.1) ((tid va la).2 ++ (tid vb lb).2) x (by rw [List.length_append]; omega) 3309 (by omega)
  have sa := segE hA (tid va la).2
  have sb' := segE hA (tid vb lb).2
  have sc := segE hA ((tid va la).2 ++ (tid vb lb).2)
  rw [← hcall] at ka kb k26
  simp only [← hcall] at k87 ku
  unfold un
  dsimp only [ctxF, vecF] at *
  generalize hu : tid (mxV (tid va la).1 (tid vb lb).1) ((tid va la).2 ++ (tid vb lb).2) = u at *
  clear hu
  generalize eDs u.2 = ue at *
  generalize u.2.length = un at *
  generalize vec u.1 = uv at *
  generalize eDs ((tid va la).2 ++ (tid vb lb).2) = ce at *
  generalize ((tid va la).2 ++ (tid vb lb).2).length = cn at *
  generalize vec (mxV (tid va la).1 (tid vb lb).1) = mv at *
  generalize eDs (tid va la).2 = ae at *
  generalize eDs (tid vb lb).2 = be at *
  generalize (tid va la).2.length = an at *
  generalize (tid vb lb).2.length = bn at *
  generalize vec (tid va la).1 = av at *
  generalize vec (tid vb lb).1 = bv at *
  generalize vec va = vva at *
  generalize vec vb = vvb at *
  generalize eDs la = ela at *
  generalize eDs lb = elb at *
  apply wpV_seq; refine wpV_ofH (by ((try (conv => lhs; cbv)); (exact rfl))) ?_
  apply wpV_seq; refine wpV_ofH (by ((try (conv => lhs; cbv)); (repeat ((first | (rewrite [ka]) | (rewrite [kb])); (try (conv => lhs; cbv)))); (exact rfl))) ?_
  apply wpV_seq; refine wpV_ofH (by ((try (conv => lhs; cbv)); (repeat ((first | (rewrite [k26]) | (rewrite [sa]) | (rewrite [sb']) | (rewrite [k87]) | (rewrite [sc]) | (rewrite [ku])); (try (conv => lhs; cbv)))); (exact rfl))) ?_
  refine wpV_ofH (by ((try (conv => lhs; cbv)); (exact rfl))) ?_
  (show finV _ _ _ = some _; ((try (conv => lhs; cbv)); (try (with_reducible rfl))); (try rfl))
theorem h42 {va : List Int} (ha : va.length = 64) (la k : List Dt) (t t2 : Bool) (h1 : la.length ≤ 400) (h2 : k.length ≤ 400) :
    Qn 3310 42 [ctxF t va la, .one (.iv (.sl t2 2 (eDs k)))] [] (.agg [.iv (.arr 64 (vec (tid va (la ++ k)).1)), .slo 0 0 (tid va (la ++ k)).2.length]) [.arr false false 2 (eDs (tid va (la ++ k)).2)] := by
  refine playQ 3309 rfl rfl fun A call hA hcall => ?_
  obtain ⟨pl, mi, ml, nt, tn, ad, sb, K⟩ := kit hA
  obtain ⟨E, ix, sn, ll, cc, sg, D⟩ := lkit hA K ((0, 0) : Int × Int) (fun p => [.int .i64 p.1, .int .i64 p.2]) 16
  obtain ⟨W, gx, st', V⟩ := rkit hA
  have k87 := h87 la k t t2 (by omega) (by omega) 3309 (by omega)
  have ku := fun x => h34 ha (la ++ k) x (by rw [List.length_append]; omega) 3309 (by omega)
  have sc := segE hA (la ++ k)
  rw [← hcall] at k87
  simp only [← hcall] at ku
  dsimp only [ctxF, vecF] at *
  generalize tid va (la ++ k) = u at *
  generalize eDs u.2 = ue at *
  generalize u.2.length = un at *
  generalize vec u.1 = uv at *
  generalize eDs (la ++ k) = ce at *
  generalize (la ++ k).length = cn at *
  generalize vec va = vva at *
  generalize eDs la = ela at *
  generalize eDs k = ek at *
  apply wpV_seq; refine wpV_ofH (by ((try (conv => lhs; cbv)); (exact rfl))) ?_
  apply wpV_seq; refine wpV_ofH (by ((try (conv => lhs; cbv)); (repeat ((first | (rewrite [k87]) | (rewrite [sc]) | (rewrite [ku])); (try (conv => lhs; cbv)))); (exact rfl))) ?_
  refine wpV_ofH (by ((try (conv => lhs; cbv)); (exact rfl))) ?_
  (show finV _ _ _ = some _; ((try (conv => lhs; cbv)); (try (with_reducible rfl))); (try rfl))
def inB (va : List Int) (la : List Dt) (vb : List Int) (lb : List Dt) : Bool := decide ((un (tid va la).1 (tid va la).2 (tid vb lb).1 (tid vb lb).2).1 = (tid vb lb).1) && decide ((un (tid va la).1 (tid va la).2 (tid vb lb).1 (tid vb lb).2).2 = (tid vb lb).2)
theorem h43 {va vb : List Int} (ha : va.length = 64) (hb : vb.length = 64) (la lb : List Dt) (t t2 : Bool) (h1 : la.length ≤ 400) (h2 : lb.length ≤ 400) :
    Qn 3320 43 [ctxF t va la, ctxF t2 vb lb] [] (bl (inB va la vb lb)) [] := by
  refine playQ 3319 rfl rfl fun A call hA hcall => ?_
  obtain ⟨pl, mi, ml, nt, tn, ad, sb, K⟩ := kit hA
  obtain ⟨E, ix, sn, ll, cc, sg, D⟩ := lkit hA K ((0, 0) : Int × Int) (fun p => [.int .i64 p.1, .int .i64 p.2]) 16
  obtain ⟨W, gx, st', V⟩ := rkit hA
  have ta := tid_len ha la
  have tb := tid_len hb lb
  have tu := un_len ta.1 tb.1 (tid va la).2 (tid vb lb).2
  have ka := h34 ha la t (by omega) 3319 (by omega)
  have kb := h34 hb lb t2 (by omega) 3319 (by omega)
  have ku := fun x y => h41 ta.1 tb.1 (tid va la).2 (tid vb lb).2 x y (by omega) (by omega) 3319 (by omega)
  have k88 := fun x y => h88 (un (tid va la).1 (tid va la).2 (tid vb lb).1 (tid vb lb).2).2 (tid vb lb).2 x y (by omega) (by omega) 3319 (by omega)
  have eq := eqvVec tu.1 tb.1
  have sa := segE hA (tid va la).2
  have sb' := segE hA (tid vb lb).2
  have su := segE hA (un (tid va la).1 (tid va la).2 (tid vb lb).1 (tid vb lb).2).2
  rw [← hcall] at ka kb
  rw [← hA] at eq
  simp only [← hcall] at k88 ku
  unfold inB
  dsimp only [ctxF, vecF] at *
  generalize un (tid va la).1 (tid va la).2 (tid vb lb).1 (tid vb lb).2 = u at *
  generalize decide (u.1 = (tid vb lb).1) = d1 at *
  generalize decide (u.2 = (tid vb lb).2) = d2 at *
  generalize eDs u.2 = ue at *
  generalize u.2.length = un at *
  generalize vec u.1 = uv at *
  generalize eDs (tid va la).2 = ae at *
  generalize eDs (tid vb lb).2 = be at *
  generalize (tid va la).2.length = an at *
  generalize (tid vb lb).2.length = bn at *
  generalize vec (tid va la).1 = av at *
  generalize vec (tid vb lb).1 = bv at *
  generalize vec va = vva at *
  generalize vec vb = vvb at *
  generalize eDs la = ela at *
  generalize eDs lb = elb at *
  apply wpV_seq; refine wpV_ofH (by ((try (conv => lhs; cbv)); (exact rfl))) ?_
  apply wpV_seq; refine wpV_ofH (by ((try (conv => lhs; cbv)); (repeat ((first | (rewrite [ka]) | (rewrite [kb])); (try (conv => lhs; cbv)))); (exact rfl))) ?_
  apply wpV_seq; refine wpV_ofH (by ((try (conv => lhs; cbv)); (repeat ((first | (rewrite [sa]) | (rewrite [sb']) | (rewrite [ku])); (try (conv => lhs; cbv)))); (exact rfl))) ?_
  cases d1 with
  | true =>
    cases d2 with
    | true => refine wpV_ofH (by ((try (conv => lhs; cbv)); (repeat ((first | (rewrite [eq]) | (rewrite [su]) | (rewrite [sb']) | (rewrite [k88])); (try (conv => lhs; cbv)))); (exact rfl))) ?_; (show finV _ _ _ = some _; ((try (conv => lhs; cbv)); (try (with_reducible rfl))); (try rfl))
    | false => refine wpV_ofH (by ((try (conv => lhs; cbv)); (repeat ((first | (rewrite [eq]) | (rewrite [su]) | (rewrite [sb']) | (rewrite [k88])); (try (conv => lhs; cbv)))); (exact rfl))) ?_; (show finV _ _ _ = some _; ((try (conv => lhs; cbv)); (try (with_reducible rfl))); (try rfl))
  | false => refine wpV_ofH (by ((try (conv => lhs; cbv)); (repeat ((first | (rewrite [eq])); (try (conv => lhs; cbv)))); (exact rfl))) ?_; (show finV _ _ _ = some _; ((try (conv => lhs; cbv)); (try (with_reducible rfl))); (try rfl))
theorem h40 {va vb : List Int} (ha : va.length = 64) (hb : vb.length = 64) (la lb : List Dt) (t t2 : Bool) (h1 : la.length ≤ 400) (h2 : lb.length ≤ 400) :
    Qn 2310 40 [ctxF t va la, ctxF t2 vb lb] [] (.agg [.iv (.arr 64 (vec (mxV (refU va la) (refU vb lb)))), .slo 0 0 (la ++ lb).length]) [.arr false false 2 (eDs (la ++ lb))] := by
  refine playQ 2309 rfl rfl fun A call hA hcall => ?_
  obtain ⟨pl, mi, ml, nt, tn, ad, sb, K⟩ := kit hA
  obtain ⟨E, ix, sn, ll, cc, sg, D⟩ := lkit hA K ((0, 0) : Int × Int) (fun p => [.int .i64 p.1, .int .i64 p.2]) 16
  obtain ⟨W, gx, st', V⟩ := rkit hA
  have hEl : ∀ x : List Dt, (eDs x).length = x.length := fun x => by simp [eDs]
  have ul : (refU va la).length = 64 := itR_len (clampV_len ha) _
  have ul2 : (refU vb lb).length = 64 := itR_len (clampV_len hb) _
  have ka := h35 ha la t (by omega) 2309 (by omega)
  have kb := h35 hb lb t2 (by omega) 2309 (by omega)
  have k29 := h29 ul ul2 2309 (by omega)
  have a1 : A .apo 16 0 0 [] (eDs la) = some (true, eDs la) := by
    rw [hA, real_apo]; unfold rApo room
    rw [if_pos (by simp), if_pos ⟨by rw [hEl]; omega, .inl rfl⟩]; simp
  have a2 : A .apo 16 0 la.length (eDs la) (eDs lb) = some (true, eDs (la ++ lb)) := by
    rw [hA, real_apo]; unfold rApo room
    rw [if_pos (by rw [hEl]; omega), if_pos ⟨by rw [hEl]; omega, .inl rfl⟩]
    simp [eDs]
  have l1 : A .ln (eDs la) = la.length := by rw [hA, real_ln, hEl]
  have l2 : A .ln (eDs (la ++ lb)) = (la ++ lb).length := by rw [hA, real_ln, hEl]
  rw [← hcall] at ka kb k29
  dsimp only [ctxF, vecF] at *
  generalize eDs (la ++ lb) = ce at *
  generalize (la ++ lb).length = cn at *
  generalize vec (mxV (refU va la) (refU vb lb)) = mv at *
  generalize eDs (refC va la) = ae at *
  generalize eDs (refC vb lb) = be at *
  generalize (refC va la).length = an at *
  generalize (refC vb lb).length = bn at *
  generalize vec (refU va la) = av at *
  generalize vec (refU vb lb) = bv at *
  generalize vec va = vva at *
  generalize vec vb = vvb at *
  generalize eDs la = ela at *
  generalize eDs lb = elb at *
  generalize la.length = lan at *
  apply wpV_seq; refine wpV_ofH (by ((try (conv => lhs; cbv)); (exact rfl))) ?_
  apply wpV_seq; refine wpV_ofH (by ((try (conv => lhs; cbv)); (exact rfl))) ?_
  apply wpV_seq; refine wpV_ofH (by ((try (conv => lhs; cbv)); (repeat ((first | (rewrite [a1]) | (rewrite [l1])); (try (conv => lhs; cbv)))); (exact rfl))) ?_
  apply wpV_seq; refine wpV_ofH (by ((try (conv => lhs; cbv)); (repeat ((first | (rewrite [a2]) | (rewrite [l2])); (try (conv => lhs; cbv)))); (exact rfl))) ?_
  apply wpV_seq; refine wpV_ofH (by ((try (conv => lhs; cbv)); (repeat ((first | (rewrite [ka]) | (rewrite [kb]) | (rewrite [k29])); (try (conv => lhs; cbv)))); (exact rfl))) ?_
  refine wpV_ofH (by ((try (conv => lhs; cbv)); (exact rfl))) ?_
  (show finV _ _ _ = some _; ((try (conv => lhs; cbv)); (try (with_reducible rfl))); (try rfl))
end Go.Proofs.Ytomchclmnmhjaaa
