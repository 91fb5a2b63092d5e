/- The statement's own code. -/
import Derived.Test.YtomchclmnmhjaaaPKE
set_option linter.unusedSimpArgs false
set_option linter.unusedVariables false
set_option maxRecDepth 100000
set_option maxHeartbeats 1000000
namespace Go.Proofs.Ytomchclmnmhjaaa
open Go GoV

def N11 (es ot oc : List (List IV)) (X V XT XC : List IV) (num op len i : Int) (nt nc : Nat) : St := ⟨0, [u, i64 num, u, .one (.ptr 0 0), u, .one (.ptr 1 0), u, .one (.ptr 2 0), .one (.ptr 3 0), i64 op, u, u, u, u, u, u, u, u, u, u, u, u, u, u, u, .one (.iv (.sl false 8 es)), i64 len, i64 i,
    u, u, u, u, u, u, u, u, u, u, u, u, u, u, u, u, u, u, u, u, u, u, u, u, u, u, u, u, u, u, u, u, u, u, u, u, u, u, u, u, u, u, u, u, u, u, u, u, u, u, u, u, u, u, u],
  [.var false [.iv (.sl false 8 es), .iv (.arr 64 X)], .var false [.iv (.arr 64 V)], .var false [.slo 4 0 nt, .iv (.arr 64 XT)], .var false [.slo 5 0 nc, .iv (.arr 64 XC)], .arr false false 8 ot, .arr false false 8 oc]⟩
theorem w11 (A : Ar) (call : CallT) (n m : Nat) (hn : m < n) (es ot oc : List (List IV)) (X V XT XC : List IV) (num dt dp dc : Int) (nt nc : Nat) (few : Bool) (ev : Nat → Ev) (op ix : Nat → Int) (hi0 : ix 0 = 0) (ho0 : op 0 = 0)
    (k53 : call 53 [.one (.iv (.sl true 1 [[.sl false 8 es]]))] [] = some (bl few, [])) (k54 : call 54 [] [] = some (bl true, []))
    (k55 : call 55 [pastF false es X, i64 num] [] = some (.agg [.slo 0 0 nt, .iv (.arr 64 XT)], [.arr false false 8 ot])) (k56 : call 56 [pastF false es X, .agg [.iv (.arr 64 V)]] [] = some (.agg [.slo 0 0 nc, .iv (.arr 64 XC)], [.arr false false 8 oc]))
    (h1 : ∀ i, i < m → A .cmp .lss (ix i) (A .len es) = true) (h1' : A .cmp .lss (ix m) (A .len es) = false) (h2 : ∀ i, i < m → A .get es (ix i) = some (encEv (ev i))) (h3 : ∀ i, i < m → A .ar .add .i64 (ix i) 1 = ix (i + 1))
    (h4 : ∀ i, i < m → (A .cmp .eql (ev i).k 2 = false ∧ op i = op (i + 1)) ∨ (A .cmp .eql (ev i).k 2 = true ∧ call 22 [.agg [.iv (.arr 64 V)], dotF (ev i).r (ev i).n] [] = some (bl true, []) ∧ op i = op (i + 1)) ∨
      (A .cmp .eql (ev i).k 2 = true ∧ call 22 [.agg [.iv (.arr 64 V)], dotF (ev i).r (ev i).n] [] = some (bl false, []) ∧ A .ar .add .i64 (op i) 1 = op (i + 1)))
    (d1 : call 57 [pastF (A .isE ot) (A .seg ot 0 nt) XT] [] = some (i64 dt, [])) (d2 : call 57 [pastF false es X] [] = some (i64 dp, [])) (d3 : call 57 [pastF (A .isE oc) (A .seg oc 0 nc) XC] [] = some (i64 dc, []))
    (c1 : A .cmp .eql dt dp = true) (c2 : A .cmp .eql dc (op m) = true) (c3 : A .cmp .leq (A .ar .sub .i64 (A .ofN nt) dt) (A .mx num 0) = true)
    (w1 : call 31 [.agg [.iv (.arr 64 X)], .agg [.iv (.arr 64 XT)]] [] = some (bl true, [])) (w2 : call 31 [.agg [.iv (.arr 64 X)], .agg [.iv (.arr 64 XC)]] [] = some (bl true, [])) :
    wpV A call (iterN n) v11.body ⟨0, padE 83 [pastF false es X, i64 num, .agg [.iv (.arr 64 V)]], []⟩ (finQ A v11 (bl true, [])) := by
  apply wpV_seq; refine wpV_of (by ((conv => lhs; cbv); (try (with_reducible rfl)))) ?_
  cases few with
  | false =>
    apply wpV_seq
    refine wpV_of (by ((conv => lhs; cbv); (repeat ((first | rewrite [k53] | rewrite [k54]); (try (conv => lhs; cbv)))); (try (with_reducible rfl)))) ?_
    (show finV _ _ _ = some _; ((conv => lhs; cbv); (try (with_reducible rfl))))
  | true =>
    apply wpV_seq
    refine wpV_of (by ((conv => lhs; cbv); (repeat ((first | rewrite [k53]); (try (conv => lhs; cbv)))); (try (with_reducible rfl)))) ?_
    apply wpV_seq; refine wpV_of (by ((conv => lhs; cbv); (repeat ((first | rewrite [k55] | rewrite [k56]); (try (conv => lhs; cbv)))); (try (with_reducible rfl)))) ?_
    apply wpV_seq; refine wpV_of (by ((conv => lhs; cbv); (try (with_reducible rfl)))) ?_
    apply wpV_seq; apply wpV_seq; refine wpV_of (by ((conv => lhs; cbv); (try (with_reducible rfl)))) ?_
    apply wpV_block
    refine wpV_loop m (fun i s => s = N11 es ot oc X V XT XC num (op i) (A .len es) (ix i) nt nc) hn (by ((conv => lhs; cbv); (try (with_reducible rfl)))) (by rw [hi0, ho0]; rfl) ?_
    rintro i hi s rfl
    by_cases him : i < m
    · rcases h4 i him with ⟨b1, b2⟩ | ⟨b1, b2, b3⟩ | ⟨b1, b2, b3⟩
      · refine wpV_of (by ((conv => lhs; cbv); (repeat ((first | rewrite [h1 i him] | rewrite [h2 i him] | rewrite [b1]); (try (conv => lhs; cbv)))); (try (with_reducible rfl)))) ?_
        refine headQ_of (by ((conv => lhs; cbv); (try (with_reducible rfl)))) ?_
        exact ⟨him, by rw [h3 i him, b2]; rfl⟩
      · refine wpV_of (by ((conv => lhs; cbv); (repeat ((first | rewrite [h1 i him] | rewrite [h2 i him] | rewrite [b1] | rewrite [b2]); (try (conv => lhs; cbv)))); (try (with_reducible rfl)))) ?_
        refine headQ_of (by ((conv => lhs; cbv); (try (with_reducible rfl)))) ?_
        exact ⟨him, by rw [h3 i him, b3]; rfl⟩
      · refine wpV_of (by ((conv => lhs; cbv); (repeat ((first | rewrite [h1 i him] | rewrite [h2 i him] | rewrite [b1] | rewrite [b2]); (try (conv => lhs; cbv)))); (try (with_reducible rfl)))) ?_
        refine headQ_of (by ((conv => lhs; cbv); (try (with_reducible rfl)))) ?_
        exact ⟨him, by rw [h3 i him, b3]; rfl⟩
    · obtain rfl : i = m := by omega
      refine wpV_of (by ((conv => lhs; cbv); (repeat ((first | rewrite [h1']); (try (conv => lhs; cbv)))); (try (with_reducible rfl)))) ?_
      show wpV _ _ _ _ _ _
      refine wpV_of (by ((conv => lhs; cbv); (repeat ((first | rewrite [d1] | rewrite [d2] | rewrite [c1] | rewrite [d3] | rewrite [c2] | rewrite [c3] | rewrite [w1] | rewrite [w2] | rewrite [k54]); (try (conv => lhs; cbv)))); (try (with_reducible rfl)))) ?_
      (show finV _ _ _ = some _; ((conv => lhs; cbv); (try (with_reducible rfl))))
end Go.Proofs.Ytomchclmnmhjaaa
