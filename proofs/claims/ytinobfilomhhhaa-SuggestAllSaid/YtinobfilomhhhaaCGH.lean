/- A reader takes bytes, fails, reads a number: gone through. -/
import Derived.Test.YtinobfilomhhhaaCGF
set_option linter.unusedSimpArgs false
set_option linter.unusedVariables false
set_option maxRecDepth 100000
set_option maxHeartbeats 1000000
set_option cbv.maxSteps 10000000
namespace Go.Proofs.Ytinobfilomhhhaa
open Go GoV

theorem by8E {nt : Nat → Int} (hn : ∀ n, nt n = (n : Int)) (l : List Nat) : l.map (fun b => [IV.int .u8 (nt b)]) = by8 l := by
  unfold by8; exact List.map_congr_left fun b _ => by rw [hn]
theorem n96 (es : List (List IV)) (s : RS) {e : Int} (he : e ≠ 0) (hs : s.fits es.length) : Pn 1 96 [rp, i64 e] (rdS s.isOk es s) (.tup []) (rdS s.isOk es (s.fail e)) := by
  refine playN 0 rfl rfl fun A call hA hcall => ?_
  obtain ⟨pl, mi, ml, nt, tn, ad, sb, K⟩ := kit hA
  obtain ⟨E, ix, sn, ll, cc, sg, B⟩ := lkit hA K (0 : Nat) (fun b => [.int .u8 (nt b)]) 1
  cases s with
  | ok f o n =>
    dsimp only [RS.isOk, cond_true, cond_false, rdS, RS.fail]
    refine wpV_ofH (by ((try (conv => lhs; cbv)); (repeat ((first | (rewrite [K.eqF]; rotate_left; focus ((try simp only [K.df, B.df, true_and, and_true]) <;> omega)) | (rewrite [K.neF]; rotate_left; focus ((try simp only [K.df, B.df, true_and, and_true]) <;> omega))); (try (conv => lhs; cbv)))); (exact rfl))) ?_
    (show finV _ _ _ = some _; ((try (conv => lhs; cbv)); (try (with_reducible rfl))); (try rfl))
  | er f x =>
    have hx : x ≠ 0 := hs
    dsimp only [RS.isOk, cond_true, cond_false, rdS, RS.fail]
    refine wpV_ofH (by ((try (conv => lhs; cbv)); (repeat ((first | (rewrite [K.neT]; rotate_left; focus ((try simp only [K.df, B.df, true_and, and_true]) <;> omega))); (try (conv => lhs; cbv)))); (exact rfl))) ?_
    (show finV _ _ _ = some _; ((try (conv => lhs; cbv)); (try (with_reducible rfl))); (try rfl))
theorem n74 (es : List (List IV)) (s : RS) : Pn 1 74 [rp] (rdS s.isOk es s) (i64 s.left) (rdS s.isOk es s) := by
  refine playN 0 rfl rfl fun A call hA hcall => ?_
  obtain ⟨pl, mi, ml, nt, tn, ad, sb, K⟩ := kit hA
  obtain ⟨E, ix, sn, ll, cc, sg, B⟩ := lkit hA K (0 : Nat) (fun b => [.int .u8 (nt b)]) 1
  cases s with
  | ok f o n =>
    dsimp only [RS.isOk, cond_true, cond_false, rdS, RS.left]
    rw [← K.nt_ n]
    refine wpV_ofH (by ((try (conv => lhs; cbv)); (repeat ((first | (rewrite [K.ofN])); (try (conv => lhs; cbv)))); (exact rfl))) ?_
    (show finV _ _ _ = some _; ((try (conv => lhs; cbv)); (try (with_reducible rfl))); (try rfl))
  | er f x =>
    have l0 : A .len [] = 0 := by rw [hA]; rfl
    dsimp only [RS.isOk, cond_true, cond_false, rdS, RS.left]
    refine wpV_ofH (by ((try (conv => lhs; cbv)); (repeat ((first | (rewrite [l0])); (try (conv => lhs; cbv)))); (exact rfl))) ?_
    (show finV _ _ _ = some _; ((try (conv => lhs; cbv)); (try (with_reducible rfl))); (try rfl))
/-- n bytes are taken. -/
def takeS (j : Nat) : RS → Option Nat × RS
  | .er f e => (none, .er f e)
  | .ok f o n => if n < j then (none, .er f 4) else (some o, .ok true (o + j) (n - j))
def takeF (es : List (List IV)) (j : Nat) : Option Nat → FV
  | none => .tup [(false, [.iv (.sl true 0 [])]), (false, [.iv (.bool false)])]
  | some o => .tup [(false, [.iv (.sl true 1 (rSeg es o j))]), (false, [.iv (.bool true)])]
theorem n97 (es : List (List IV)) (s : RS) (j : Nat) (hs : s.fits es.length) : Pn 2 97 [rp, i64 j] (rdS s.isOk es s) (takeF es j (takeS j s).1) (rdS s.isOk es (takeS j s).2) := by
  refine playN 1 rfl rfl fun A call hA hcall => ?_
  obtain ⟨pl, mi, ml, nt, tn, ad, sb, K⟩ := kit hA
  obtain ⟨E, ix, sn, ll, cc, sg, B⟩ := lkit hA K (0 : Nat) (fun b => [.int .u8 (nt b)]) 1
  have sge : ∀ o j, A .seg es o j = rSeg es o j := fun o j => by rw [hA]; rfl
  cases s with
  | ok f o n =>
    have hs : o + n = es.length := hs
    have k1 := n96 es (.ok f o n) (e := 4) (by decide) hs 1 (by omega)
    rw [← hcall] at k1
    dsimp only [RS.isOk, cond_true, cond_false, rdS, RS.fail] at k1
    obtain ⟨J, hJ⟩ : ∃ J : Int, J = j := ⟨_, rfl⟩
    by_cases h : n < j
    · dsimp only [RS.isOk, cond_true, cond_false, rdS, takeS]
      rw [if_pos h, ← hJ]
      dsimp only [takeF, rdS]
      refine wpV_ofH (by ((try (conv => lhs; cbv)); (repeat ((first | (rewrite [k1]) | (rewrite [K.ofN]) | (rewrite [K.gtT]; rotate_left; focus ((try simp only [K.df, B.df, true_and, and_true]) <;> omega)) | (rewrite [K.neF]; rotate_left; focus ((try simp only [K.df, B.df, true_and, and_true]) <;> omega))); (try (conv => lhs; cbv)))); (exact rfl))) ?_
      (show finV _ _ _ = some _; ((try (conv => lhs; cbv)); (try (with_reducible rfl))); (try rfl))
    · dsimp only [RS.isOk, cond_true, cond_false, rdS, takeS]
      rw [if_neg h, ← hJ]
      dsimp only [takeF, rdS]
      have e1 : o + j = ad o (tn J) := by rw [K.ad_, K.tn_]; omega
      have e2 : n - j = sb n (tn J) := by rw [K.sb_, K.tn_]; omega
      have e3 : rSeg es o j = A .seg es o (tn J) := by rw [hA, K.tn_, hJ]; rfl
      rw [e1, e2, e3]
      refine wpV_ofH (by ((try (conv => lhs; cbv)); (repeat ((first | (rewrite [K.ofN]) | (rewrite [K.cutLo]; rotate_left; focus ((try simp only [K.df, B.df, true_and, and_true]) <;> omega)) | (rewrite [K.cut3]; rotate_left; focus ((try simp only [K.df, B.df, true_and, and_true]) <;> omega)) | (rewrite [K.gtF]; rotate_left; focus ((try simp only [K.df, B.df, true_and, and_true]) <;> omega)) | (rewrite [K.neF]; rotate_left; focus ((try simp only [K.df, B.df, true_and, and_true]) <;> omega))); (try (conv => lhs; cbv)))); (exact rfl))) ?_
      (show finV _ _ _ = some _; ((try (conv => lhs; cbv)); (try (with_reducible rfl))); (try rfl))
  | er f x =>
    have hx : x ≠ 0 := hs
    dsimp only [RS.isOk, cond_true, cond_false, rdS, takeS, takeF]
    refine wpV_ofH (by ((try (conv => lhs; cbv)); (repeat ((first | (rewrite [K.neT]; rotate_left; focus ((try simp only [K.df, B.df, true_and, and_true]) <;> omega))); (try (conv => lhs; cbv)))); (exact rfl))) ?_
    (show finV _ _ _ = some _; ((try (conv => lhs; cbv)); (try (with_reducible rfl))); (try rfl))
end Go.Proofs.Ytinobfilomhhhaa
