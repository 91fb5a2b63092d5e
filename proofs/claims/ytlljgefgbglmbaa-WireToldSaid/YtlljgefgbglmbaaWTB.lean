/- With one byte turned it is not read: the law of lists. -/
import Derived.Test.YtlljgefgbglmbaaWTA
import Derived.Test.YtlljgefgbglmbaaWBG
set_option linter.unusedSimpArgs false
set_option linter.unusedVariables false
set_option maxRecDepth 100000
set_option maxHeartbeats 20000000
set_option cbv.maxSteps 10000000
namespace Go.Proofs.Ytlljgefgbglmbaa
open Go GoV

theorem n16bad (l : List Nat) (h8 : ∀ b, b ∈ l → b < 256) (hl : l.length ≤ 211106232532992) {e : Int} (ho : openS l = (none, e)) (he : e ≠ 0) : ∃ k, ∀ t, Pn k 16 [.one (.iv (.sl t 1 (by8 l)))] []
    (.tup [(true, [.iv (.int .i64 0), .iv (.int .i64 0), .iv (.int .i64 0), .iv (.arr 64 [IV.int IntKind.i64 0, IV.int IntKind.i64 0, IV.int IntKind.i64 0, IV.int IntKind.i64 0, IV.int IntKind.i64 0, IV.int IntKind.i64 0, IV.int IntKind.i64 0, IV.int IntKind.i64 0, IV.int IntKind.i64 0, IV.int IntKind.i64 0, IV.int IntKind.i64 0, IV.int IntKind.i64 0, IV.int IntKind.i64 0, IV.int IntKind.i64 0, IV.int IntKind.i64 0, IV.int IntKind.i64 0, IV.int IntKind.i64 0, IV.int IntKind.i64 0, IV.int IntKind.i64 0, IV.int IntKind.i64 0, IV.int IntKind.i64 0, IV.int IntKind.i64 0, IV.int IntKind.i64 0, IV.int IntKind.i64 0, IV.int IntKind.i64 0, IV.int IntKind.i64 0, IV.int IntKind.i64 0, IV.int IntKind.i64 0, IV.int IntKind.i64 0, IV.int IntKind.i64 0, IV.int IntKind.i64 0, IV.int IntKind.i64 0, IV.int IntKind.i64 0, IV.int IntKind.i64 0, IV.int IntKind.i64 0, IV.int IntKind.i64 0, IV.int IntKind.i64 0, IV.int IntKind.i64 0, IV.int IntKind.i64 0, IV.int IntKind.i64 0, IV.int IntKind.i64 0, IV.int IntKind.i64 0, IV.int IntKind.i64 0, IV.int IntKind.i64 0, IV.int IntKind.i64 0, IV.int IntKind.i64 0, IV.int IntKind.i64 0, IV.int IntKind.i64 0, IV.int IntKind.i64 0, IV.int IntKind.i64 0, IV.int IntKind.i64 0, IV.int IntKind.i64 0, IV.int IntKind.i64 0, IV.int IntKind.i64 0, IV.int IntKind.i64 0, IV.int IntKind.i64 0, IV.int IntKind.i64 0, IV.int IntKind.i64 0, IV.int IntKind.i64 0, IV.int IntKind.i64 0, IV.int IntKind.i64 0, IV.int IntKind.i64 0, IV.int IntKind.i64 0, IV.int IntKind.i64 0]), .iv (.arr 64 [IV.int IntKind.i64 0, IV.int IntKind.i64 0, IV.int IntKind.i64 0, IV.int IntKind.i64 0, IV.int IntKind.i64 0, IV.int IntKind.i64 0, IV.int IntKind.i64 0, IV.int IntKind.i64 0, IV.int IntKind.i64 0, IV.int IntKind.i64 0, IV.int IntKind.i64 0, IV.int IntKind.i64 0, IV.int IntKind.i64 0, IV.int IntKind.i64 0, IV.int IntKind.i64 0, IV.int IntKind.i64 0, IV.int IntKind.i64 0, IV.int IntKind.i64 0, IV.int IntKind.i64 0, IV.int IntKind.i64 0, IV.int IntKind.i64 0, IV.int IntKind.i64 0, IV.int IntKind.i64 0, IV.int IntKind.i64 0, IV.int IntKind.i64 0, IV.int IntKind.i64 0, IV.int IntKind.i64 0, IV.int IntKind.i64 0, IV.int IntKind.i64 0, IV.int IntKind.i64 0, IV.int IntKind.i64 0, IV.int IntKind.i64 0, IV.int IntKind.i64 0, IV.int IntKind.i64 0, IV.int IntKind.i64 0, IV.int IntKind.i64 0, IV.int IntKind.i64 0, IV.int IntKind.i64 0, IV.int IntKind.i64 0, IV.int IntKind.i64 0, IV.int IntKind.i64 0, IV.int IntKind.i64 0, IV.int IntKind.i64 0, IV.int IntKind.i64 0, IV.int IntKind.i64 0, IV.int IntKind.i64 0, IV.int IntKind.i64 0, IV.int IntKind.i64 0, IV.int IntKind.i64 0, IV.int IntKind.i64 0, IV.int IntKind.i64 0, IV.int IntKind.i64 0, IV.int IntKind.i64 0, IV.int IntKind.i64 0, IV.int IntKind.i64 0, IV.int IntKind.i64 0, IV.int IntKind.i64 0, IV.int IntKind.i64 0, IV.int IntKind.i64 0, IV.int IntKind.i64 0, IV.int IntKind.i64 0, IV.int IntKind.i64 0, IV.int IntKind.i64 0, IV.int IntKind.i64 0]), .iv (.sl true 0 []), .iv (.arr 64 [IV.int IntKind.i64 0, IV.int IntKind.i64 0, IV.int IntKind.i64 0, IV.int IntKind.i64 0, IV.int IntKind.i64 0, IV.int IntKind.i64 0, IV.int IntKind.i64 0, IV.int IntKind.i64 0, IV.int IntKind.i64 0, IV.int IntKind.i64 0, IV.int IntKind.i64 0, IV.int IntKind.i64 0, IV.int IntKind.i64 0, IV.int IntKind.i64 0, IV.int IntKind.i64 0, IV.int IntKind.i64 0, IV.int IntKind.i64 0, IV.int IntKind.i64 0, IV.int IntKind.i64 0, IV.int IntKind.i64 0, IV.int IntKind.i64 0, IV.int IntKind.i64 0, IV.int IntKind.i64 0, IV.int IntKind.i64 0, IV.int IntKind.i64 0, IV.int IntKind.i64 0, IV.int IntKind.i64 0, IV.int IntKind.i64 0, IV.int IntKind.i64 0, IV.int IntKind.i64 0, IV.int IntKind.i64 0, IV.int IntKind.i64 0, IV.int IntKind.i64 0, IV.int IntKind.i64 0, IV.int IntKind.i64 0, IV.int IntKind.i64 0, IV.int IntKind.i64 0, IV.int IntKind.i64 0, IV.int IntKind.i64 0, IV.int IntKind.i64 0, IV.int IntKind.i64 0, IV.int IntKind.i64 0, IV.int IntKind.i64 0, IV.int IntKind.i64 0, IV.int IntKind.i64 0, IV.int IntKind.i64 0, IV.int IntKind.i64 0, IV.int IntKind.i64 0, IV.int IntKind.i64 0, IV.int IntKind.i64 0, IV.int IntKind.i64 0, IV.int IntKind.i64 0, IV.int IntKind.i64 0, IV.int IntKind.i64 0, IV.int IntKind.i64 0, IV.int IntKind.i64 0, IV.int IntKind.i64 0, IV.int IntKind.i64 0, IV.int IntKind.i64 0, IV.int IntKind.i64 0, IV.int IntKind.i64 0, IV.int IntKind.i64 0, IV.int IntKind.i64 0, IV.int IntKind.i64 0]), .iv (.sl true 0 []), .iv (.arr 64 [IV.int IntKind.i64 0, IV.int IntKind.i64 0, IV.int IntKind.i64 0, IV.int IntKind.i64 0, IV.int IntKind.i64 0, IV.int IntKind.i64 0, IV.int IntKind.i64 0, IV.int IntKind.i64 0, IV.int IntKind.i64 0, IV.int IntKind.i64 0, IV.int IntKind.i64 0, IV.int IntKind.i64 0, IV.int IntKind.i64 0, IV.int IntKind.i64 0, IV.int IntKind.i64 0, IV.int IntKind.i64 0, IV.int IntKind.i64 0, IV.int IntKind.i64 0, IV.int IntKind.i64 0, IV.int IntKind.i64 0, IV.int IntKind.i64 0, IV.int IntKind.i64 0, IV.int IntKind.i64 0, IV.int IntKind.i64 0, IV.int IntKind.i64 0, IV.int IntKind.i64 0, IV.int IntKind.i64 0, IV.int IntKind.i64 0, IV.int IntKind.i64 0, IV.int IntKind.i64 0, IV.int IntKind.i64 0, IV.int IntKind.i64 0, IV.int IntKind.i64 0, IV.int IntKind.i64 0, IV.int IntKind.i64 0, IV.int IntKind.i64 0, IV.int IntKind.i64 0, IV.int IntKind.i64 0, IV.int IntKind.i64 0, IV.int IntKind.i64 0, IV.int IntKind.i64 0, IV.int IntKind.i64 0, IV.int IntKind.i64 0, IV.int IntKind.i64 0, IV.int IntKind.i64 0, IV.int IntKind.i64 0, IV.int IntKind.i64 0, IV.int IntKind.i64 0, IV.int IntKind.i64 0, IV.int IntKind.i64 0, IV.int IntKind.i64 0, IV.int IntKind.i64 0, IV.int IntKind.i64 0, IV.int IntKind.i64 0, IV.int IntKind.i64 0, IV.int IntKind.i64 0, IV.int IntKind.i64 0, IV.int IntKind.i64 0, IV.int IntKind.i64 0, IV.int IntKind.i64 0, IV.int IntKind.i64 0, IV.int IntKind.i64 0, IV.int IntKind.i64 0, IV.int IntKind.i64 0])]), (false, [.iv (.int .i64 e)])]) [] := by
  obtain ⟨ko, hko⟩ := n42 l h8 true hl
  obtain ⟨ko2, hko2⟩ := n42 l h8 false hl
  rw [ho] at hko hko2
  refine ⟨ko + ko2 + 1, fun t => playN (ko + ko2) rfl rfl fun A call hA hcall => ?_⟩
  obtain ⟨pl, mi, ml, nt, tn, ad, sb, K⟩ := kit hA
  obtain ⟨EX, ix, sn, ll, cc, sg, X⟩ := lkit hA K zeroX exI 96
  obtain ⟨W, gx, st', V⟩ := rkit hA
  have k42 : call 42 [.one (.iv (.sl t 1 (by8 l)))] [] = some (.tup [(false, [.iv (.sl true 0 [])]), (false, [.iv (.int .i64 e)])], []) := by
    rw [hcall]; cases t
    · exact hko2 _ (by omega)
    · exact hko _ (by omega)
  clear hko hko2 h8 hl ho
  generalize by8 l = xs at *
  refine wpV_ofH (by ((try (conv => lhs; cbv)); (repeat ((first | (rewrite [k42]) | (rewrite [K.neT]; rotate_left; focus ((try simp only [K.df, X.df, V.df, true_and, and_true]) <;> omega))); (try (conv => lhs; cbv)))); (exact rfl))) ?_
  (show finV _ _ _ = some _; ((try (conv => lhs; cbv)); (try (with_reducible rfl))); (try rfl))
def zeroM : Msg := ⟨0, 0, 0, zeros, zeros, zeros, [], zeros⟩
theorem lawT6 (m : Msg) (l : List Ev) (at' : Int) (x : Nat) (hx : x < 256) (la : m.ack.length = 64) (lb : m.base.length = 64) (ls : m.seen.length = 64) (lf : m.floor.length = 64) (hd : ∀ e, e ∈ l → e.doc.size ≤ 1000000000000000) (hw : ∀ w, w ∈ m.live → w.doc.size ≤ 1000000000000000) :
    ∃ n, play real (lookT tab) (fun _ => clonePr clones) n 6 [msF false 8 false 6 m (argX l), i64 at', .one (.iv (.int .u8 x))] [] = some (bl true, []) := by
  obtain ⟨ka, ha⟩ := q8
  have h7 := n7 m l
  cases hs : smB m.live && fewB l with
  | false =>
    obtain ⟨n, hn⟩ : ∃ n, n = ka + 500 := ⟨_, rfl⟩
    refine ⟨n + 1, playN n rfl rfl (fun A call hA hcall => ?_) (n + 1) (Nat.le_refl _)⟩
    obtain ⟨pl, mi, ml, nt, tn, ad, sb, K⟩ := kit hA
    obtain ⟨EX, ix, sn, ll, cc, sg, X⟩ := lkit hA K zeroX exI 96
    obtain ⟨W, gx, st', V⟩ := rkit hA
    have q7 := h7 n (by omega)
    have q8 := ha n (by omega)
    rw [hs] at q7
    rw [← hcall] at q7 q8
    obtain ⟨mk, fr, to, ack, base, seen, live, floor⟩ := m
    dsimp only [msF] at *
    generalize vec ack = va at *
    generalize vec base = vb at *
    generalize vec seen = vs at *
    generalize vec floor = vf at *
    generalize eWs live = lw at *
    generalize exs (argX l) = xs at *
    generalize (x : Int) = xI at *
    refine wpV_ofH (by ((try (conv => lhs; cbv)); (repeat ((first | (rewrite [q7]) | (rewrite [q8])); (try (conv => lhs; cbv)))); (exact rfl))) ?_
    (show finV _ _ _ = some _; ((try (conv => lhs; cbv)); (try (with_reducible rfl))); (try rfl))
  | true =>
    simp only [Bool.and_eq_true] at hs
    have hf := hs.2
    unfold fewB at hf
    simp only [Bool.and_eq_true, decide_eq_true_eq] at hf
    have hl : l.length ≤ 80 := hf.1
    have hg : ∀ e, e ∈ l → e.gone.length ≤ 130 := fewGo_all hf.2
    have h1 : MsgOK m (argX l) := ⟨la, lb, ls, lf, fun x hx => by
      obtain ⟨e, he, rfl⟩ := List.mem_map.1 hx
      exact ⟨hd e he, by have := hg e he; dsimp only; omega⟩, fun x hx => by
      obtain ⟨e, he, rfl⟩ := List.mem_map.1 hx
      rfl, hw⟩
    have hsm : (smB m.live && fewB l) = true := by rw [hs.1, hs.2]; rfl
    rw [hsm] at h7
    by_cases hc : chkM m (argX l) = 0
    · have hm : chkM m (okL l) = 0 := by rw [chkM_flags m (okL l) (argX l) (by unfold okL argX; rw [List.map_map, List.map_map]; rfl)]; exact hc
      have hcs : ∀ e, e ∈ l → chk e = 0 := fun e he => chkM_ev hc (e, false, 2) (List.mem_map.2 ⟨e, he, rfl⟩)
      obtain ⟨k9, h9⟩ := n9 m l h1 (by omega) hcs hc
      have hbb := body_b m l (by omega) hcs hm
      have hbl := body_len m l hm (by omega)
      have hsb := seal_b hbb
      obtain ⟨S, hS⟩ : ∃ S, S = sealB (bodyB m l) := ⟨_, rfl⟩
      have hSl : S.length = (bodyB m l).length + 4 := by rw [hS]; unfold sealB hd4; rw [List.length_append]; simp only [List.length_cons, List.length_nil]; omega
      -- where, and what stands there then
      obtain ⟨U, hU⟩ : ∃ U : Int, U = real .ck .u64 at' := ⟨_, rfl⟩
      have hU0 : 0 ≤ U ∧ U < 18446744073709551616 := by
        rw [hU]; show 0 ≤ IntKind.u64.wrap at' ∧ IntKind.u64.wrap at' < 18446744073709551616
        simp [IntKind.wrap, IntKind.min, IntKind.max, IntKind.signed, IntKind.bits]; omega
      obtain ⟨R, hR⟩ : ∃ R : Nat, R = U.toNat % S.length := ⟨_, rfl⟩
      have hRl : R < S.length := by rw [hR]; exact Nat.mod_lt _ (by omega)
      have hRU : U.tmod (S.length : Int) = (R : Int) := by
        rw [Int.tmod_eq_emod_of_nonneg hU0.1, hR]
        have : U = (U.toNat : Int) := by omega
        rw [this]
        simp
      have hSR : S[R] < 256 := by
        have := hsb S[R] (by rw [← hS]; exact List.getElem_mem hRl)
        exact this
      obtain ⟨y, hy⟩ : ∃ y : Nat, y = S[R] ^^^ x := ⟨_, rfl⟩
      have hy8 : y < 256 := by rw [hy]; exact Nat.xor_lt_two_pow (n := 8) (by omega) (by omega)
      obtain ⟨k16, h16⟩ : ∃ k, x ≠ 0 → ∀ t, Pn k 16 [.one (.iv (.sl t 1 (by8 (S.set R y))))] []
          (.tup [(true, [.iv (.int .i64 0), .iv (.int .i64 0), .iv (.int .i64 0), .iv (.arr 64 [IV.int IntKind.i64 0, IV.int IntKind.i64 0, IV.int IntKind.i64 0, IV.int IntKind.i64 0, IV.int IntKind.i64 0, IV.int IntKind.i64 0, IV.int IntKind.i64 0, IV.int IntKind.i64 0, IV.int IntKind.i64 0, IV.int IntKind.i64 0, IV.int IntKind.i64 0, IV.int IntKind.i64 0, IV.int IntKind.i64 0, IV.int IntKind.i64 0, IV.int IntKind.i64 0, IV.int IntKind.i64 0, IV.int IntKind.i64 0, IV.int IntKind.i64 0, IV.int IntKind.i64 0, IV.int IntKind.i64 0, IV.int IntKind.i64 0, IV.int IntKind.i64 0, IV.int IntKind.i64 0, IV.int IntKind.i64 0, IV.int IntKind.i64 0, IV.int IntKind.i64 0, IV.int IntKind.i64 0, IV.int IntKind.i64 0, IV.int IntKind.i64 0, IV.int IntKind.i64 0, IV.int IntKind.i64 0, IV.int IntKind.i64 0, IV.int IntKind.i64 0, IV.int IntKind.i64 0, IV.int IntKind.i64 0, IV.int IntKind.i64 0, IV.int IntKind.i64 0, IV.int IntKind.i64 0, IV.int IntKind.i64 0, IV.int IntKind.i64 0, IV.int IntKind.i64 0, IV.int IntKind.i64 0, IV.int IntKind.i64 0, IV.int IntKind.i64 0, IV.int IntKind.i64 0, IV.int IntKind.i64 0, IV.int IntKind.i64 0, IV.int IntKind.i64 0, IV.int IntKind.i64 0, IV.int IntKind.i64 0, IV.int IntKind.i64 0, IV.int IntKind.i64 0, IV.int IntKind.i64 0, IV.int IntKind.i64 0, IV.int IntKind.i64 0, IV.int IntKind.i64 0, IV.int IntKind.i64 0, IV.int IntKind.i64 0, IV.int IntKind.i64 0, IV.int IntKind.i64 0, IV.int IntKind.i64 0, IV.int IntKind.i64 0, IV.int IntKind.i64 0, IV.int IntKind.i64 0]), .iv (.arr 64 [IV.int IntKind.i64 0, IV.int IntKind.i64 0, IV.int IntKind.i64 0, IV.int IntKind.i64 0, IV.int IntKind.i64 0, IV.int IntKind.i64 0, IV.int IntKind.i64 0, IV.int IntKind.i64 0, IV.int IntKind.i64 0, IV.int IntKind.i64 0, IV.int IntKind.i64 0, IV.int IntKind.i64 0, IV.int IntKind.i64 0, IV.int IntKind.i64 0, IV.int IntKind.i64 0, IV.int IntKind.i64 0, IV.int IntKind.i64 0, IV.int IntKind.i64 0, IV.int IntKind.i64 0, IV.int IntKind.i64 0, IV.int IntKind.i64 0, IV.int IntKind.i64 0, IV.int IntKind.i64 0, IV.int IntKind.i64 0, IV.int IntKind.i64 0, IV.int IntKind.i64 0, IV.int IntKind.i64 0, IV.int IntKind.i64 0, IV.int IntKind.i64 0, IV.int IntKind.i64 0, IV.int IntKind.i64 0, IV.int IntKind.i64 0, IV.int IntKind.i64 0, IV.int IntKind.i64 0, IV.int IntKind.i64 0, IV.int IntKind.i64 0, IV.int IntKind.i64 0, IV.int IntKind.i64 0, IV.int IntKind.i64 0, IV.int IntKind.i64 0, IV.int IntKind.i64 0, IV.int IntKind.i64 0, IV.int IntKind.i64 0, IV.int IntKind.i64 0, IV.int IntKind.i64 0, IV.int IntKind.i64 0, IV.int IntKind.i64 0, IV.int IntKind.i64 0, IV.int IntKind.i64 0, IV.int IntKind.i64 0, IV.int IntKind.i64 0, IV.int IntKind.i64 0, IV.int IntKind.i64 0, IV.int IntKind.i64 0, IV.int IntKind.i64 0, IV.int IntKind.i64 0, IV.int IntKind.i64 0, IV.int IntKind.i64 0, IV.int IntKind.i64 0, IV.int IntKind.i64 0, IV.int IntKind.i64 0, IV.int IntKind.i64 0, IV.int IntKind.i64 0, IV.int IntKind.i64 0]), .iv (.sl true 0 []), .iv (.arr 64 [IV.int IntKind.i64 0, IV.int IntKind.i64 0, IV.int IntKind.i64 0, IV.int IntKind.i64 0, IV.int IntKind.i64 0, IV.int IntKind.i64 0, IV.int IntKind.i64 0, IV.int IntKind.i64 0, IV.int IntKind.i64 0, IV.int IntKind.i64 0, IV.int IntKind.i64 0, IV.int IntKind.i64 0, IV.int IntKind.i64 0, IV.int IntKind.i64 0, IV.int IntKind.i64 0, IV.int IntKind.i64 0, IV.int IntKind.i64 0, IV.int IntKind.i64 0, IV.int IntKind.i64 0, IV.int IntKind.i64 0, IV.int IntKind.i64 0, IV.int IntKind.i64 0, IV.int IntKind.i64 0, IV.int IntKind.i64 0, IV.int IntKind.i64 0, IV.int IntKind.i64 0, IV.int IntKind.i64 0, IV.int IntKind.i64 0, IV.int IntKind.i64 0, IV.int IntKind.i64 0, IV.int IntKind.i64 0, IV.int IntKind.i64 0, IV.int IntKind.i64 0, IV.int IntKind.i64 0, IV.int IntKind.i64 0, IV.int IntKind.i64 0, IV.int IntKind.i64 0, IV.int IntKind.i64 0, IV.int IntKind.i64 0, IV.int IntKind.i64 0, IV.int IntKind.i64 0, IV.int IntKind.i64 0, IV.int IntKind.i64 0, IV.int IntKind.i64 0, IV.int IntKind.i64 0, IV.int IntKind.i64 0, IV.int IntKind.i64 0, IV.int IntKind.i64 0, IV.int IntKind.i64 0, IV.int IntKind.i64 0, IV.int IntKind.i64 0, IV.int IntKind.i64 0, IV.int IntKind.i64 0, IV.int IntKind.i64 0, IV.int IntKind.i64 0, IV.int IntKind.i64 0, IV.int IntKind.i64 0, IV.int IntKind.i64 0, IV.int IntKind.i64 0, IV.int IntKind.i64 0, IV.int IntKind.i64 0, IV.int IntKind.i64 0, IV.int IntKind.i64 0, IV.int IntKind.i64 0]), .iv (.sl true 0 []), .iv (.arr 64 [IV.int IntKind.i64 0, IV.int IntKind.i64 0, IV.int IntKind.i64 0, IV.int IntKind.i64 0, IV.int IntKind.i64 0, IV.int IntKind.i64 0, IV.int IntKind.i64 0, IV.int IntKind.i64 0, IV.int IntKind.i64 0, IV.int IntKind.i64 0, IV.int IntKind.i64 0, IV.int IntKind.i64 0, IV.int IntKind.i64 0, IV.int IntKind.i64 0, IV.int IntKind.i64 0, IV.int IntKind.i64 0, IV.int IntKind.i64 0, IV.int IntKind.i64 0, IV.int IntKind.i64 0, IV.int IntKind.i64 0, IV.int IntKind.i64 0, IV.int IntKind.i64 0, IV.int IntKind.i64 0, IV.int IntKind.i64 0, IV.int IntKind.i64 0, IV.int IntKind.i64 0, IV.int IntKind.i64 0, IV.int IntKind.i64 0, IV.int IntKind.i64 0, IV.int IntKind.i64 0, IV.int IntKind.i64 0, IV.int IntKind.i64 0, IV.int IntKind.i64 0, IV.int IntKind.i64 0, IV.int IntKind.i64 0, IV.int IntKind.i64 0, IV.int IntKind.i64 0, IV.int IntKind.i64 0, IV.int IntKind.i64 0, IV.int IntKind.i64 0, IV.int IntKind.i64 0, IV.int IntKind.i64 0, IV.int IntKind.i64 0, IV.int IntKind.i64 0, IV.int IntKind.i64 0, IV.int IntKind.i64 0, IV.int IntKind.i64 0, IV.int IntKind.i64 0, IV.int IntKind.i64 0, IV.int IntKind.i64 0, IV.int IntKind.i64 0, IV.int IntKind.i64 0, IV.int IntKind.i64 0, IV.int IntKind.i64 0, IV.int IntKind.i64 0, IV.int IntKind.i64 0, IV.int IntKind.i64 0, IV.int IntKind.i64 0, IV.int IntKind.i64 0, IV.int IntKind.i64 0, IV.int IntKind.i64 0, IV.int IntKind.i64 0, IV.int IntKind.i64 0, IV.int IntKind.i64 0])]), (false, [.iv (.int .i64 6)])]) [] := by
        by_cases h0 : x = 0
        · exact ⟨0, fun h => absurd h0 h⟩
        · have hne : y ≠ S[R] := by
            intro h
            rw [hy] at h
            have : (x ^^^ S[R]) = (0 ^^^ S[R]) := by rw [Nat.zero_xor, Nat.xor_comm]; exact h
            exact h0 (xor_cancel this)
          have hop : openS (S.set R y) = (none, 6) := by
            subst hS
            exact open_flip hbb hRl hy8 hne
          have h8' : ∀ b, b ∈ S.set R y → b < 256 := fun b hb => by
            rcases List.mem_or_eq_of_mem_set hb with h | h
            · rw [hS] at h; exact hsb b h
            · rw [h]; exact hy8
          obtain ⟨k, hk⟩ := n16bad (S.set R y) h8' (by rw [List.length_set]; omega) hop (by decide)
          exact ⟨k, fun _ => hk⟩
      have h14 := n14 zeroM [] [] (by simp [zeroM, zeros]) (by simp [zeroM, zeros]) (by simp [zeroM, zeros]) (by simp [zeroM, zeros]) (by simp [zeroM]) ⟨rfl, by simp, fun i hi => by simp at hi⟩ true true true true 0 0 0 0 (.inr ⟨rfl, rfl⟩) (.inr ⟨rfl, rfl⟩) (.inr ⟨rfl, rfl⟩) (.inr ⟨rfl, rfl⟩)
      obtain ⟨n, hn⟩ : ∃ n, n = ka + k9 + k16 + 8000 := ⟨_, rfl⟩
      refine ⟨n + 1, playN n rfl rfl (fun A call hA hcall => ?_) (n + 1) (Nat.le_refl _)⟩
      obtain ⟨pl, mi, ml, nt, tn, ad, sb, K⟩ := kit hA
      obtain ⟨EX, ix, sn, ll, cc, sg, X⟩ := lkit hA K zeroX exI 96
      obtain ⟨W, gx, st', V⟩ := rkit hA
      have q7 := h7 n (by omega)
      have q8 := ha n (by omega)
      have q9 := h9 n (by omega)
      have q14 := h14 n (by omega)
      have zr : vec zeros = [IV.int IntKind.i64 0, IV.int IntKind.i64 0, IV.int IntKind.i64 0, IV.int IntKind.i64 0, IV.int IntKind.i64 0, IV.int IntKind.i64 0, IV.int IntKind.i64 0, IV.int IntKind.i64 0, IV.int IntKind.i64 0, IV.int IntKind.i64 0, IV.int IntKind.i64 0, IV.int IntKind.i64 0, IV.int IntKind.i64 0, IV.int IntKind.i64 0, IV.int IntKind.i64 0, IV.int IntKind.i64 0, IV.int IntKind.i64 0, IV.int IntKind.i64 0, IV.int IntKind.i64 0, IV.int IntKind.i64 0, IV.int IntKind.i64 0, IV.int IntKind.i64 0, IV.int IntKind.i64 0, IV.int IntKind.i64 0, IV.int IntKind.i64 0, IV.int IntKind.i64 0, IV.int IntKind.i64 0, IV.int IntKind.i64 0, IV.int IntKind.i64 0, IV.int IntKind.i64 0, IV.int IntKind.i64 0, IV.int IntKind.i64 0, IV.int IntKind.i64 0, IV.int IntKind.i64 0, IV.int IntKind.i64 0, IV.int IntKind.i64 0, IV.int IntKind.i64 0, IV.int IntKind.i64 0, IV.int IntKind.i64 0, IV.int IntKind.i64 0, IV.int IntKind.i64 0, IV.int IntKind.i64 0, IV.int IntKind.i64 0, IV.int IntKind.i64 0, IV.int IntKind.i64 0, IV.int IntKind.i64 0, IV.int IntKind.i64 0, IV.int IntKind.i64 0, IV.int IntKind.i64 0, IV.int IntKind.i64 0, IV.int IntKind.i64 0, IV.int IntKind.i64 0, IV.int IntKind.i64 0, IV.int IntKind.i64 0, IV.int IntKind.i64 0, IV.int IntKind.i64 0, IV.int IntKind.i64 0, IV.int IntKind.i64 0, IV.int IntKind.i64 0, IV.int IntKind.i64 0, IV.int IntKind.i64 0, IV.int IntKind.i64 0, IV.int IntKind.i64 0, IV.int IntKind.i64 0] := rfl
      rw [← hS] at q9
      rw [← hcall] at q7 q8 q9 q14
      simp only [msF, zeroM, show exs [] = [] from rfl, show eWs [] = [] from rfl, zr] at q14
      obtain ⟨SL, hSL⟩ : ∃ SL : Int, SL = (S.length : Int) := ⟨_, rfl⟩
      have hn0 : SL ≠ 0 := by omega
      have hp0 : 0 < SL := by omega
      have on : A .ofN S.length = SL := by rw [hA, hSL]; rfl
      by_cases h0 : x = 0
      · subst h0
        clear h1 h7 h9 h14 ha hc hm hcs hsm hs hf hbb hbl hsb h16 hSR hy hy8 hRU hRl
        obtain ⟨mk, fr, to, ack, base, seen, live, floor⟩ := m
        dsimp only [msF] at *
        generalize vec ack = va at *
        generalize vec base = vb at *
        generalize vec seen = vs at *
        generalize vec floor = vf at *
        generalize eWs live = lw at *
        generalize exs (argX l) = xs at *
        generalize by8 S = ss at *
        generalize S.length = sn' at *
        have hx0 : ((0 : Nat) : Int) = 0 := rfl
        rw [hx0]
        refine wpV_ofH (by ((try (conv => lhs; cbv)); (repeat ((first | (rewrite [q7]) | (rewrite [q9]) | (rewrite [on]) | (rewrite [q8]) | (rewrite [K.gtT]; rotate_left; focus ((try simp only [K.df, X.df, V.df, true_and, and_true]) <;> omega)) | (rewrite [K.eqT]; rotate_left; focus ((try simp only [K.df, X.df, V.df, true_and, and_true]) <;> omega)) | (rewrite [K.neF]; rotate_left; focus ((try simp only [K.df, X.df, V.df, true_and, and_true]) <;> omega))); (try (conv => lhs; cbv)))); (exact rfl))) ?_
        (show finV _ _ _ = some _; ((try (conv => lhs; cbv)); (try (with_reducible rfl))); (try rfl))
      · have q16 := fun t => h16 h0 t n (by omega)
        simp only [← hcall] at q16
        obtain ⟨xI, hxI⟩ : ∃ xI : Int, xI = (x : Int) := ⟨_, rfl⟩
        have hxne : xI ≠ 0 := by omega
        have u1 : A .ck .u64 at' = U := by rw [hA, hU]
        have u2 : A .ar .rem .u64 U SL = (R : Int) := by rw [hA, hSL, ← hRU]; rfl
        obtain ⟨RI, hRI⟩ : ∃ RI : Int, RI = (R : Int) := ⟨_, rfl⟩
        rw [← hRI] at u2
        have ati : A .at_ RI S.length = some R := by rw [hA, real_at, hRI]; simp [rIdx]; omega
        obtain ⟨c0, hc0⟩ : ∃ c0 : Int, c0 = ((S[R] : Nat) : Int) := ⟨_, rfl⟩
        obtain ⟨c1, hc1⟩ : ∃ c1 : Int, c1 = ((y : Nat) : Int) := ⟨_, rfl⟩
        have gg : A .getN (by8 S) R = some [.int .u8 c0] := by
          rw [hA, real_getN, hc0]; simp [by8, List.getElem?_eq_getElem hRl]
        have xr : A .ar .xor .u8 c0 xI = c1 := by rw [hA, hc0, hxI, hc1, hy]; exact xor8N hSR hx
        have ss' : A .set (by8 S) R 0 [.int .u8 c1] = some (by8 (S.set R y)) := by
          have h1 : (by8 S)[R]? = some [.int .u8 (S[R] : Int)] := by simp [by8, List.getElem?_eq_getElem hRl]
          have h2 : (by8 S).set R [.int .u8 c1] = by8 (S.set R y) := by rw [hc1]; simp [by8, List.map_set]
          rw [hA, real_set]
          simp only [rSet, h1]
          rw [← h2]
          rfl
        have sB : A .seg (by8 (S.set R y)) 0 S.length = by8 (S.set R y) := by
          have := seg8 hA (S.set R y)
          rw [List.length_set] at this
          exact this
        have hRb : 0 ≤ RI ∧ RI < 9223372036854775807 := by omega
        have hSb : SL < 9223372036854775807 := by omega
        rw [← hxI]
        clear h1 h7 h9 h14 ha hc hm hcs hsm hs hf hbb hbl hsb h16 hS hSR hy hy8 hc0 hc1 hU hRU
        obtain ⟨mk, fr, to, ack, base, seen, live, floor⟩ := m
        dsimp only [msF] at *
        generalize vec ack = va at *
        generalize vec base = vb at *
        generalize vec seen = vs at *
        generalize vec floor = vf at *
        generalize eWs live = lw at *
        generalize exs (argX l) = xs at *
        generalize by8 (S.set R y) = s2 at *
        generalize by8 S = ss at *
        generalize hsn : S.length = sn' at *
        apply wpV_seq; refine wpV_ofH (by ((try (conv => lhs; cbv)); (exact rfl))) ?_
        apply wpV_seq; refine wpV_ofH (by ((try (conv => lhs; cbv)); (repeat ((first | (rewrite [q7])); (try (conv => lhs; cbv)))); (exact rfl))) ?_
        apply wpV_seq; refine wpV_ofH (by ((try (conv => lhs; cbv)); (repeat ((first | (rewrite [q9])); (try (conv => lhs; cbv)))); (exact rfl))) ?_
        apply wpV_seq; refine wpV_ofH (by ((try (conv => lhs; cbv)); (repeat ((first | (rewrite [on]) | (rewrite [K.eqF]; rotate_left; focus ((try simp only [K.df, X.df, V.df, true_and, and_true]) <;> omega)) | (rewrite [K.neF]; rotate_left; focus ((try simp only [K.df, X.df, V.df, true_and, and_true]) <;> omega))); (try (conv => lhs; cbv)))); (exact rfl))) ?_
        apply wpV_seq; refine wpV_ofH (by ((try (conv => lhs; cbv)); (repeat ((first | (rewrite [u1]) | (rewrite [on]) | (rewrite [u2]) | (rewrite [ati]) | (rewrite [gg]) | (rewrite [xr]) | (rewrite [ss']) | (rewrite [K.ckI]; rotate_left; focus ((try simp only [K.df, X.df, V.df, true_and, and_true]) <;> omega)) | (rewrite [K.ckU]; rotate_left; focus ((try simp only [K.df, X.df, V.df, true_and, and_true]) <;> omega)) | (rewrite [K.nz]; rotate_left; focus ((try simp only [K.df, X.df, V.df, true_and, and_true]) <;> omega))); (try (conv => lhs; cbv)))); (exact rfl))) ?_
        apply wpV_seq; refine wpV_ofH (by ((try (conv => lhs; cbv)); (repeat ((first | (rewrite [sB]) | (rewrite [q16])); (try (conv => lhs; cbv)))); (exact rfl))) ?_
        refine wpV_ofH (by ((try (conv => lhs; cbv)); (repeat ((first | (rewrite [q14]) | (rewrite [q8]) | (rewrite [K.eqT]; rotate_left; focus ((try simp only [K.df, X.df, V.df, true_and, and_true]) <;> omega))); (try (conv => lhs; cbv)))); (exact rfl))) ?_
        (show finV _ _ _ = some _; ((try (conv => lhs; cbv)); (try (with_reducible rfl))); (try rfl))
    · obtain ⟨k9, h9⟩ := n9bad m (argX l) h1 hc
      obtain ⟨n, hn⟩ : ∃ n, n = ka + k9 + 8000 := ⟨_, rfl⟩
      refine ⟨n + 1, playN n rfl rfl (fun A call hA hcall => ?_) (n + 1) (Nat.le_refl _)⟩
      obtain ⟨pl, mi, ml, nt, tn, ad, sb, K⟩ := kit hA
      obtain ⟨EX, ix, sn, ll, cc, sg, X⟩ := lkit hA K zeroX exI 96
      obtain ⟨W, gx, st', V⟩ := rkit hA
      have q7 := h7 n (by omega)
      have q8 := ha n (by omega)
      have q9 := h9 false 8 false 6 (.inl rfl) (.inl rfl) n (by omega)
      have l0 : A .len [] = 0 := by rw [hA]; rfl
      rw [← hcall] at q7 q8 q9
      clear h1 h7 h9 ha
      generalize chkM m (argX l) = c at *
      obtain ⟨mk, fr, to, ack, base, seen, live, floor⟩ := m
      dsimp only [msF] at *
      generalize vec ack = va at *
      generalize vec base = vb at *
      generalize vec seen = vs at *
      generalize vec floor = vf at *
      generalize eWs live = lw at *
      generalize exs (argX l) = xs at *
      generalize (x : Int) = xI at *
      refine wpV_ofH (by ((try (conv => lhs; cbv)); (repeat ((first | (rewrite [q7]) | (rewrite [q9]) | (rewrite [q8]) | (rewrite [K.neT]; rotate_left; focus ((try simp only [K.df, X.df, V.df, true_and, and_true]) <;> omega))); (try (conv => lhs; cbv)))); (exact rfl))) ?_
      (show finV _ _ _ = some _; ((try (conv => lhs; cbv)); (try (with_reducible rfl))); (try rfl))
theorem lawT : ∀ xss, TyA [msgSh, iSh, Sh.int .u8] xss → ∃ n, play real (lookT tab) (fun _ => clonePr clones) n 6 (argsF [msgSh, iSh, Sh.int .u8] xss) [] = some (.one (.iv (.bool true)), []) := by
  intro xss h
  rcases xss with _ | ⟨a, _ | ⟨b, _ | ⟨c, _ | ⟨d, r⟩⟩⟩⟩
  · exact h.elim
  · exact h.2.elim
  · exact h.2.2.elim
  · obtain ⟨h1, ⟨at', rfl, _⟩, ⟨xv, rfl, hxw⟩, _⟩ := h
    obtain ⟨y1, z1, rfl, ⟨k, rfl, _⟩, ⟨y2, z2, rfl, ⟨fr, rfl, _⟩, ⟨y3, z3, rfl, ⟨to, rfl, _⟩, ⟨y4, z4, rfl, ha, ⟨y5, z5, rfl, hb, ⟨y6, z6, rfl, ⟨es, rfl, _, he⟩, ⟨y7, z7, rfl, hst, ⟨y8, z8, rfl, hf, rfl⟩⟩⟩⟩⟩⟩⟩⟩ := h1
    obtain ⟨ack, rfl, la⟩ := ty_vec ha
    obtain ⟨base, rfl, lb⟩ := ty_vec hb
    obtain ⟨seen, live, rfl, ls, hw⟩ := ty_state hst
    obtain ⟨floor, rfl, lf⟩ := ty_vec hf
    obtain ⟨l, rfl, hd⟩ := ty_evs he
    have h2 : 0 ≤ xv ∧ xv < 256 := by
      simp [Lit.wf, IntKind.min, IntKind.max, IntKind.signed, IntKind.bits] at hxw
      omega
    have := lawT6 ⟨k, fr, to, ack, base, seen, live, floor⟩ l at' xv.toNat (by omega) la lb ls lf hd hw
    rw [Int.toNat_of_nonneg h2.1] at this
    exact this
  · exact h.2.2.2.elim
end Go.Proofs.Ytlljgefgbglmbaa
