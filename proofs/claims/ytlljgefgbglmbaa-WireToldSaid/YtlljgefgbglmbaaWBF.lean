/- A message's own bytes are read: gone through. Printed by wbgen.py. -/
import Derived.Test.YtlljgefgbglmbaaWBE
set_option linter.unusedSimpArgs false
set_option linter.unusedVariables false
set_option maxRecDepth 100000
set_option maxHeartbeats 40000000
set_option cbv.maxSteps 10000000
namespace Go.Proofs.Ytlljgefgbglmbaa
open Go GoV

theorem n16_1 (m : Msg) (l : List Ev) (h : MsgOK m (okL l)) (hl : l.length ≤ 1000) (hcs : ∀ e, e ∈ l → chk e = 0) (hc : chkM m (okL l) = 0) (hk : m.k = 1) : ∃ k, ∀ t, Pn k 16 [.one (.iv (.sl t 1 (by8 (sealB (bodyB m l)))))] []
    (.tup [(true, [.iv (.int .i64 1), .iv (.int .i64 m.fr), .iv (.int .i64 m.to), .iv (.arr 64 (vec m.ack)), .iv (.arr 64 [IV.int IntKind.i64 0, IV.int IntKind.i64 0, IV.int IntKind.i64 0, IV.int IntKind.i64 0, IV.int IntKind.i64 0, IV.int IntKind.i64 0, IV.int IntKind.i64 0, IV.int IntKind.i64 0, IV.int IntKind.i64 0, IV.int IntKind.i64 0, IV.int IntKind.i64 0, IV.int IntKind.i64 0, IV.int IntKind.i64 0, IV.int IntKind.i64 0, IV.int IntKind.i64 0, IV.int IntKind.i64 0, IV.int IntKind.i64 0, IV.int IntKind.i64 0, IV.int IntKind.i64 0, IV.int IntKind.i64 0, IV.int IntKind.i64 0, IV.int IntKind.i64 0, IV.int IntKind.i64 0, IV.int IntKind.i64 0, IV.int IntKind.i64 0, IV.int IntKind.i64 0, IV.int IntKind.i64 0, IV.int IntKind.i64 0, IV.int IntKind.i64 0, IV.int IntKind.i64 0, IV.int IntKind.i64 0, IV.int IntKind.i64 0, IV.int IntKind.i64 0, IV.int IntKind.i64 0, IV.int IntKind.i64 0, IV.int IntKind.i64 0, IV.int IntKind.i64 0, IV.int IntKind.i64 0, IV.int IntKind.i64 0, IV.int IntKind.i64 0, IV.int IntKind.i64 0, IV.int IntKind.i64 0, IV.int IntKind.i64 0, IV.int IntKind.i64 0, IV.int IntKind.i64 0, IV.int IntKind.i64 0, IV.int IntKind.i64 0, IV.int IntKind.i64 0, IV.int IntKind.i64 0, IV.int IntKind.i64 0, IV.int IntKind.i64 0, IV.int IntKind.i64 0, IV.int IntKind.i64 0, IV.int IntKind.i64 0, IV.int IntKind.i64 0, IV.int IntKind.i64 0, IV.int IntKind.i64 0, IV.int IntKind.i64 0, IV.int IntKind.i64 0, IV.int IntKind.i64 0, IV.int IntKind.i64 0, IV.int IntKind.i64 0, IV.int IntKind.i64 0, IV.int IntKind.i64 0]), .iv (.sl true 0 []), .iv (.arr 64 [IV.int IntKind.i64 0, IV.int IntKind.i64 0, IV.int IntKind.i64 0, IV.int IntKind.i64 0, IV.int IntKind.i64 0, IV.int IntKind.i64 0, IV.int IntKind.i64 0, IV.int IntKind.i64 0, IV.int IntKind.i64 0, IV.int IntKind.i64 0, IV.int IntKind.i64 0, IV.int IntKind.i64 0, IV.int IntKind.i64 0, IV.int IntKind.i64 0, IV.int IntKind.i64 0, IV.int IntKind.i64 0, IV.int IntKind.i64 0, IV.int IntKind.i64 0, IV.int IntKind.i64 0, IV.int IntKind.i64 0, IV.int IntKind.i64 0, IV.int IntKind.i64 0, IV.int IntKind.i64 0, IV.int IntKind.i64 0, IV.int IntKind.i64 0, IV.int IntKind.i64 0, IV.int IntKind.i64 0, IV.int IntKind.i64 0, IV.int IntKind.i64 0, IV.int IntKind.i64 0, IV.int IntKind.i64 0, IV.int IntKind.i64 0, IV.int IntKind.i64 0, IV.int IntKind.i64 0, IV.int IntKind.i64 0, IV.int IntKind.i64 0, IV.int IntKind.i64 0, IV.int IntKind.i64 0, IV.int IntKind.i64 0, IV.int IntKind.i64 0, IV.int IntKind.i64 0, IV.int IntKind.i64 0, IV.int IntKind.i64 0, IV.int IntKind.i64 0, IV.int IntKind.i64 0, IV.int IntKind.i64 0, IV.int IntKind.i64 0, IV.int IntKind.i64 0, IV.int IntKind.i64 0, IV.int IntKind.i64 0, IV.int IntKind.i64 0, IV.int IntKind.i64 0, IV.int IntKind.i64 0, IV.int IntKind.i64 0, IV.int IntKind.i64 0, IV.int IntKind.i64 0, IV.int IntKind.i64 0, IV.int IntKind.i64 0, IV.int IntKind.i64 0, IV.int IntKind.i64 0, IV.int IntKind.i64 0, IV.int IntKind.i64 0, IV.int IntKind.i64 0, IV.int IntKind.i64 0]), .iv (.sl true 0 []), .iv (.arr 64 [IV.int IntKind.i64 0, IV.int IntKind.i64 0, IV.int IntKind.i64 0, IV.int IntKind.i64 0, IV.int IntKind.i64 0, IV.int IntKind.i64 0, IV.int IntKind.i64 0, IV.int IntKind.i64 0, IV.int IntKind.i64 0, IV.int IntKind.i64 0, IV.int IntKind.i64 0, IV.int IntKind.i64 0, IV.int IntKind.i64 0, IV.int IntKind.i64 0, IV.int IntKind.i64 0, IV.int IntKind.i64 0, IV.int IntKind.i64 0, IV.int IntKind.i64 0, IV.int IntKind.i64 0, IV.int IntKind.i64 0, IV.int IntKind.i64 0, IV.int IntKind.i64 0, IV.int IntKind.i64 0, IV.int IntKind.i64 0, IV.int IntKind.i64 0, IV.int IntKind.i64 0, IV.int IntKind.i64 0, IV.int IntKind.i64 0, IV.int IntKind.i64 0, IV.int IntKind.i64 0, IV.int IntKind.i64 0, IV.int IntKind.i64 0, IV.int IntKind.i64 0, IV.int IntKind.i64 0, IV.int IntKind.i64 0, IV.int IntKind.i64 0, IV.int IntKind.i64 0, IV.int IntKind.i64 0, IV.int IntKind.i64 0, IV.int IntKind.i64 0, IV.int IntKind.i64 0, IV.int IntKind.i64 0, IV.int IntKind.i64 0, IV.int IntKind.i64 0, IV.int IntKind.i64 0, IV.int IntKind.i64 0, IV.int IntKind.i64 0, IV.int IntKind.i64 0, IV.int IntKind.i64 0, IV.int IntKind.i64 0, IV.int IntKind.i64 0, IV.int IntKind.i64 0, IV.int IntKind.i64 0, IV.int IntKind.i64 0, IV.int IntKind.i64 0, IV.int IntKind.i64 0, IV.int IntKind.i64 0, IV.int IntKind.i64 0, IV.int IntKind.i64 0, IV.int IntKind.i64 0, IV.int IntKind.i64 0, IV.int IntKind.i64 0, IV.int IntKind.i64 0, IV.int IntKind.i64 0])]), (false, [.iv (.int .i64 0)])]) [] := by
  obtain ⟨f1, f2, f3, f4, f5, ga, gb, gf⟩ := chkM_0 hc
  have hbb := body_b m l hl hcs hc
  have hbl := body_len m l hc hl
  have hop := open_seal (bodyB m l)
  have sb8 : ∀ b, b ∈ sealB (bodyB m l) → b < 256 := seal_b hbb
  have sbl : (sealB (bodyB m l)).length ≤ 211106232532992 := by unfold sealB hd4; rw [List.length_append]; simp only [List.length_cons, List.length_nil]; omega
  obtain ⟨ko, hko⟩ := n42 _ sb8 true sbl
  obtain ⟨ko2, hko2⟩ := n42 _ sb8 false sbl
  rw [hop] at hko hko2
  obtain ⟨kc, hkc⟩ := n12 m (okL l) h
  generalize hbs : bodyB m l = bs at *
  have e0 : bs = enc 1 ++ (enc m.fr.toNat ++ (enc m.to.toNat ++ (putB m.ack ++ ([] : List Nat)))) := by
    rw [← hbs]; unfold bodyB; rw [hk]; simp [List.append_assoc]
  have d0 : bs.drop 0 = enc 1 ++ (enc m.fr.toNat ++ (enc m.to.toNat ++ (putB m.ack ++ ([] : List Nat)))) := by rw [List.drop_zero]; exact e0
  have q1 := numS_enc (most := 3) (f := false) d0 (by omega) (by omega)
  have d1 := drop_enc d0
  have q2 := numS_enc (most := 63) (f := true) d1 (by omega) (by omega)
  have d2 := drop_enc d1
  have q3 := numS_enc (most := 63) (f := true) d2 (by omega) (by omega)
  have d3 := drop_enc d2
  obtain ⟨q4, d4⟩ := vecS_enc (f := true) h.la ga d3
  rw [← e0] at q1
  have hlen := congrArg List.length e0
  simp only [List.length_append] at hlen
  refine ⟨ko + ko2 + kc + 2001, fun t => playN (ko + ko2 + kc + 2000) rfl rfl fun A call hA hcall => ?_⟩
  obtain ⟨N, hN⟩ : ∃ N, N = ko + ko2 + kc + 2000 := ⟨_, rfl⟩
  obtain ⟨pl, mi, ml, nt, tn, ad, sb, K⟩ := kit hA
  obtain ⟨EX, ix, sn, ll, cc, sg, X⟩ := lkit hA K zeroX exI 96
  obtain ⟨W, gx, st', V⟩ := rkit hA
  rw [← hN] at hcall ⊢
  have k42 : call 42 [.one (.iv (.sl t 1 (by8 (sealB bs))))] [] = some (.tup [(false, [.slo 0 0 bs.length]), (false, [.iv (.int .i64 0)])], [.arr false false 1 (by8 bs)]) := by
    rw [hcall]; cases t
    · exact hko2 N (by omega)
    · exact hko N (by omega)
  have k43 : ∀ t, call 43 [.one (.iv (.sl t 1 (by8 bs)))] [] = some (rp, rd (by8 bs) 0 bs.length false) := fun t => by
    rw [hcall]
    have := n43 (by8 bs) t 1 (.inr rfl) (by rw [by8_len]; omega) N (by omega)
    rw [by8_len] at this
    exact this
  have k1 := n44 bs hbb 3 (.ok false 0 bs.length) (by show 0 + bs.length = bs.length; omega) N (by omega)
  rw [q1, ← hcall] at k1
  rw [show ((1 : Nat) : Int) = 1 from rfl] at k1
  have k2 := n44 bs hbb 63 (.ok true _ (enc m.fr.toNat ++ (enc m.to.toNat ++ (putB m.ack ++ ([] : List Nat)))).length) (show 0 + (enc 1).length + _ = bs.length by simp only [List.length_append]; omega) N (by omega)
  rw [q2, ← hcall] at k2
  have k3 := n44 bs hbb 63 (.ok true _ (enc m.to.toNat ++ (putB m.ack ++ ([] : List Nat))).length) (show 0 + (enc 1).length + (enc m.fr.toNat).length + _ = bs.length by simp only [List.length_append]; omega) N (by omega)
  rw [q3, ← hcall] at k3
  have k4 := n45 bs hbb true _ (putB m.ack ++ ([] : List Nat)).length (show 0 + (enc 1).length + (enc m.fr.toNat).length + (enc m.to.toNat).length + _ = bs.length by simp only [List.length_append]; omega) N (by omega)
  rw [q4, ← hcall] at k4
  rw [Int.toNat_of_nonneg (by omega)] at k2 k3
  have sg1 := seg8 hA bs
  obtain ⟨z1, z2, z3, z4, z5⟩ := chkM_1 hc hk
  have hl0 : l = [] := by
    cases l with
    | nil => rfl
    | cons a r => simp [okL] at z1
  subst hl0
  have k12 : call 12 [msF true 0 true 0 m (okL [])] [] = some (i64 (chkM m (okL [])), []) := by rw [hcall]; exact hkc true 0 true 0 (.inr ⟨rfl, rfl⟩) (.inr ⟨rfl, z4⟩) N (by omega)
  rw [hc] at k12
  have zr : vec zeros = [IV.int IntKind.i64 0, IV.int IntKind.i64 0, IV.int IntKind.i64 0, IV.int IntKind.i64 0, IV.int IntKind.i64 0, IV.int IntKind.i64 0, IV.int IntKind.i64 0, IV.int IntKind.i64 0, IV.int IntKind.i64 0, IV.int IntKind.i64 0, IV.int IntKind.i64 0, IV.int IntKind.i64 0, IV.int IntKind.i64 0, IV.int IntKind.i64 0, IV.int IntKind.i64 0, IV.int IntKind.i64 0, IV.int IntKind.i64 0, IV.int IntKind.i64 0, IV.int IntKind.i64 0, IV.int IntKind.i64 0, IV.int IntKind.i64 0, IV.int IntKind.i64 0, IV.int IntKind.i64 0, IV.int IntKind.i64 0, IV.int IntKind.i64 0, IV.int IntKind.i64 0, IV.int IntKind.i64 0, IV.int IntKind.i64 0, IV.int IntKind.i64 0, IV.int IntKind.i64 0, IV.int IntKind.i64 0, IV.int IntKind.i64 0, IV.int IntKind.i64 0, IV.int IntKind.i64 0, IV.int IntKind.i64 0, IV.int IntKind.i64 0, IV.int IntKind.i64 0, IV.int IntKind.i64 0, IV.int IntKind.i64 0, IV.int IntKind.i64 0, IV.int IntKind.i64 0, IV.int IntKind.i64 0, IV.int IntKind.i64 0, IV.int IntKind.i64 0, IV.int IntKind.i64 0, IV.int IntKind.i64 0, IV.int IntKind.i64 0, IV.int IntKind.i64 0, IV.int IntKind.i64 0, IV.int IntKind.i64 0, IV.int IntKind.i64 0, IV.int IntKind.i64 0, IV.int IntKind.i64 0, IV.int IntKind.i64 0, IV.int IntKind.i64 0, IV.int IntKind.i64 0, IV.int IntKind.i64 0, IV.int IntKind.i64 0, IV.int IntKind.i64 0, IV.int IntKind.i64 0, IV.int IntKind.i64 0, IV.int IntKind.i64 0, IV.int IntKind.i64 0, IV.int IntKind.i64 0] := rfl
  have k49 : ∀ o, call 49 [rp] (rdS true (by8 bs) (.ok true o 0)) = some (i64 0, rdS true (by8 bs) (.ok true o 0)) := fun o => by
    rw [hcall]; exact n49 (by8 bs) true o 0 N (by omega)
  clear hko hko2 hkc hbb sb8 q1 q2 q3 q4 d0 d1 d2 d3 d4 e0 hlen hop h hcs
  obtain ⟨mk, fr, to, ack, base, seen, live, floor⟩ := m
  dsimp only at *
  subst hk
  subst z2 z3 z4 z5
  simp only [msF, show exs (okL []) = [] from rfl, show eWs [] = [] from rfl] at k12 ⊢
  generalize 0 + (enc 1).length = p1 at *
  generalize p1 + (enc fr.toNat).length = p2 at *
  generalize p2 + (enc to.toNat).length = p3 at *
  generalize p3 + (putB ack).length = p4 at *
  generalize (enc fr.toNat ++ (enc to.toNat ++ (putB ack ++ ([] : List Nat)))).length = r1 at *
  generalize (enc to.toNat ++ (putB ack ++ ([] : List Nat))).length = r2 at *
  generalize (putB ack ++ ([] : List Nat)).length = r3 at *
  rw [zr] at k12
  generalize bs.length = bn at *
  dsimp only [rd, rdS, cond_true, vecF, RS.isOk, List.cons_append, List.nil_append, List.append_nil, List.length_nil] at *
  generalize by8 (sealB bs) = xs at *
  generalize by8 bs = es at *
  generalize vec ack = va at *
  apply wpV_seq; refine wpV_ofH (by ((try (conv => lhs; cbv)); (exact rfl))) ?_
  apply wpV_seq; refine wpV_ofH (by ((try (conv => lhs; cbv)); (repeat ((first | (rewrite [k42])); (try (conv => lhs; cbv)))); (exact rfl))) ?_
  apply wpV_seq; refine wpV_ofH (by ((try (conv => lhs; cbv)); (repeat ((first | (rewrite [K.neF]; rotate_left; focus ((try simp only [K.df, X.df, V.df, true_and, and_true]) <;> omega))); (try (conv => lhs; cbv)))); (exact rfl))) ?_
  apply wpV_seq; refine wpV_ofH (by ((try (conv => lhs; cbv)); (repeat ((first | (rewrite [sg1]) | (rewrite [k43])); (try (conv => lhs; cbv)))); (exact rfl))) ?_
  apply wpV_seq; refine wpV_ofH (by ((try (conv => lhs; cbv)); (repeat ((first | (rewrite [k1])); (try (conv => lhs; cbv)))); (exact rfl))) ?_
  apply wpV_seq; refine wpV_ofH (by ((try (conv => lhs; cbv)); (repeat ((first | (rewrite [k2])); (try (conv => lhs; cbv)))); (exact rfl))) ?_
  apply wpV_seq; refine wpV_ofH (by ((try (conv => lhs; cbv)); (repeat ((first | (rewrite [k3])); (try (conv => lhs; cbv)))); (exact rfl))) ?_
  apply wpV_seq; refine wpV_ofH (by ((try (conv => lhs; cbv)); (repeat ((first | (rewrite [k4])); (try (conv => lhs; cbv)))); (exact rfl))) ?_
  refine wpV_ofH (by ((try (conv => lhs; cbv)); (repeat ((first | (rewrite [k49]) | (rewrite [k12]) | (rewrite [K.eqF]; rotate_left; focus ((try simp only [K.df, X.df, V.df, true_and, and_true]) <;> omega)) | (rewrite [K.neF]; rotate_left; focus ((try simp only [K.df, X.df, V.df, true_and, and_true]) <;> omega))); (try (conv => lhs; cbv)))); (exact rfl))) ?_
  (show finV _ _ _ = some _; ((try (conv => lhs; cbv)); (try (with_reducible rfl))); (try rfl))
theorem n16_2 (m : Msg) (l : List Ev) (h : MsgOK m (okL l)) (hl : l.length ≤ 1000) (hcs : ∀ e, e ∈ l → chk e = 0) (hc : chkM m (okL l) = 0) (hk : m.k = 2) : ∃ k, ∀ t, Pn k 16 [.one (.iv (.sl t 1 (by8 (sealB (bodyB m l)))))] []
    (.tup [(true, [.iv (.int .i64 2), .iv (.int .i64 m.fr), .iv (.int .i64 m.to), .iv (.arr 64 (vec m.ack)), .iv (.arr 64 (vec m.base)), .slo 0 0 l.length, .iv (.arr 64 [IV.int IntKind.i64 0, IV.int IntKind.i64 0, IV.int IntKind.i64 0, IV.int IntKind.i64 0, IV.int IntKind.i64 0, IV.int IntKind.i64 0, IV.int IntKind.i64 0, IV.int IntKind.i64 0, IV.int IntKind.i64 0, IV.int IntKind.i64 0, IV.int IntKind.i64 0, IV.int IntKind.i64 0, IV.int IntKind.i64 0, IV.int IntKind.i64 0, IV.int IntKind.i64 0, IV.int IntKind.i64 0, IV.int IntKind.i64 0, IV.int IntKind.i64 0, IV.int IntKind.i64 0, IV.int IntKind.i64 0, IV.int IntKind.i64 0, IV.int IntKind.i64 0, IV.int IntKind.i64 0, IV.int IntKind.i64 0, IV.int IntKind.i64 0, IV.int IntKind.i64 0, IV.int IntKind.i64 0, IV.int IntKind.i64 0, IV.int IntKind.i64 0, IV.int IntKind.i64 0, IV.int IntKind.i64 0, IV.int IntKind.i64 0, IV.int IntKind.i64 0, IV.int IntKind.i64 0, IV.int IntKind.i64 0, IV.int IntKind.i64 0, IV.int IntKind.i64 0, IV.int IntKind.i64 0, IV.int IntKind.i64 0, IV.int IntKind.i64 0, IV.int IntKind.i64 0, IV.int IntKind.i64 0, IV.int IntKind.i64 0, IV.int IntKind.i64 0, IV.int IntKind.i64 0, IV.int IntKind.i64 0, IV.int IntKind.i64 0, IV.int IntKind.i64 0, IV.int IntKind.i64 0, IV.int IntKind.i64 0, IV.int IntKind.i64 0, IV.int IntKind.i64 0, IV.int IntKind.i64 0, IV.int IntKind.i64 0, IV.int IntKind.i64 0, IV.int IntKind.i64 0, IV.int IntKind.i64 0, IV.int IntKind.i64 0, IV.int IntKind.i64 0, IV.int IntKind.i64 0, IV.int IntKind.i64 0, IV.int IntKind.i64 0, IV.int IntKind.i64 0, IV.int IntKind.i64 0]), .iv (.sl true 0 []), .iv (.arr 64 [IV.int IntKind.i64 0, IV.int IntKind.i64 0, IV.int IntKind.i64 0, IV.int IntKind.i64 0, IV.int IntKind.i64 0, IV.int IntKind.i64 0, IV.int IntKind.i64 0, IV.int IntKind.i64 0, IV.int IntKind.i64 0, IV.int IntKind.i64 0, IV.int IntKind.i64 0, IV.int IntKind.i64 0, IV.int IntKind.i64 0, IV.int IntKind.i64 0, IV.int IntKind.i64 0, IV.int IntKind.i64 0, IV.int IntKind.i64 0, IV.int IntKind.i64 0, IV.int IntKind.i64 0, IV.int IntKind.i64 0, IV.int IntKind.i64 0, IV.int IntKind.i64 0, IV.int IntKind.i64 0, IV.int IntKind.i64 0, IV.int IntKind.i64 0, IV.int IntKind.i64 0, IV.int IntKind.i64 0, IV.int IntKind.i64 0, IV.int IntKind.i64 0, IV.int IntKind.i64 0, IV.int IntKind.i64 0, IV.int IntKind.i64 0, IV.int IntKind.i64 0, IV.int IntKind.i64 0, IV.int IntKind.i64 0, IV.int IntKind.i64 0, IV.int IntKind.i64 0, IV.int IntKind.i64 0, IV.int IntKind.i64 0, IV.int IntKind.i64 0, IV.int IntKind.i64 0, IV.int IntKind.i64 0, IV.int IntKind.i64 0, IV.int IntKind.i64 0, IV.int IntKind.i64 0, IV.int IntKind.i64 0, IV.int IntKind.i64 0, IV.int IntKind.i64 0, IV.int IntKind.i64 0, IV.int IntKind.i64 0, IV.int IntKind.i64 0, IV.int IntKind.i64 0, IV.int IntKind.i64 0, IV.int IntKind.i64 0, IV.int IntKind.i64 0, IV.int IntKind.i64 0, IV.int IntKind.i64 0, IV.int IntKind.i64 0, IV.int IntKind.i64 0, IV.int IntKind.i64 0, IV.int IntKind.i64 0, IV.int IntKind.i64 0, IV.int IntKind.i64 0, IV.int IntKind.i64 0])]), (false, [.iv (.int .i64 0)])]) [.arr false false 8 (exs (okL l))] := by
  obtain ⟨f1, f2, f3, f4, f5, ga, gb, gf⟩ := chkM_0 hc
  have hbb := body_b m l hl hcs hc
  have hbl := body_len m l hc hl
  have hop := open_seal (bodyB m l)
  have sb8 : ∀ b, b ∈ sealB (bodyB m l) → b < 256 := seal_b hbb
  have sbl : (sealB (bodyB m l)).length ≤ 211106232532992 := by unfold sealB hd4; rw [List.length_append]; simp only [List.length_cons, List.length_nil]; omega
  obtain ⟨ko, hko⟩ := n42 _ sb8 true sbl
  obtain ⟨ko2, hko2⟩ := n42 _ sb8 false sbl
  rw [hop] at hko hko2
  obtain ⟨kc, hkc⟩ := n12 m (okL l) h
  generalize hbs : bodyB m l = bs at *
  have e0 : bs = enc 2 ++ (enc m.fr.toNat ++ (enc m.to.toNat ++ (putB m.ack ++ (putB m.base ++ (evsA l ++ []))))) := by
    rw [← hbs]; unfold bodyB; rw [hk]; simp [List.append_assoc]
  have d0 : bs.drop 0 = enc 2 ++ (enc m.fr.toNat ++ (enc m.to.toNat ++ (putB m.ack ++ (putB m.base ++ (evsA l ++ []))))) := by rw [List.drop_zero]; exact e0
  have q1 := numS_enc (most := 3) (f := false) d0 (by omega) (by omega)
  have d1 := drop_enc d0
  have q2 := numS_enc (most := 63) (f := true) d1 (by omega) (by omega)
  have d2 := drop_enc d1
  have q3 := numS_enc (most := 63) (f := true) d2 (by omega) (by omega)
  have d3 := drop_enc d2
  obtain ⟨q4, d4⟩ := vecS_enc (f := true) h.la ga d3
  rw [← e0] at q1
  have hlen := congrArg List.length e0
  simp only [List.length_append] at hlen
  obtain ⟨q5, d5⟩ := vecS_enc (f := true) h.lb gb d4
  obtain ⟨ke, hke⟩ := n46ok bs [] hbb (by omega) 1024 true _ l (by omega) (by omega) hcs d5 (by simp only [List.length_append]; omega)
  refine ⟨ko + ko2 + kc + ke + 2001, fun t => playN (ko + ko2 + kc + ke + 2000) rfl rfl fun A call hA hcall => ?_⟩
  obtain ⟨N, hN⟩ : ∃ N, N = ko + ko2 + kc + ke + 2000 := ⟨_, rfl⟩
  obtain ⟨pl, mi, ml, nt, tn, ad, sb, K⟩ := kit hA
  obtain ⟨EX, ix, sn, ll, cc, sg, X⟩ := lkit hA K zeroX exI 96
  obtain ⟨W, gx, st', V⟩ := rkit hA
  rw [← hN] at hcall ⊢
  have k42 : call 42 [.one (.iv (.sl t 1 (by8 (sealB bs))))] [] = some (.tup [(false, [.slo 0 0 bs.length]), (false, [.iv (.int .i64 0)])], [.arr false false 1 (by8 bs)]) := by
    rw [hcall]; cases t
    · exact hko2 N (by omega)
    · exact hko N (by omega)
  have k43 : ∀ t, call 43 [.one (.iv (.sl t 1 (by8 bs)))] [] = some (rp, rd (by8 bs) 0 bs.length false) := fun t => by
    rw [hcall]
    have := n43 (by8 bs) t 1 (.inr rfl) (by rw [by8_len]; omega) N (by omega)
    rw [by8_len] at this
    exact this
  have k1 := n44 bs hbb 3 (.ok false 0 bs.length) (by show 0 + bs.length = bs.length; omega) N (by omega)
  rw [q1, ← hcall] at k1
  rw [show ((2 : Nat) : Int) = 2 from rfl] at k1
  have k2 := n44 bs hbb 63 (.ok true _ (enc m.fr.toNat ++ (enc m.to.toNat ++ (putB m.ack ++ (putB m.base ++ (evsA l ++ []))))).length) (show 0 + (enc 2).length + _ = bs.length by simp only [List.length_append]; omega) N (by omega)
  rw [q2, ← hcall] at k2
  have k3 := n44 bs hbb 63 (.ok true _ (enc m.to.toNat ++ (putB m.ack ++ (putB m.base ++ (evsA l ++ [])))).length) (show 0 + (enc 2).length + (enc m.fr.toNat).length + _ = bs.length by simp only [List.length_append]; omega) N (by omega)
  rw [q3, ← hcall] at k3
  have k4 := n45 bs hbb true _ (putB m.ack ++ (putB m.base ++ (evsA l ++ []))).length (show 0 + (enc 2).length + (enc m.fr.toNat).length + (enc m.to.toNat).length + _ = bs.length by simp only [List.length_append]; omega) N (by omega)
  rw [q4, ← hcall] at k4
  rw [Int.toNat_of_nonneg (by omega)] at k2 k3
  have sg1 := seg8 hA bs
  have k5 := n45 bs hbb true _ (putB m.base ++ (evsA l ++ [])).length (show 0 + (enc 2).length + (enc m.fr.toNat).length + (enc m.to.toNat).length + (putB m.ack).length + _ = bs.length by simp only [List.length_append]; omega) N (by omega)
  rw [q5, ← hcall] at k5
  have k6 := hke N (by omega)
  rw [← hcall] at k6
  obtain ⟨z3, z4, z5⟩ := chkM_2 hc hk
  have k12 : ∀ b, call 12 [msF b 8 true 0 m (okL l)] [] = some (i64 (chkM m (okL l)), []) := fun b => by rw [hcall]; exact hkc b 8 true 0 (.inl rfl) (.inr ⟨rfl, z4⟩) N (by omega)
  rw [hc] at k12
  have zr : vec zeros = [IV.int IntKind.i64 0, IV.int IntKind.i64 0, IV.int IntKind.i64 0, IV.int IntKind.i64 0, IV.int IntKind.i64 0, IV.int IntKind.i64 0, IV.int IntKind.i64 0, IV.int IntKind.i64 0, IV.int IntKind.i64 0, IV.int IntKind.i64 0, IV.int IntKind.i64 0, IV.int IntKind.i64 0, IV.int IntKind.i64 0, IV.int IntKind.i64 0, IV.int IntKind.i64 0, IV.int IntKind.i64 0, IV.int IntKind.i64 0, IV.int IntKind.i64 0, IV.int IntKind.i64 0, IV.int IntKind.i64 0, IV.int IntKind.i64 0, IV.int IntKind.i64 0, IV.int IntKind.i64 0, IV.int IntKind.i64 0, IV.int IntKind.i64 0, IV.int IntKind.i64 0, IV.int IntKind.i64 0, IV.int IntKind.i64 0, IV.int IntKind.i64 0, IV.int IntKind.i64 0, IV.int IntKind.i64 0, IV.int IntKind.i64 0, IV.int IntKind.i64 0, IV.int IntKind.i64 0, IV.int IntKind.i64 0, IV.int IntKind.i64 0, IV.int IntKind.i64 0, IV.int IntKind.i64 0, IV.int IntKind.i64 0, IV.int IntKind.i64 0, IV.int IntKind.i64 0, IV.int IntKind.i64 0, IV.int IntKind.i64 0, IV.int IntKind.i64 0, IV.int IntKind.i64 0, IV.int IntKind.i64 0, IV.int IntKind.i64 0, IV.int IntKind.i64 0, IV.int IntKind.i64 0, IV.int IntKind.i64 0, IV.int IntKind.i64 0, IV.int IntKind.i64 0, IV.int IntKind.i64 0, IV.int IntKind.i64 0, IV.int IntKind.i64 0, IV.int IntKind.i64 0, IV.int IntKind.i64 0, IV.int IntKind.i64 0, IV.int IntKind.i64 0, IV.int IntKind.i64 0, IV.int IntKind.i64 0, IV.int IntKind.i64 0, IV.int IntKind.i64 0, IV.int IntKind.i64 0] := rfl
  have k49 : ∀ o, call 49 [rp] (rdS true (by8 bs) (.ok true o 0)) = some (i64 0, rdS true (by8 bs) (.ok true o 0)) := fun o => by
    rw [hcall]; exact n49 (by8 bs) true o 0 N (by omega)
  have sg2 : A .seg (exs (okL l)) 0 l.length = exs (okL l) := by
    rw [hA, real_seg]; unfold rSeg; rw [List.drop_zero, List.take_of_length_le (by simp [exs, okL])]
  clear hko hko2 hkc hbb sb8 q1 q2 q3 q4 d0 d1 d2 d3 d4 e0 hlen hop h hcs q5 d5 hke
  obtain ⟨mk, fr, to, ack, base, seen, live, floor⟩ := m
  dsimp only at *
  subst hk
  subst z3 z4 z5
  simp only [msF, show eWs [] = [] from rfl] at k12 ⊢
  generalize 0 + (enc 2).length = p1 at *
  generalize p1 + (enc fr.toNat).length = p2 at *
  generalize p2 + (enc to.toNat).length = p3 at *
  generalize p3 + (putB ack).length = p4 at *
  generalize p4 + (putB base).length = p5 at *
  generalize p5 + (evsA l).length = p6 at *
  generalize (enc fr.toNat ++ (enc to.toNat ++ (putB ack ++ (putB base ++ (evsA l ++ []))))).length = r1 at *
  generalize (enc to.toNat ++ (putB ack ++ (putB base ++ (evsA l ++ [])))).length = r2 at *
  generalize (putB ack ++ (putB base ++ (evsA l ++ []))).length = r3 at *
  generalize (putB base ++ (evsA l ++ [])).length = r4 at *
  generalize (evsA l ++ []).length = r5 at *
  rw [zr] at k12
  generalize bs.length = bn at *
  dsimp only [rd, rdS, cond_true, vecF, RS.isOk, List.cons_append, List.nil_append, List.append_nil, List.length_nil] at *
  generalize by8 (sealB bs) = xs at *
  generalize by8 bs = es at *
  generalize vec ack = va at *
  generalize vec base = vb at *
  generalize exs (okL l) = le at *
  generalize l.length = en at *
  apply wpV_seq; refine wpV_ofH (by ((try (conv => lhs; cbv)); (exact rfl))) ?_
  apply wpV_seq; refine wpV_ofH (by ((try (conv => lhs; cbv)); (repeat ((first | (rewrite [k42])); (try (conv => lhs; cbv)))); (exact rfl))) ?_
  apply wpV_seq; refine wpV_ofH (by ((try (conv => lhs; cbv)); (repeat ((first | (rewrite [K.neF]; rotate_left; focus ((try simp only [K.df, X.df, V.df, true_and, and_true]) <;> omega))); (try (conv => lhs; cbv)))); (exact rfl))) ?_
  apply wpV_seq; refine wpV_ofH (by ((try (conv => lhs; cbv)); (repeat ((first | (rewrite [sg1]) | (rewrite [k43])); (try (conv => lhs; cbv)))); (exact rfl))) ?_
  apply wpV_seq; refine wpV_ofH (by ((try (conv => lhs; cbv)); (repeat ((first | (rewrite [k1])); (try (conv => lhs; cbv)))); (exact rfl))) ?_
  apply wpV_seq; refine wpV_ofH (by ((try (conv => lhs; cbv)); (repeat ((first | (rewrite [k2])); (try (conv => lhs; cbv)))); (exact rfl))) ?_
  apply wpV_seq; refine wpV_ofH (by ((try (conv => lhs; cbv)); (repeat ((first | (rewrite [k3])); (try (conv => lhs; cbv)))); (exact rfl))) ?_
  apply wpV_seq; refine wpV_ofH (by ((try (conv => lhs; cbv)); (repeat ((first | (rewrite [k4])); (try (conv => lhs; cbv)))); (exact rfl))) ?_
  refine wpV_ofH (by ((try (conv => lhs; cbv)); (repeat ((first | (rewrite [k5]) | (rewrite [k6]) | (rewrite [sg2]) | (rewrite [k49]) | (rewrite [k12]) | (rewrite [K.eqT]; rotate_left; focus ((try simp only [K.df, X.df, V.df, true_and, and_true]) <;> omega)) | (rewrite [K.neF]; rotate_left; focus ((try simp only [K.df, X.df, V.df, true_and, and_true]) <;> omega))); (try (conv => lhs; cbv)))); (exact rfl))) ?_
  (show finV _ _ _ = some _; ((try (conv => lhs; cbv)); (try (with_reducible rfl))); (try rfl))
theorem n16_3 (m : Msg) (l : List Ev) (h : MsgOK m (okL l)) (hl : l.length ≤ 1000) (hcs : ∀ e, e ∈ l → chk e = 0) (hc : chkM m (okL l) = 0) (hk : m.k = 3) : ∃ k, ∀ t, Pn k 16 [.one (.iv (.sl t 1 (by8 (sealB (bodyB m l)))))] []
    (.tup [(true, [.iv (.int .i64 3), .iv (.int .i64 m.fr), .iv (.int .i64 m.to), .iv (.arr 64 (vec m.ack)), .iv (.arr 64 [IV.int IntKind.i64 0, IV.int IntKind.i64 0, IV.int IntKind.i64 0, IV.int IntKind.i64 0, IV.int IntKind.i64 0, IV.int IntKind.i64 0, IV.int IntKind.i64 0, IV.int IntKind.i64 0, IV.int IntKind.i64 0, IV.int IntKind.i64 0, IV.int IntKind.i64 0, IV.int IntKind.i64 0, IV.int IntKind.i64 0, IV.int IntKind.i64 0, IV.int IntKind.i64 0, IV.int IntKind.i64 0, IV.int IntKind.i64 0, IV.int IntKind.i64 0, IV.int IntKind.i64 0, IV.int IntKind.i64 0, IV.int IntKind.i64 0, IV.int IntKind.i64 0, IV.int IntKind.i64 0, IV.int IntKind.i64 0, IV.int IntKind.i64 0, IV.int IntKind.i64 0, IV.int IntKind.i64 0, IV.int IntKind.i64 0, IV.int IntKind.i64 0, IV.int IntKind.i64 0, IV.int IntKind.i64 0, IV.int IntKind.i64 0, IV.int IntKind.i64 0, IV.int IntKind.i64 0, IV.int IntKind.i64 0, IV.int IntKind.i64 0, IV.int IntKind.i64 0, IV.int IntKind.i64 0, IV.int IntKind.i64 0, IV.int IntKind.i64 0, IV.int IntKind.i64 0, IV.int IntKind.i64 0, IV.int IntKind.i64 0, IV.int IntKind.i64 0, IV.int IntKind.i64 0, IV.int IntKind.i64 0, IV.int IntKind.i64 0, IV.int IntKind.i64 0, IV.int IntKind.i64 0, IV.int IntKind.i64 0, IV.int IntKind.i64 0, IV.int IntKind.i64 0, IV.int IntKind.i64 0, IV.int IntKind.i64 0, IV.int IntKind.i64 0, IV.int IntKind.i64 0, IV.int IntKind.i64 0, IV.int IntKind.i64 0, IV.int IntKind.i64 0, IV.int IntKind.i64 0, IV.int IntKind.i64 0, IV.int IntKind.i64 0, IV.int IntKind.i64 0, IV.int IntKind.i64 0]), .slo 0 0 l.length, .iv (.arr 64 (vec m.seen)), .slo 1 0 m.live.length, .iv (.arr 64 (vec m.floor))]), (false, [.iv (.int .i64 0)])]) [.arr false false 8 (exs (okL l)), .arr false false 6 (eWs m.live)] := by
  obtain ⟨f1, f2, f3, f4, f5, ga, gb, gf⟩ := chkM_0 hc
  have hbb := body_b m l hl hcs hc
  have hbl := body_len m l hc hl
  have hop := open_seal (bodyB m l)
  have sb8 : ∀ b, b ∈ sealB (bodyB m l) → b < 256 := seal_b hbb
  have sbl : (sealB (bodyB m l)).length ≤ 211106232532992 := by unfold sealB hd4; rw [List.length_append]; simp only [List.length_cons, List.length_nil]; omega
  obtain ⟨ko, hko⟩ := n42 _ sb8 true sbl
  obtain ⟨ko2, hko2⟩ := n42 _ sb8 false sbl
  rw [hop] at hko hko2
  obtain ⟨kc, hkc⟩ := n12 m (okL l) h
  generalize hbs : bodyB m l = bs at *
  have e0 : bs = enc 3 ++ (enc m.fr.toNat ++ (enc m.to.toNat ++ (putB m.ack ++ (stB m.seen m.live ++ (putB m.floor ++ (evsA l ++ [])))))) := by
    rw [← hbs]; unfold bodyB; rw [hk]; simp [List.append_assoc]
  have d0 : bs.drop 0 = enc 3 ++ (enc m.fr.toNat ++ (enc m.to.toNat ++ (putB m.ack ++ (stB m.seen m.live ++ (putB m.floor ++ (evsA l ++ [])))))) := by rw [List.drop_zero]; exact e0
  have q1 := numS_enc (most := 3) (f := false) d0 (by omega) (by omega)
  have d1 := drop_enc d0
  have q2 := numS_enc (most := 63) (f := true) d1 (by omega) (by omega)
  have d2 := drop_enc d1
  have q3 := numS_enc (most := 63) (f := true) d2 (by omega) (by omega)
  have d3 := drop_enc d2
  obtain ⟨q4, d4⟩ := vecS_enc (f := true) h.la ga d3
  rw [← e0] at q1
  have hlen := congrArg List.length e0
  simp only [List.length_append] at hlen
  have hcan : canB m.seen m.live = true := chkM_3 hc hk
  have q5 := stS_enc (f := true) h.ls hcan d4
  have d5 : bs.drop _ = _ := st_drop d4
  obtain ⟨ks, hks⟩ := n47 bs hbb (by omega) true _ _ (show 0 + (enc 3).length + (enc m.fr.toNat).length + (enc m.to.toNat).length + (putB m.ack).length + (stB m.seen m.live ++ (putB m.floor ++ (evsA l ++ []))).length = bs.length by simp only [List.length_append]; omega)
  rw [q5, stV_ok, stK_ok] at hks
  obtain ⟨ke, hke⟩ := n48ok bs [] hbb (by omega) true _ h.lf gf l (by omega) hcs d5 (by simp only [List.length_append]; omega)
  refine ⟨ko + ko2 + kc + ks + ke + 2001, fun t => playN (ko + ko2 + kc + ks + ke + 2000) rfl rfl fun A call hA hcall => ?_⟩
  obtain ⟨N, hN⟩ : ∃ N, N = ko + ko2 + kc + ks + ke + 2000 := ⟨_, rfl⟩
  obtain ⟨pl, mi, ml, nt, tn, ad, sb, K⟩ := kit hA
  obtain ⟨EX, ix, sn, ll, cc, sg, X⟩ := lkit hA K zeroX exI 96
  obtain ⟨W, gx, st', V⟩ := rkit hA
  rw [← hN] at hcall ⊢
  have k42 : call 42 [.one (.iv (.sl t 1 (by8 (sealB bs))))] [] = some (.tup [(false, [.slo 0 0 bs.length]), (false, [.iv (.int .i64 0)])], [.arr false false 1 (by8 bs)]) := by
    rw [hcall]; cases t
    · exact hko2 N (by omega)
    · exact hko N (by omega)
  have k43 : ∀ t, call 43 [.one (.iv (.sl t 1 (by8 bs)))] [] = some (rp, rd (by8 bs) 0 bs.length false) := fun t => by
    rw [hcall]
    have := n43 (by8 bs) t 1 (.inr rfl) (by rw [by8_len]; omega) N (by omega)
    rw [by8_len] at this
    exact this
  have k1 := n44 bs hbb 3 (.ok false 0 bs.length) (by show 0 + bs.length = bs.length; omega) N (by omega)
  rw [q1, ← hcall] at k1
  rw [show ((3 : Nat) : Int) = 3 from rfl] at k1
  have k2 := n44 bs hbb 63 (.ok true _ (enc m.fr.toNat ++ (enc m.to.toNat ++ (putB m.ack ++ (stB m.seen m.live ++ (putB m.floor ++ (evsA l ++ [])))))).length) (show 0 + (enc 3).length + _ = bs.length by simp only [List.length_append]; omega) N (by omega)
  rw [q2, ← hcall] at k2
  have k3 := n44 bs hbb 63 (.ok true _ (enc m.to.toNat ++ (putB m.ack ++ (stB m.seen m.live ++ (putB m.floor ++ (evsA l ++ []))))).length) (show 0 + (enc 3).length + (enc m.fr.toNat).length + _ = bs.length by simp only [List.length_append]; omega) N (by omega)
  rw [q3, ← hcall] at k3
  have k4 := n45 bs hbb true _ (putB m.ack ++ (stB m.seen m.live ++ (putB m.floor ++ (evsA l ++ [])))).length (show 0 + (enc 3).length + (enc m.fr.toNat).length + (enc m.to.toNat).length + _ = bs.length by simp only [List.length_append]; omega) N (by omega)
  rw [q4, ← hcall] at k4
  rw [Int.toNat_of_nonneg (by omega)] at k2 k3
  have sg1 := seg8 hA bs
  have k5 := hks N (by omega)
  rw [← hcall] at k5
  have k6 := hke N (by omega)
  rw [← hcall] at k6
  have z2 := chkM_3b hc hk
  have k12 : ∀ b b2, call 12 [msF b 8 b2 6 m (okL l)] [] = some (i64 (chkM m (okL l)), []) := fun b b2 => by rw [hcall]; exact hkc b 8 b2 6 (.inl rfl) (.inl rfl) N (by omega)
  rw [hc] at k12
  have zr : vec zeros = [IV.int IntKind.i64 0, IV.int IntKind.i64 0, IV.int IntKind.i64 0, IV.int IntKind.i64 0, IV.int IntKind.i64 0, IV.int IntKind.i64 0, IV.int IntKind.i64 0, IV.int IntKind.i64 0, IV.int IntKind.i64 0, IV.int IntKind.i64 0, IV.int IntKind.i64 0, IV.int IntKind.i64 0, IV.int IntKind.i64 0, IV.int IntKind.i64 0, IV.int IntKind.i64 0, IV.int IntKind.i64 0, IV.int IntKind.i64 0, IV.int IntKind.i64 0, IV.int IntKind.i64 0, IV.int IntKind.i64 0, IV.int IntKind.i64 0, IV.int IntKind.i64 0, IV.int IntKind.i64 0, IV.int IntKind.i64 0, IV.int IntKind.i64 0, IV.int IntKind.i64 0, IV.int IntKind.i64 0, IV.int IntKind.i64 0, IV.int IntKind.i64 0, IV.int IntKind.i64 0, IV.int IntKind.i64 0, IV.int IntKind.i64 0, IV.int IntKind.i64 0, IV.int IntKind.i64 0, IV.int IntKind.i64 0, IV.int IntKind.i64 0, IV.int IntKind.i64 0, IV.int IntKind.i64 0, IV.int IntKind.i64 0, IV.int IntKind.i64 0, IV.int IntKind.i64 0, IV.int IntKind.i64 0, IV.int IntKind.i64 0, IV.int IntKind.i64 0, IV.int IntKind.i64 0, IV.int IntKind.i64 0, IV.int IntKind.i64 0, IV.int IntKind.i64 0, IV.int IntKind.i64 0, IV.int IntKind.i64 0, IV.int IntKind.i64 0, IV.int IntKind.i64 0, IV.int IntKind.i64 0, IV.int IntKind.i64 0, IV.int IntKind.i64 0, IV.int IntKind.i64 0, IV.int IntKind.i64 0, IV.int IntKind.i64 0, IV.int IntKind.i64 0, IV.int IntKind.i64 0, IV.int IntKind.i64 0, IV.int IntKind.i64 0, IV.int IntKind.i64 0, IV.int IntKind.i64 0] := rfl
  have k49 : ∀ o, call 49 [rp] (rdS true (by8 bs) (.ok true o 0)) = some (i64 0, rdS true (by8 bs) (.ok true o 0)) := fun o => by
    rw [hcall]; exact n49 (by8 bs) true o 0 N (by omega)
  have sg2 : A .seg (exs (okL l)) 0 l.length = exs (okL l) := by
    rw [hA, real_seg]; unfold rSeg; rw [List.drop_zero, List.take_of_length_le (by simp [exs, okL])]
  have sg3 : A .seg (eWs m.live) 0 m.live.length = eWs m.live := by
    rw [hA, real_seg]; unfold rSeg; rw [List.drop_zero, List.take_of_length_le (by simp [eWs])]
  clear hko hko2 hkc hbb sb8 q1 q2 q3 q4 d0 d1 d2 d3 d4 e0 hlen hop h hcs q5 d5 hke hks
  obtain ⟨mk, fr, to, ack, base, seen, live, floor⟩ := m
  dsimp only at *
  subst hk
  subst z2
  simp only [msF] at k12
  generalize 0 + (enc 3).length = p1 at *
  generalize p1 + (enc fr.toNat).length = p2 at *
  generalize p2 + (enc to.toNat).length = p3 at *
  generalize p3 + (putB ack).length = p4 at *
  generalize p4 + (stB seen live).length = p5 at *
  generalize p5 + (putB floor ++ evsA l).length = p6 at *
  generalize (enc fr.toNat ++ (enc to.toNat ++ (putB ack ++ (stB seen live ++ (putB floor ++ (evsA l ++ [])))))).length = r1 at *
  generalize (enc to.toNat ++ (putB ack ++ (stB seen live ++ (putB floor ++ (evsA l ++ []))))).length = r2 at *
  generalize (putB ack ++ (stB seen live ++ (putB floor ++ (evsA l ++ [])))).length = r3 at *
  generalize (stB seen live ++ (putB floor ++ (evsA l ++ []))).length = r4 at *
  generalize (putB floor ++ (evsA l ++ [])).length = r5 at *
  rw [zr] at k12
  generalize bs.length = bn at *
  dsimp only [rd, rdS, cond_true, vecF, RS.isOk, List.cons_append, List.nil_append, List.append_nil, List.length_nil] at *
  generalize by8 (sealB bs) = xs at *
  generalize by8 bs = es at *
  generalize vec ack = va at *
  generalize vec seen = vs at *
  generalize vec floor = vf at *
  generalize eWs live = lw at *
  generalize live.length = ln at *
  generalize exs (okL l) = le at *
  generalize l.length = en at *
  apply wpV_seq; refine wpV_ofH (by ((try (conv => lhs; cbv)); (exact rfl))) ?_
  apply wpV_seq; refine wpV_ofH (by ((try (conv => lhs; cbv)); (repeat ((first | (rewrite [k42])); (try (conv => lhs; cbv)))); (exact rfl))) ?_
  apply wpV_seq; refine wpV_ofH (by ((try (conv => lhs; cbv)); (repeat ((first | (rewrite [K.neF]; rotate_left; focus ((try simp only [K.df, X.df, V.df, true_and, and_true]) <;> omega))); (try (conv => lhs; cbv)))); (exact rfl))) ?_
  apply wpV_seq; refine wpV_ofH (by ((try (conv => lhs; cbv)); (repeat ((first | (rewrite [sg1]) | (rewrite [k43])); (try (conv => lhs; cbv)))); (exact rfl))) ?_
  apply wpV_seq; refine wpV_ofH (by ((try (conv => lhs; cbv)); (repeat ((first | (rewrite [k1])); (try (conv => lhs; cbv)))); (exact rfl))) ?_
  apply wpV_seq; refine wpV_ofH (by ((try (conv => lhs; cbv)); (repeat ((first | (rewrite [k2])); (try (conv => lhs; cbv)))); (exact rfl))) ?_
  apply wpV_seq; refine wpV_ofH (by ((try (conv => lhs; cbv)); (repeat ((first | (rewrite [k3])); (try (conv => lhs; cbv)))); (exact rfl))) ?_
  apply wpV_seq; refine wpV_ofH (by ((try (conv => lhs; cbv)); (repeat ((first | (rewrite [k4])); (try (conv => lhs; cbv)))); (exact rfl))) ?_
  refine wpV_ofH (by ((try (conv => lhs; cbv)); (repeat ((first | (rewrite [k5]) | (rewrite [k6]) | (rewrite [sg2]) | (rewrite [sg3]) | (rewrite [k49]) | (rewrite [k12]) | (rewrite [K.eqT]; rotate_left; focus ((try simp only [K.df, X.df, V.df, true_and, and_true]) <;> omega)) | (rewrite [K.eqF]; rotate_left; focus ((try simp only [K.df, X.df, V.df, true_and, and_true]) <;> omega)) | (rewrite [K.neF]; rotate_left; focus ((try simp only [K.df, X.df, V.df, true_and, and_true]) <;> omega))); (try (conv => lhs; cbv)))); (exact rfl))) ?_
  (show finV _ _ _ = some _; ((try (conv => lhs; cbv)); (try (with_reducible rfl))); (try rfl))
end Go.Proofs.Ytlljgefgbglmbaa
