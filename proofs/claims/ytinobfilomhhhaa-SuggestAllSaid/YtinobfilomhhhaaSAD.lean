/- A block of a dictionary, and all its words, read: gone through. -/
import Derived.Test.YtinobfilomhhhaaSAB
set_option linter.unusedSimpArgs false
set_option linter.unusedVariables false
set_option maxRecDepth 100000
set_option maxHeartbeats 4000000
set_option cbv.maxSteps 10000000
namespace Go.Proofs.Ytinobfilomhhhaa
open Go GoV

theorem n40 (n : Int) (H B : List ByteArray) (i : Nat) (h : ByteArray) (r : List ByteArray) (hH : H[i]? = some h) (hB : B[i]? = some (strO (encR h r))) (hs : h.size ≤ 64) (hr : ∀ w, w ∈ r → w.size ≤ 64) (hl : r.length ≤ 100) :
    Pn 1100 40 [.one (.ptr 0 0), i64 i] (dcB n H B false false) (.one (.slo 3 0 (r.length + 1))) (dcB n H B false false ++ [.arr false false 1 (eT (h :: r))]) := by
  refine playN 1099 rfl rfl fun A call hA hcall => ?_
  obtain ⟨pl, mi, ml, nt, tn, ad, sb, K⟩ := kit hA
  obtain ⟨E, ix, sn, ll, cc, sg, D⟩ := lkit hA K (⟨#[]⟩ : ByteArray) (fun s => [.str s]) 16
  have hiH : i < H.length := (List.getElem?_eq_some_iff.1 hH).1
  have hiB : i < B.length := (List.getElem?_eq_some_iff.1 hB).1
  have hbl := encR_len h r hr
  have hbb := encR_lt h r hr
  obtain ⟨bs, hbs⟩ : ∃ bs, bs = encR h r := ⟨_, rfl⟩
  rw [← hbs] at hbl hbb hB
  have s2b : A .s2b (strO bs) = by8 bs := by rw [hA, s2b_by8, sbl_strO hbb]
  have k73 := n73 (by8 bs) false 1 (.inr rfl) (by rw [by8_len]; omega) 1099 (by omega)
  rw [by8_len, ← hcall] at k73
  obtain ⟨es, hes⟩ : ∃ es, es = by8 bs := ⟨_, rfl⟩
  have kl : ∀ f o n, call 74 [rp] (rdS true es (.ok f o n)) = some (i64 n, rdS true es (.ok f o n)) := fun f o n => by
    rw [hcall]; exact n74 es (.ok f o n) 1099 (by omega)
  have kn : ∀ most f o n, o + n = bs.length → call 75 [rp, i64 most] (rdS true es (.ok f o n)) = some (i64 (numS bs most (.ok f o n)).1, rdS true es (numS bs most (.ok f o n)).2) := fun most f o n h => by
    rw [hcall, hes]; exact n75 bs hbb most (.ok f o n) h 1099 (by omega)
  have kt : ∀ most f o n, o + n = bs.length → call 76 [rp, i64 most] (rdS true es (.ok f o n)) = some (.one (.iv (.str (textS bs most (.ok f o n)).1)), rdS true es (textS bs most (.ok f o n)).2) := fun most f o n h => by
    rw [hcall, hes]; exact n76 bs hbb most (.ok f o n) h 1099 (by omega)
  obtain ⟨I, hI⟩ : ∃ x : Int, x = (i : Nat) := ⟨_, rfl⟩
  obtain ⟨a, ha⟩ : ∃ a, a = H.length := ⟨_, rfl⟩
  obtain ⟨b, hb⟩ : ∃ b, b = B.length := ⟨_, rfl⟩
  have at1 : A .at_ I a = some i := by rw [K.at_ (by omega), K.tn_]; congr 1; omega
  have at2 : A .at_ I b = some i := by rw [K.at_ (by omega), K.tn_]; congr 1; omega
  have g1 : A .getN (eT H) i = some [.str h] := by rw [hA, real_getN, eT, List.getElem?_map, hH]; rfl
  have g2 : A .getN (eT B) i = some [.str (strO bs)] := by rw [hA, real_getN, eT, List.getElem?_map, hB]; rfl
  have e0 : eT [h] = [[.str h]] := rfl
  have ln1 : A .ln [[IV.str h]] = 1 := by rw [hA]; rfl
  dsimp only [dcB]
  rw [← hI, ← ha, ← hb]
  dsimp only [rd] at k73
  rw [← hes] at k73 s2b
  dsimp only [List.cons_append, List.nil_append]
  obtain ⟨e1, he1⟩ : ∃ e, e = eT H := ⟨_, rfl⟩
  obtain ⟨e2, he2⟩ : ∃ e, e = eT B := ⟨_, rfl⟩
  rw [← he1] at g1 ⊢
  rw [← he2] at g2 ⊢
  generalize hSB : strO bs = SB at *
  generalize hbn : bs.length = bn at *
  obtain ⟨ot, hot⟩ : ∃ e, e = eT (h :: r) := ⟨_, rfl⟩
  obtain ⟨rl, hrl⟩ : ∃ e, e = r.length + 1 := ⟨_, rfl⟩
  rw [← hot, ← hrl]
  apply wpV_seq; refine wpV_ofH (by ((try (conv => lhs; cbv)); (exact rfl))) ?_
  apply wpV_seq; refine wpV_ofH (by ((try (conv => lhs; cbv)); (repeat ((first | (rewrite [at1]) | (rewrite [g1])); (try (conv => lhs; cbv)))); (exact rfl))) ?_
  apply wpV_seq; refine wpV_ofH (by ((try (conv => lhs; cbv)); (exact rfl))) ?_
  apply wpV_seq; apply wpV_seq; refine wpV_ofH (by ((try (conv => lhs; cbv)); (repeat ((first | (rewrite [at2]) | (rewrite [g2]) | (rewrite [s2b]) | (rewrite [k73])); (try (conv => lhs; cbv)))); (exact rfl))) ?_
  apply wpV_block
  refine wpV_loop r.length (fun j st => ∃ (w : ByteArray) (k o m : Nat) (f : Bool) (ou : List (List IV)), st = ⟨3, (u :: u :: u :: u :: u :: .one (.iv (.str w)) :: .one (.slo 3 0 k) :: .one (.ptr 4 0) :: u :: u :: u :: u :: u :: u :: u :: u :: u :: u :: u :: u :: u :: u :: u :: u :: u :: u :: u :: u :: u :: u :: u :: u :: u :: u :: u :: u :: u :: u :: u :: u :: u :: u :: u :: u :: u :: []), [.var false [.iv (.int .i64 n), .slo 1 0 a, .slo 2 0 b], .arr false false 1 e1, .arr false false 1 e2, .arr false false 1 ou, .var false [.slo 5 o m, .iv (.int .i64 0), .iv (.bool true)], .arr f false 1 es]⟩ ∧
    ∃ (p q : List ByteArray), h :: r = p ++ q ∧ q.length = r.length - j ∧ p.getLast? = some w ∧ ou = eT p ∧ k = p.length ∧ bs.drop o = encR w q ∧ o + m = bn ∧ m = (encR w q).length) (by omega) (by ((try (conv => lhs; cbv)); (repeat ((first | (rewrite [ln1])); (try (conv => lhs; cbv)))); (try (with_reducible rfl)))) ⟨h, 1, 0, bn, false, [[.str h]], rfl, [h], r, rfl, by omega, rfl, rfl, rfl, by rw [List.drop_zero, hbs], by omega, by rw [← hbs, hbn]⟩ ?_
  rintro j hj st ⟨w, k, o, m, f, ou, rfl, p, q, hpq, hq, hlast, hou, hk, hd, hom, hm⟩
  have kl1 := kl f o m
  dsimp only [rdS] at kl1
  have hwm : w ∈ h :: r := by rw [hpq]; exact List.mem_append_left _ (List.mem_of_getLast? hlast)
  have hsz : ∀ x, x ∈ h :: r → x.size ≤ 64 := fun x hx => by
    rcases List.mem_cons.1 hx with rfl | hx
    · exact hs
    · exact hr x hx
  have hws := hsz w hwm
  cases q with
  | nil =>
    have hm0 : m = 0 := hm
    subst hm0
    rw [List.append_nil] at hpq
    have hk' : k = rl := by rw [hk, ← hpq, hrl]; rfl
    rw [← hpq, ← hot] at hou
    rw [hou, hk']
    rw [show ((0 : Nat) : Int) = 0 from rfl] at kl1
    refine wpV_ofH (by ((try (conv => lhs; cbv)); (repeat ((first | (rewrite [kl1]) | (rewrite [K.gtF]; rotate_left; focus ((try simp only [K.df, D.df, true_and, and_true]) <;> omega))); (try (conv => lhs; cbv)))); (exact rfl))) ?_
    show wpV _ _ _ _ _ _
    refine wpV_ofH (by ((try (conv => lhs; cbv)); (exact rfl))) ?_
    (show finV _ _ _ = some _; ((try (conv => lhs; cbv)); (try (with_reducible rfl))); (try rfl))
  | cons x q =>
    have hxs := hsz x (by rw [hpq]; simp)
    have hjr : j < r.length := by rw [List.length_cons] at hq; omega
    have hlk := lk_le x w
    have htl := tlW_size w x
    rw [encR] at hd hm
    have hd1 : bs.drop o = enc (lk x w) ++ (textB (tlW w x) ++ encR x q) := by rw [hd, encW, List.append_assoc]
    have q1 := numS_enc (f := f) (most := (w.size : Nat)) hd1 (by omega) (by omega)
    have hd2 := drop_enc hd1
    obtain ⟨q2, hd3⟩ := textS_enc (f := true) (most := 64) hd2 (by omega) (by omega)
    have hm1 : m = (enc (lk x w) ++ (textB (tlW w x) ++ encR x q)).length := by rw [hm, encW, List.append_assoc]
    have hmp : 0 < m := by rw [hm, List.length_append]; have : 0 < (encW w x).length := by { unfold encW; rw [List.length_append, enc_len]; omega }; omega
    have kn1 := kn (w.size : Nat) f o m hom
    rw [hm1, q1, ← hm1] at kn1
    obtain ⟨o1, ho1⟩ : ∃ o1, o1 = o + (enc (lk x w)).length := ⟨_, rfl⟩
    obtain ⟨m1, hm1'⟩ : ∃ m1, m1 = (textB (tlW w x) ++ encR x q).length := ⟨_, rfl⟩
    have hom1 : o1 + m1 = bn := by rw [ho1, hm1']; rw [List.length_append] at hm1; omega
    have kt1 := kt 64 true o1 m1 hom1
    rw [ho1, hm1', q2, ← ho1, ← hm1'] at kt1
    rw [← ho1, ← hm1'] at kn1
    obtain ⟨o2, ho2⟩ : ∃ o2, o2 = o1 + (textB (tlW w x)).length := ⟨_, rfl⟩
    obtain ⟨m2, hm2'⟩ : ∃ m2, m2 = (encR x q).length := ⟨_, rfl⟩
    rw [← ho2, ← hm2'] at kt1
    have hom2 : o2 + m2 = bn := by rw [ho2, hm2']; rw [List.length_append] at hm1'; omega
    rw [← ho1, ← ho2] at hd3
    dsimp only [rdS] at kn1 kt1
    obtain ⟨KK, hKK⟩ : ∃ z : Int, z = ((lk x w : Nat) : Int) := ⟨_, rfl⟩
    obtain ⟨WS, hWS⟩ : ∃ z : Int, z = ((w.size : Nat) : Int) := ⟨_, rfl⟩
    obtain ⟨MM, hMM⟩ : ∃ z : Int, z = ((m : Nat) : Int) := ⟨_, rfl⟩
    have hMp : 0 < MM := by omega
    have ex := (extK hA w hKK hlk.2).2
    have sl : A .slen w = WS := by rw [hA, real_slen, hWS]
    rw [← hKK, ← hWS] at kn1
    rw [← hMM] at kl1
    have sc : A .scat (w.extract 0 (lk x w)) (tlW w x) = some x := by
      rw [hA, real_scat, back, if_neg]
      have : (w.extract 0 (lk x w)).size ≤ 64 := by rw [← sbl_len, sbl_ext, List.drop_zero, List.length_take, sbl_len]; omega
      simp only [IntKind.max, IntKind.signed, IntKind.bits]
      omega
    have hpl : p.length ≤ r.length + 1 := by have := congrArg List.length hpq; simp only [List.length_cons, List.length_append] at this; omega
    have ap := D.apo (l := p) (x := x) (b := 16) (n := k) ⟨hk, by omega⟩
    rw [D.sn_, show E p = ou by rw [hou, D.E_]; rfl, show E (p ++ [x]) = eT (p ++ [x]) by rw [D.E_]; rfl] at ap
    have l2 : A .ln (eT (p ++ [x])) = k + 1 := by rw [hA, real_ln, eT_len, List.length_append, hk]; rfl
    obtain ⟨ou2, hou2⟩ : ∃ e, e = eT (p ++ [x]) := ⟨_, rfl⟩
    rw [← hou2] at ap l2
    have fin : ∀ k2, k2 = k + 1 → ∃ (p q : List ByteArray), h :: r = p ++ q ∧ q.length = r.length - (j + 1) ∧ p.getLast? = some x ∧ ou2 = eT p ∧ k2 = p.length ∧ bs.drop o2 = encR x q ∧ o2 + m2 = bn ∧ m2 = (encR x q).length := fun k2 hk2 =>
      ⟨p ++ [x], q, by rw [hpq]; simp, by rw [List.length_cons] at hq; omega, by simp, hou2, by rw [hk2, List.length_append, hk]; rfl, hd3, hom2, hm2'⟩
    generalize w.extract 0 (lk x w) = wx at *
    generalize tlW w x = tw at *
    generalize hk1 : k + 1 = k1 at *
    clear hd hd1 hd2 hd3 q1 q2 hm hm1 hm1' hm2' ho1 ho2 kl kn kt
    refine wpV_ofH (by ((try (conv => lhs; cbv)); (repeat ((first | (rewrite [kl1]) | (rewrite [sl]) | (rewrite [kn1]) | (rewrite [ex]) | (rewrite [kt1]) | (rewrite [sc]) | (rewrite [ap]) | (rewrite [l2]) | (rewrite [K.gtT]; rotate_left; focus ((try simp only [K.df, D.df, true_and, and_true]) <;> omega))); (try (conv => lhs; cbv)))); (exact rfl))) ?_
    refine headQ_ofH (by ((try (conv => lhs; cbv)); (exact rfl))) ?_
    exact ⟨hjr, _, _, _, _, _, _, rfl, fin _ rfl⟩
end Go.Proofs.Ytinobfilomhhhaa
