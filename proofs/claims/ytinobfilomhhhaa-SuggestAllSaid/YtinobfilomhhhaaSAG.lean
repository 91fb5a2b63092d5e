/- Words of terms as a dictionary: sorted, without doubles. -/
import Derived.Test.YtinobfilomhhhaaSAF
set_option linter.unusedSimpArgs false
set_option linter.unusedVariables false
set_option maxRecDepth 100000
set_option maxHeartbeats 4000000
set_option cbv.maxSteps 10000000
namespace Go.Proofs.Ytinobfilomhhhaa
open Go GoV

/-! ### Sorted -/
theorem bl_lt : ∀ l m : List UInt8, Op.bytesLess l m = decide (l < m)
  | [], [] => by simp [Op.bytesLess]
  | [], _ :: _ => by simp [Op.bytesLess]
  | _ :: _, [] => by simp [Op.bytesLess]
  | x :: r, y :: s => by
    have ih := bl_lt r s
    rw [Op.bytesLess, ih]
    by_cases h : x < y
    · simp [h, List.cons_lt_cons_iff]
    · by_cases e : x = y
      · simp [h, e, List.cons_lt_cons_iff]
      · simp [h, e, List.cons_lt_cons_iff]
def srtS (W : List ByteArray) : List ByteArray := (srtT (W.map fun b => b.data.toList)).map fun l => ⟨l.toArray⟩
theorem srtS_len (W : List ByteArray) : (srtS W).length = W.length := by simp [srtS, srtT]
theorem toL (b : ByteArray) : b.toList = b.data.toList := by rw [ByteArray.toList_eq]
theorem srtS_pw (W : List ByteArray) : (srtS W).Pairwise fun a b => a = b ∨ ltS a b = true := by
  have hle : ∀ x y : List UInt8, decide (x ≤ y) = !Op.bytesLess y x := fun x y => by
    rw [bl_lt]
    by_cases h : y < x
    · simp [h]
    · simp [h, List.not_lt.1 h]
  have h := List.pairwise_mergeSort (le := fun x y : List UInt8 => decide (x ≤ y)) (fun a b c h1 h2 => by
    simp only [hle, Bool.not_eq_true'] at *
    cases hc : Op.bytesLess c a with
    | false => rfl
    | true =>
      rcases bl_tri a b with g | g | g
      · rw [bl_trans hc g] at h2; cases h2
      · subst g; rw [hc] at h2; cases h2
      · rw [g] at h1; cases h1) (fun a b => by
    simp only [hle, Bool.or_eq_true, Bool.not_eq_true']
    cases hc : Op.bytesLess b a with
    | false => exact .inl rfl
    | true =>
      right
      cases hd : Op.bytesLess a b with
      | false => rfl
      | true => have := bl_trans hc hd; rw [bl_irr] at this; cases this) (W.map fun b => b.data.toList)
  unfold srtS
  refine List.pairwise_map.2 (h.imp fun {x y} hxy => ?_)
  simp only [hle, Bool.not_eq_true'] at hxy
  rcases ltS_tri (⟨x.toArray⟩ : ByteArray) ⟨y.toArray⟩ with g | g | g
  · exact .inr g
  · exact .inl g
  · unfold ltS at g
    rw [toL, toL] at g
    simp only [List.toList_toArray] at g
    rw [g] at hxy; cases hxy
theorem ltS_nil (w : ByteArray) : ltS ⟨#[]⟩ w = true ↔ w ≠ ⟨#[]⟩ := by
  constructor
  · exact fun h => (ltS_ne h).symm
  · intro h
    rcases ltS_tri ⟨#[]⟩ w with g | g | g
    · exact g
    · exact absurd g.symm h
    · unfold ltS at g
      rw [toL, toL] at g
      cases hw : w.data.toList <;> rw [hw] at g <;> simp [Op.bytesLess] at g
theorem first_bad (P : Nat → Prop) : ∀ n, ∃ m, m ≤ n ∧ (∀ i, i < m → P i) ∧ (m < n → ¬ P m)
  | 0 => ⟨0, Nat.le_refl _, fun i h => by omega, fun h => by omega⟩
  | n + 1 => by
    obtain ⟨m, h1, h2, h3⟩ := first_bad P n
    by_cases hm : m < n
    · exact ⟨m, by omega, h2, fun _ => h3 hm⟩
    · obtain rfl : m = n := by omega
      by_cases hp : P m
      · refine ⟨m + 1, Nat.le_refl _, fun i hi => ?_, fun h => by omega⟩
        by_cases e : i = m
        · subst e; exact hp
        · exact h2 i (by omega)
      · exact ⟨m, by omega, h2, fun _ => hp⟩
def goodW (w : ByteArray) : Prop := w ≠ ⟨#[]⟩ ∧ w.size ≤ 64
theorem okW_iff {ws : List ByteArray} (hp : ws.Pairwise fun a b => ltS a b = true) {i : Nat} (hi : i < ws.length) : okW ws i ↔ goodW (ws.getD i ⟨#[]⟩) := by
  have hx : ∀ k, k < ws.length → ws.getD k ⟨#[]⟩ = ws[k]! := fun k hk => by simp [hk]
  unfold okW goodW
  refine and_congr_left fun _ => ?_
  cases i with
  | zero => exact ltS_nil _
  | succ i =>
    have hl : lastD (ws.take (i + 1)) = ws.getD i ⟨#[]⟩ := by
      rw [lastD, List.take_succ_eq_append_getElem (by omega), List.getLast?_concat, List.getD_eq_getElem?_getD, List.getElem?_eq_getElem (by omega)]
    have hlt : ltS (ws.getD i ⟨#[]⟩) (ws.getD (i + 1) ⟨#[]⟩) = true := by
      have := List.pairwise_iff_getElem.1 hp i (i + 1) (by omega) hi (by omega)
      simpa [List.getD_eq_getElem?_getD, hi, show i < ws.length by omega] using this
    rw [hl]
    refine ⟨fun _ e => ?_, fun _ => hlt⟩
    rw [e] at hlt
    unfold ltS at hlt
    rw [toL, toL] at hlt
    cases hw : (ws.getD i ⟨#[]⟩).data.toList <;> rw [hw] at hlt <;> simp [Op.bytesLess] at hlt
theorem q19 (W : List ByteArray) (g : Bool) (hl : W.length ≤ 1000000) : Qn 1 19 [.one (.slo 0 0 W.length)] [.arr false g 1 (eT W)] (.tup []) [.arr false g 1 (eT (srtS W))] := by
  intro m hm
  obtain ⟨m, rfl⟩ : ∃ k, m = k + 1 := ⟨m - 1, by omega⟩
  have hT : lookT tab 19 = none := rfl
  simp only [play, hT]
  show sort1Pr 19 false (fun b : List UInt8 => .str ⟨b.toArray⟩) decT srtT (clonePr clones) 19 _ _ = _
  unfold sort1Pr
  rw [show Nat.beq 19 19 = true from rfl, cond_true]
  show (if W.length ≤ (eT W).length ∧ ((1 : Nat) = 1 ∨ eT W = []) ∧ W.length ≤ 1000000000000 ∧ (eT W).all (fitsC [false]) = true then some (FV.tup [], [Blk.arr false g 1 ((srtT (((eT W).take W.length).map decT)).map (fun a => [(.str ⟨a.toArray⟩ : IV)]) ++ (eT W).drop W.length)]) else none) = _
  have hf : (eT W).all (fitsC [false]) = true := by
    rw [List.all_eq_true]
    intro c hc
    obtain ⟨z, _, rfl⟩ := List.mem_map.1 hc
    rfl
  rw [if_pos ⟨by rw [eT_len]; omega, .inl rfl, by omega, hf⟩]
  have h1 : ((eT W).take W.length).map decT = W.map fun b => b.data.toList := by
    rw [List.take_of_length_le (by rw [eT_len]; omega), eT, List.map_map]; rfl
  rw [h1, List.drop_of_length_le (by rw [eT_len]; omega), List.append_nil]
  simp [srtS, eT, List.map_map, Function.comp_def]
abbrev Tm := ByteArray × List (List IV)
def eTm (l : List Tm) : List (List IV) := l.map fun p => [.str p.1, .sl false 2 p.2]
def wordsS (l : List Tm) : List ByteArray := cmpct (srtS (l.map (·.1)))
theorem wordsS_len (l : List Tm) : (wordsS l).length ≤ l.length := by
  have := cmpct_len (srtS (l.map (·.1)))
  rw [srtS_len, List.length_map] at this
  exact this
theorem wordsS_pw (l : List Tm) : (wordsS l).Pairwise fun a b => ltS a b = true := cmpct_pw (srtS_pw _)
theorem q21 (l : List Tm) (f : Bool) (hl : l.length ≤ 41) (m : Nat) (hm : m ≤ (wordsS l).length) (hok : ∀ i, i < m → okW (wordsS l) i) (hend : m < (wordsS l).length → ¬ okW (wordsS l) m) :
    Qn 1303 21 [.one (.iv (.sl f 2 (eTm l)))] [] (.one (.ptr 0 0)) (bif decide (m < (wordsS l).length) then dcB 0 [] [] false false else dcB ((wordsS l).length : Nat) (heads (dic (wordsS l) (wordsS l).length)) (blks (dic (wordsS l) (wordsS l).length)) false false) := by
  refine playQ 1302 rfl rfl fun A call hA hcall => ?_
  obtain ⟨pl, mi, ml, nt, tn, ad, sb, K⟩ := kit hA
  obtain ⟨E, ix, sn, ll, cc, sg, D⟩ := lkit hA K (⟨#[]⟩ : ByteArray) (fun s => [.str s]) 16
  obtain ⟨E2, ix2, sn2, ll2, cc2, sg2, D2⟩ := lkit hA K ((⟨#[]⟩, []) : Tm) (fun p => [.str p.1, .sl false 2 p.2]) 40
  have hE : ∀ l, eT l = E l := fun l => by rw [D.E_]; rfl
  have hE2 : eTm l = E2 l := by rw [D2.E_]; rfl
  have hwl := wordsS_len l
  have hsl : (srtS (l.map (·.1))).length = l.length := by rw [srtS_len, List.length_map]
  have k19 := q19 (l.map (·.1)) false (by rw [List.length_map]; omega) 1302 (by omega)
  have k20 := lift (n20 (srtS (l.map (·.1))) (by omega) 1302 (by omega))
  have k14 := fun f => lift (n14 (wordsS l) f (by omega) m hm hok hend 1302 (by omega))
  rw [← hcall, List.length_map] at k19
  rw [← hcall, hsl, show cmpct (srtS (l.map (·.1))) = wordsS l from rfl] at k20
  simp only [← hcall] at k14
  have sgw : ∀ R, A .seg (eT (wordsS l ++ R)) 0 (wordsS l).length = eT (wordsS l) := fun R => by
    rw [hA, real_seg]; unfold rSeg eT; rw [List.drop_zero, List.map_append, List.take_left' (by simp)]
  obtain ⟨c, hc⟩ : ∃ c, c = (wordsS l).length := ⟨_, rfl⟩
  obtain ⟨N, hN⟩ : ∃ N, N = l.length := ⟨_, rfl⟩
  obtain ⟨M, hM⟩ : ∃ M : Int, M = nt (ll2 l) := ⟨_, rfl⟩
  have hMl : M = l.length := by rw [hM, K.nt_, D2.ll_]
  have ln : A .len (E2 l) = M := by rw [D2.len, hM]
  rw [← hc] at k20 sgw k14 ⊢
  rw [← hN] at k19 k20
  have sgw := sgw (List.replicate (N - c) zT)
  dsimp only [dcB] at k14 ⊢
  generalize eT (wordsS l ++ List.replicate (N - c) zT) = ec at *
  generalize eT (wordsS l) = ew at *
  generalize eT (srtS (l.map (·.1))) = es at *
  generalize (heads (dic (wordsS l) c)).length = dl at *
  generalize (blks (dic (wordsS l) c)).length = dm at *
  generalize eT (heads (dic (wordsS l) c)) = eh at *
  generalize eT (blks (dic (wordsS l) c)) = eb at *
  obtain ⟨CI, hCI⟩ : ∃ x : Int, x = (c : Nat) := ⟨_, rfl⟩
  rw [← hCI] at k14 ⊢
  have e0 : eT [] = [] := rfl
  rw [e0, hE2]
  obtain ⟨ea, hea⟩ : ∃ e, e = eT (l.map (·.1)) := ⟨_, rfl⟩
  rw [← hea] at k19
  apply wpV_seq; refine wpV_ofH (by ((try (conv => lhs; cbv)); (exact rfl))) ?_
  apply wpV_seq; refine wpV_ofH (by ((try (conv => lhs; cbv)); (exact rfl))) ?_
  apply wpV_seq; apply wpV_seq; refine wpV_ofH (by ((try (conv => lhs; cbv)); (repeat ((first | (rewrite [ln])); (try (conv => lhs; cbv)))); (exact rfl))) ?_
  apply wpV_block
  refine wpV_loop N (fun i st => ∃ (J : Int) (k : Nat) (e : List (List IV)), st = ⟨0, [u, u, u, .one (.slo 0 0 k), u, u, u, u, .one (.iv (.sl f 2 (E2 l))), i64 M, i64 J, u, u, u, u, u, u, u, u, u, u, u, u, u, u, u, u, u, u, u, u, u, u], [.arr false false 1 e]⟩ ∧ J = i ∧ e = eT ((l.take i).map (·.1)) ∧ k = (l.take i).length) (by omega) (by ((try (conv => lhs; cbv)); (try (with_reducible rfl)))) ⟨0, 0, [], rfl, rfl, rfl, rfl⟩ ?_
  rintro i hi st ⟨J, k, e, rfl, hJ, he, hk⟩
  have hki : k ≤ i := by rw [hk, List.length_take]; omega
  by_cases him : i < N
  · have gg := D2.get (l := l) (J := J) (by omega)
    have hiN : i < l.length := hN ▸ him
    have hx : ix2 l J = l[i] := by rw [D2.ix_, hJ, Int.toNat_natCast, List.getD_eq_getElem?_getD, List.getElem?_eq_getElem (by omega)]; rfl
    have ht : (l.take (i + 1)).map (·.1) = (l.take i).map (·.1) ++ [(ix2 l J).1] := by
      rw [hx, List.take_succ_eq_append_getElem (by omega), List.map_append]; rfl
    have ap := D.apo (l := (l.take i).map (·.1)) (x := (ix2 l J).1) (b := 16) (n := k) ⟨by rw [List.length_map]; exact hk, by rw [List.length_map, ← hk]; omega⟩
    rw [D.sn_, ← ht, ← hE, ← hE, ← he] at ap
    have l2 : A .ln (eT ((l.take (i + 1)).map (·.1))) = k + 1 := by
      rw [hA, real_ln, eT_len, List.length_map, List.length_take, hk, List.length_take]; omega
    obtain ⟨e3, he3⟩ : ∃ z, z = eT ((l.take (i + 1)).map (·.1)) := ⟨_, rfl⟩
    rw [← he3] at ap l2
    clear hx ht
    generalize ix2 l J = x at *
    obtain ⟨w, po⟩ := x
    try dsimp only at gg ap
    generalize hk1 : k + 1 = k1 at *
    refine wpV_ofH (by ((try (conv => lhs; cbv)); (repeat ((first | (rewrite [gg]) | (rewrite [ap]) | (rewrite [l2]) | (rewrite [K.add]; rotate_left; focus ((try simp only [K.df, D.df, D2.df, true_and, and_true]) <;> omega)) | (rewrite [K.ltT]; rotate_left; focus ((try simp only [K.df, D.df, D2.df, true_and, and_true]) <;> omega))); (try (conv => lhs; cbv)))); (exact rfl))) ?_
    refine headQ_ofH (by ((try (conv => lhs; cbv)); (exact rfl))) ?_
    refine ⟨him, _, _, _, rfl, ?_, he3, ?_⟩
    · rw [K.pl_]; omega
    · rw [← hk1, hk, List.length_take, List.length_take]; omega
  · obtain rfl : i = N := by omega
    rw [List.take_of_length_le (by omega)] at he hk
    rw [← hea] at he
    rw [← hN] at hk
    subst he; subst hk
    by_cases hb : m < c
    · simp only [decide_eq_true hb, cond_true] at k14 ⊢
      refine wpV_ofH (by ((try (conv => lhs; cbv)); (repeat ((first | (rewrite [K.ltF]; rotate_left; focus ((try simp only [K.df, D.df, D2.df, true_and, and_true]) <;> omega))); (try (conv => lhs; cbv)))); (exact rfl))) ?_
      show wpV _ _ _ _ _ _
      apply wpV_seq; refine wpV_ofH (by ((try (conv => lhs; cbv)); (repeat ((first | (rewrite [k19])); (try (conv => lhs; cbv)))); (exact rfl))) ?_
      apply wpV_seq; refine wpV_ofH (by ((try (conv => lhs; cbv)); (repeat ((first | (rewrite [k20]) | (rewrite [sgw]) | (rewrite [k14])); (try (conv => lhs; cbv)))); (exact rfl))) ?_
      apply wpV_seq; refine wpV_ofH (by ((try (conv => lhs; cbv)); (repeat ((first | (rewrite [K.neT]; rotate_left; focus ((try simp only [K.df, D.df, D2.df, true_and, and_true]) <;> omega))); (try (conv => lhs; cbv)))); (exact rfl))) ?_
      (show finV _ _ _ = some _; ((try (conv => lhs; cbv)); (try (with_reducible rfl))); (try rfl))
    · simp only [decide_eq_false hb, cond_false] at k14 ⊢
      refine wpV_ofH (by ((try (conv => lhs; cbv)); (repeat ((first | (rewrite [K.ltF]; rotate_left; focus ((try simp only [K.df, D.df, D2.df, true_and, and_true]) <;> omega))); (try (conv => lhs; cbv)))); (exact rfl))) ?_
      show wpV _ _ _ _ _ _
      apply wpV_seq; refine wpV_ofH (by ((try (conv => lhs; cbv)); (repeat ((first | (rewrite [k19])); (try (conv => lhs; cbv)))); (exact rfl))) ?_
      apply wpV_seq; refine wpV_ofH (by ((try (conv => lhs; cbv)); (repeat ((first | (rewrite [k20]) | (rewrite [sgw]) | (rewrite [k14])); (try (conv => lhs; cbv)))); (exact rfl))) ?_
      apply wpV_seq; refine wpV_ofH (by ((try (conv => lhs; cbv)); (repeat ((first | (rewrite [K.neF]; rotate_left; focus ((try simp only [K.df, D.df, D2.df, true_and, and_true]) <;> omega))); (try (conv => lhs; cbv)))); (exact rfl))) ?_
      refine wpV_ofH (by ((try (conv => lhs; cbv)); (exact rfl))) ?_
      (show finV _ _ _ = some _; ((try (conv => lhs; cbv)); (try (with_reducible rfl))); (try rfl))
end Go.Proofs.Ytinobfilomhhhaa
