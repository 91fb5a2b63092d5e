/- The reference's numbers that rise, and a vector, behind bytes: gone through. -/
import Derived.Test.YtlljgefgbglmbaaCGN
set_option linter.unusedSimpArgs false
set_option linter.unusedVariables false
set_option maxRecDepth 100000
set_option maxHeartbeats 1000000
set_option cbv.maxSteps 10000000
namespace Go.Proofs.Ytlljgefgbglmbaa
open Go GoV

def ints (l : List Nat) : List (List IV) := l.map fun (b : Nat) => [.int .i64 (b : Int)]
theorem ints_len (l : List Nat) : (ints l).length = l.length := by simp [ints]
/-- What is ahead of the i-th, and one. -/
def pv (l : List Nat) (i : Nat) : Nat := if i = 0 then 0 else l.getD (i - 1) 0 + 1
def gap (l : List Nat) (i : Nat) : Nat := l.getD i 0 - pv l i
def gs (l : List Nat) : Nat → List Nat
  | 0 => []
  | i + 1 => gs l i ++ enc (gap l i)
theorem gs_len (l : List Nat) (i : Nat) : (gs l i).length ≤ 9 * i := by
  induction i with
  | zero => simp [gs]
  | succ i ih => simp only [gs, List.length_append, enc_len]; have := nd_le (gap l i); omega
theorem pv_le {l : List Nat} (hp : l.Pairwise (· < ·)) {i : Nat} (hi : i < l.length) : pv l i ≤ l.getD i 0 := by
  unfold pv
  split
  · omega
  · rw [List.getD_eq_getElem?_getD, List.getD_eq_getElem?_getD, List.getElem?_eq_getElem hi, List.getElem?_eq_getElem (show i - 1 < l.length by omega)]
    have := List.pairwise_iff_getElem.1 hp (i - 1) i (by omega) hi (by omega)
    exact this
theorem getD_lt {l : List Nat} {b : Nat} (hb : 0 < b) (h : ∀ x, x ∈ l → x < b) (i : Nat) : l.getD i 0 < b := by
  by_cases hi : i < l.length
  · rw [List.getD_eq_getElem?_getD, List.getElem?_eq_getElem hi]; exact h _ (List.getElem_mem hi)
  · rw [List.getD_eq_getElem?_getD, List.getElem?_eq_none (by omega)]; exact hb
theorem n67 (B l : List Nat) (t t2 : Bool) (z : Nat) (hz : z = 0 ∨ z = 1) (hp : l.Pairwise (· < ·)) (hl : l.length ≤ 1000) (hv : ∀ x, x ∈ l → x < 2 ^ 62) (hB : B.length ≤ 199999999900000) :
    Pn 1100 67 [.one (.iv (.sl t z (by8 B))), .one (.iv (.sl t2 1 (ints l)))] [] (.one (.slo 0 0 (B ++ (enc l.length ++ gs l l.length)).length)) [.arr false false 1 (by8 (B ++ (enc l.length ++ gs l l.length)))] := by
  refine playN 1099 rfl rfl fun A call hA hcall => ?_
  obtain ⟨pl, mi, ml, nt, tn, ad, sb, K⟩ := kit hA
  obtain ⟨E, ix, sn, ll, cc, sg, I⟩ := lkit hA K (0 : Int) (fun z => [.int .i64 z]) 8
  obtain ⟨L, hL⟩ : ∃ L : List Int, L = l.map fun (n : Nat) => (n : Int) := ⟨_, rfl⟩
  have hE : ints l = E L := by rw [I.E_, hL]; simp [ints]
  have hLl : L.length = l.length := by rw [hL]; simp
  have hix : ∀ (J : Int) (i : Nat), J = i → ix L J = l.getD i 0 := fun J i h => by
    rw [I.ix_, hL, h, Int.toNat_natCast, List.getD_eq_getElem?_getD, List.getD_eq_getElem?_getD, List.getElem?_map]
    cases l[i]? <;> rfl
  have hlt : ∀ i, l.getD i 0 < 2 ^ 62 := getD_lt (by decide) hv
  have kn : ∀ (a : List Nat) (t : Bool) (x : Int), x < 9223372036854775808 → a.length ≤ 200000000000000 → call 27 [.one (.iv (.sl t 1 (by8 a))), i64 x] [] = some (.one (.slo 0 0 (a ++ enc x.toNat).length), [.arr false false 1 (by8 (a ++ enc x.toNat))]) := fun a t x h1 h2 => by rw [hcall]; exact n27 a t 1 (.inr rfl) x h1 h2 1099 (by omega)
  have k0 : call 27 [.one (.iv (.sl t z (by8 B))), i64 (l.length : Int)] [] = some (.one (.slo 0 0 (B ++ enc l.length).length), [.arr false false 1 (by8 (B ++ enc l.length))]) := by rw [hcall]; exact n27 B t z hz (l.length : Int) (by omega) (by omega) 1099 (by omega)
  obtain ⟨M, hM⟩ : ∃ M : Int, M = l.length := ⟨_, rfl⟩
  have lS : A .len (E L) = M := by rw [I.len, I.ll_, hLl, K.nt_, hM]
  rw [← hM] at k0
  obtain ⟨C, hC⟩ : ∃ C : Nat → List Nat, ∀ i, C i = B ++ (enc l.length ++ gs l i) := ⟨_, fun _ => rfl⟩
  have c0 : B ++ enc l.length = C 0 := by rw [hC]; simp [gs]
  have cl : ∀ i, i ≤ l.length → (C i).length ≤ 200000000000000 := fun i hi => by
    rw [hC, List.length_append, List.length_append, enc_len]; have := nd_le l.length; have := gs_len l i; omega
  have cS : ∀ i, C (i + 1) = C i ++ enc (gap l i) := fun i => by rw [hC, hC]; simp [gs]
  have sgm : ∀ i, A .seg (by8 (C i)) 0 (C i).length = by8 (C i) := fun i => by
    rw [hA, real_seg]; unfold rSeg; rw [List.drop_zero, List.take_of_length_le (by rw [by8_len]; omega)]
  rw [hE, ← hC]
  rw [c0] at k0
  obtain ⟨F, hF⟩ : ∃ F : Nat → List (List IV), ∀ i, F i = by8 (C i) := ⟨_, fun _ => rfl⟩
  obtain ⟨N, hN⟩ : ∃ N : Nat → Nat, ∀ i, N i = (C i).length := ⟨_, fun _ => rfl⟩
  have kk : ∀ i, i < l.length → ∀ (t : Bool) (x : Int), x = gap l i → call 27 [.one (.iv (.sl t 1 (F i))), i64 x] [] = some (.one (.slo 0 0 (N (i + 1))), [.arr false false 1 (F (i + 1))]) := fun i hi t x hx => by
    have := kn (C i) t x (by rw [hx]; unfold gap; have := hlt i; omega) (cl i (by omega))
    rw [hx, Int.toNat_natCast, ← cS, ← hF, ← hF, ← hN, ← hx] at this
    exact this
  rw [← hN, ← hF] at k0 ⊢
  generalize by8 B = es0 at *
  apply wpV_seq; refine wpV_ofH (by ((try (conv => lhs; cbv)); (exact rfl))) ?_
  apply wpV_seq; refine wpV_ofH (by ((try (conv => lhs; cbv)); (exact rfl))) ?_
  apply wpV_seq; apply wpV_seq; refine wpV_ofH (by ((try (conv => lhs; cbv)); (repeat ((first | (rewrite [lS])); (try (conv => lhs; cbv)))); (exact rfl))) ?_
  apply wpV_block
  refine wpV_loop l.length (fun i st => ∃ (J : Int), st = ⟨0, (.one (.iv (.sl t z es0)) :: .one (.iv (.sl t2 1 (E L))) :: u :: u :: u :: i64 J :: u :: u :: u :: u :: .one (.iv (.sl t2 1 (E L))) :: i64 M :: i64 J :: u :: u :: u :: u :: u :: u :: u :: u :: u :: u :: u :: u :: u :: u :: u :: u :: u :: u :: u :: u :: u :: u :: u :: u :: u :: u :: u :: u :: u :: u :: u :: u :: u :: u :: u :: u :: u :: u :: u :: u :: u :: u :: u :: u :: u :: u :: u :: u :: u :: u :: u :: u :: u :: u :: u :: u :: []), []⟩ ∧ J = i) (by omega) (by ((try (conv => lhs; cbv)); (try (with_reducible rfl)))) ⟨0, rfl, rfl⟩ ?_
  rintro i hi st ⟨J, rfl, hJ⟩
  by_cases him : i < l.length
  · have x0 := hix J i hJ
    have hlti := hlt i
    by_cases hi0 : i = 0
    · refine wpV_ofH (by ((try (conv => lhs; cbv)); (repeat ((first | (rewrite [K.add]; rotate_left; focus ((try simp only [K.df, I.df, true_and, and_true]) <;> omega)) | (rewrite [I.get]; rotate_left; focus ((try simp only [K.df, I.df, true_and, and_true]) <;> omega)) | (rewrite [K.ltT]; rotate_left; focus ((try simp only [K.df, I.df, true_and, and_true]) <;> omega)) | (rewrite [K.geT]; rotate_left; focus ((try simp only [K.df, I.df, true_and, and_true]) <;> omega)) | (rewrite [K.eqT]; rotate_left; focus ((try simp only [K.df, I.df, true_and, and_true]) <;> omega))); (try (conv => lhs; cbv)))); (exact rfl))) ?_
      refine headQ_ofH (by ((try (conv => lhs; cbv)); (exact rfl))) ?_
      refine ⟨him, _, rfl, ?_⟩
      rw [K.pl_]; omega
    · have x1 := hix (mi J 1) (i - 1) (by rw [K.mi_]; omega)
      have pvl := pv_le hp him
      unfold pv at pvl
      rw [if_neg hi0] at pvl
      have g1 := I.get (l := L) (J := J) (by omega)
      have g2 := I.get (l := L) (J := mi J 1) (by rw [K.mi_]; omega)
      generalize ix L (mi J 1) = Y1 at *
      generalize ix L J = Y0 at *
      refine wpV_ofH (by ((try (conv => lhs; cbv)); (repeat ((first | (rewrite [g1]) | (rewrite [g2]) | (rewrite [K.add]; rotate_left; focus ((try simp only [K.df, I.df, true_and, and_true]) <;> omega)) | (rewrite [K.sub]; rotate_left; focus ((try simp only [K.df, I.df, true_and, and_true]) <;> omega)) | (rewrite [K.ltT]; rotate_left; focus ((try simp only [K.df, I.df, true_and, and_true]) <;> omega)) | (rewrite [K.gtT]; rotate_left; focus ((try simp only [K.df, I.df, true_and, and_true]) <;> omega)) | (rewrite [K.geT]; rotate_left; focus ((try simp only [K.df, I.df, true_and, and_true]) <;> omega)) | (rewrite [K.eqT]; rotate_left; focus ((try simp only [K.df, I.df, true_and, and_true]) <;> omega)) | (rewrite [K.eqF]; rotate_left; focus ((try simp only [K.df, I.df, true_and, and_true]) <;> omega))); (try (conv => lhs; cbv)))); (exact rfl))) ?_
      refine headQ_ofH (by ((try (conv => lhs; cbv)); (exact rfl))) ?_
      refine ⟨him, _, rfl, ?_⟩
      rw [K.pl_]; omega
  · obtain rfl : i = l.length := by omega
    have hJM : J = M := by omega
    rw [hJM]
    refine wpV_ofH (by ((try (conv => lhs; cbv)); (repeat ((first | (rewrite [K.ltF]; rotate_left; focus ((try simp only [K.df, I.df, true_and, and_true]) <;> omega))); (try (conv => lhs; cbv)))); (exact rfl))) ?_
    show wpV _ _ _ _ _ _
    apply wpV_seq; refine wpV_ofH (by ((try (conv => lhs; cbv)); (repeat ((first | (rewrite [k0])); (try (conv => lhs; cbv)))); (exact rfl))) ?_
    apply wpV_seq; apply wpV_seq; refine wpV_ofH (by ((try (conv => lhs; cbv)); (exact rfl))) ?_
    apply wpV_block
    refine wpV_loop l.length (fun i st => ∃ (J : Int), st = ⟨0, (u :: .one (.iv (.sl t2 1 (E L))) :: u :: u :: u :: u :: u :: u :: .one (.slo 0 0 (N i)) :: u :: u :: u :: u :: u :: u :: u :: u :: u :: u :: u :: u :: u :: u :: u :: u :: u :: u :: u :: u :: u :: u :: u :: u :: u :: u :: u :: u :: u :: u :: u :: u :: u :: u :: i64 M :: i64 J :: u :: u :: u :: u :: u :: u :: u :: u :: u :: u :: u :: u :: u :: u :: u :: u :: u :: u :: u :: u :: u :: u :: u :: u :: []), [.arr false false 1 (F i)]⟩ ∧ J = i) (by omega) (by ((try (conv => lhs; cbv)); (try (with_reducible rfl)))) ⟨0, rfl, rfl⟩ ?_
    rintro i hi st ⟨J, rfl, hJ⟩
    by_cases him : i < l.length
    · have x0 := hix J i hJ
      have hlti := hlt i
      have k1 := kk i him
      have sgi := sgm i
      rw [← hF, ← hN] at sgi
      have pvl := pv_le hp him
      have hg : gap l i = l.getD i 0 - pv l i := rfl
      unfold pv at pvl hg
      generalize N (i + 1) = N1 at *
      generalize N i = N0 at *
      generalize F (i + 1) = F1 at *
      generalize F i = F0 at *
      by_cases hi0 : i = 0
      · rw [if_pos hi0] at hg
        have hJ0 : J = 0 := by omega
        have g1 := I.get (l := L) (J := 0) (by omega)
        rw [hJ0] at x0
        generalize ix L 0 = Y0 at *
        have k1 := fun t => k1 t Y0 (by omega)
        refine wpV_ofH (by ((try (conv => lhs; cbv)); (repeat ((first | (rewrite [g1]) | (rewrite [sgi]) | (rewrite [k1]) | (rewrite [K.add]; rotate_left; focus ((try simp only [K.df, I.df, true_and, and_true]) <;> omega)) | (rewrite [I.get]; rotate_left; focus ((try simp only [K.df, I.df, true_and, and_true]) <;> omega)) | (rewrite [K.ltT]; rotate_left; focus ((try simp only [K.df, I.df, true_and, and_true]) <;> omega)) | (rewrite [K.eqT]; rotate_left; focus ((try simp only [K.df, I.df, true_and, and_true]) <;> omega))); (try (conv => lhs; cbv)))); (exact rfl))) ?_
        refine headQ_ofH (by ((try (conv => lhs; cbv)); (exact rfl))) ?_
        refine ⟨him, _, rfl, ?_⟩
        rw [K.pl_]; omega
      · rw [if_neg hi0] at pvl hg
        have x1 := hix (mi J 1) (i - 1) (by rw [K.mi_]; omega)
        have g1 := I.get (l := L) (J := J) (by omega)
        have g2 := I.get (l := L) (J := mi J 1) (by rw [K.mi_]; omega)
        generalize ix L (mi J 1) = Y1 at *
        generalize ix L J = Y0 at *
        have k1 := fun t => k1 t (mi (mi Y0 Y1) 1) (by rw [K.mi_, K.mi_]; omega)
        refine wpV_ofH (by ((try (conv => lhs; cbv)); (repeat ((first | (rewrite [g1]) | (rewrite [g2]) | (rewrite [sgi]) | (rewrite [k1]) | (rewrite [K.subl]; rotate_left; focus ((try simp only [K.df, I.df, true_and, and_true]) <;> omega)) | (rewrite [K.add]; rotate_left; focus ((try simp only [K.df, I.df, true_and, and_true]) <;> omega)) | (rewrite [K.sub]; rotate_left; focus ((try simp only [K.df, I.df, true_and, and_true]) <;> omega)) | (rewrite [I.get]; rotate_left; focus ((try simp only [K.df, I.df, true_and, and_true]) <;> omega)) | (rewrite [K.ltT]; rotate_left; focus ((try simp only [K.df, I.df, true_and, and_true]) <;> omega)) | (rewrite [K.eqF]; rotate_left; focus ((try simp only [K.df, I.df, true_and, and_true]) <;> omega))); (try (conv => lhs; cbv)))); (exact rfl))) ?_
        refine headQ_ofH (by ((try (conv => lhs; cbv)); (exact rfl))) ?_
        refine ⟨him, _, rfl, ?_⟩
        rw [K.pl_]; omega
    · obtain rfl : i = l.length := by omega
      generalize N l.length = N0 at *
      generalize F l.length = F0 at *
      refine wpV_ofH (by ((try (conv => lhs; cbv)); (repeat ((first | (rewrite [K.ltF]; rotate_left; focus ((try simp only [K.df, I.df, true_and, and_true]) <;> omega))); (try (conv => lhs; cbv)))); (exact rfl))) ?_
      show wpV _ _ _ _ _ _
      refine wpV_ofH (by ((try (conv => lhs; cbv)); (exact rfl))) ?_
      (show finV _ _ _ = some _; ((try (conv => lhs; cbv)); (try (with_reducible rfl))); (try rfl))
end Go.Proofs.Ytlljgefgbglmbaa
