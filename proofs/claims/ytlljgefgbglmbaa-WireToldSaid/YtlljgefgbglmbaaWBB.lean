/- Bytes with their sum ahead, made and opened: gone through. -/
import Derived.Test.YtlljgefgbglmbaaWBA
set_option linter.unusedSimpArgs false
set_option linter.unusedVariables false
set_option maxRecDepth 100000
set_option maxHeartbeats 1000000
set_option cbv.maxSteps 10000000
namespace Go.Proofs.Ytlljgefgbglmbaa
open Go GoV

theorem wrap32 (a : Int) : 0 ≤ IntKind.u32.wrap a ∧ IntKind.u32.wrap a < 4294967296 := by
  simp [IntKind.wrap, IntKind.min, IntKind.max, IntKind.signed, IntKind.bits]; omega
theorem wrapU32 {a : Int} (h : 0 ≤ a) (h2 : a < 4294967296) : IntKind.u32.wrap a = a := by
  simp [IntKind.wrap, IntKind.min, IntKind.max, IntKind.signed, IntKind.bits]; omega
theorem sum_lt (b : List Nat) : 0 ≤ sumI b ∧ sumI b < 4294967296 := wrap32 _
section
variable {A : Ar} (hA : A = real)
include hA
theorem ck32 {a : Nat} (h : a < 4294967296) : A .ck .u32 (a : Int) = (a : Int) := by
  rw [hA]; exact wrapU32 (by omega) (by omega)
theorem shl32 {a : Nat} (h : a * 256 < 4294967296) : A .ar .shl .u32 (a : Int) 8 = ((a * 256 : Nat) : Int) := by
  rw [hA]
  show IntKind.u32.wrap ((a : Int) * 2 ^ (min (8 : Int).toNat IntKind.u32.bits)) = _
  rw [show (2 : Int) ^ (min (8 : Int).toNat IntKind.u32.bits) = 256 from by decide]
  rw [wrapU32 (by omega) (by omega)]
  omega
theorem or32 {a b : Nat} (h : a * 256 + b < 4294967296) (hb : b < 256) : A .ar .or .u32 ((a * 256 : Nat) : Int) (b : Int) = ((a * 256 + b : Nat) : Int) := by
  rw [hA]
  show IntKind.u32.wrap (((BitVec.ofInt 32 ((a * 256 : Nat) : Int) ||| BitVec.ofInt 32 (b : Int)).toNat : Nat) : Int) = _
  rw [BitVec.toNat_or, BitVec.ofInt_natCast, BitVec.ofInt_natCast, BitVec.toNat_ofNat, BitVec.toNat_ofNat, Nat.mod_eq_of_lt (by omega), Nat.mod_eq_of_lt (by omega)]
  have : (a * 256) ||| b = a * 256 + b := by
    have := Nat.two_pow_add_eq_or_of_lt (i := 8) (b := b) (by omega) a
    rw [Nat.mul_comm a 256]; simp only [Nat.reducePow] at this; omega
  rw [this]
  exact wrapU32 (by omega) (by omega)
end
/-- The byte of a sum at a place. -/
def hb (s : Nat) (i : Nat) : Nat := s / 2 ^ (24 - 8 * i) % 256
def hd4 (s : Int) : List Nat := [hb s.toNat 0, hb s.toNat 1, hb s.toNat 2, hb s.toNat 3]
def sealB (b : List Nat) : List Nat := hd4 (sumI b) ++ b
theorem n26 (b : List Nat) (t : Bool) (hl : b.length ≤ 1000000000000) : ∃ k, Pn k 26 [.one (.iv (.sl t 1 (by8 b)))] [] (.one (.slo 0 0 (sealB b).length)) [.arr false false 1 (by8 (sealB b))] := by
  obtain ⟨kc, hkc⟩ := n64 b t (by omega)
  refine ⟨kc + 1001, playN (kc + 1000) rfl rfl fun A call hA hcall => ?_⟩
  obtain ⟨pl, mi, ml, nt, tn, ad, sb, K⟩ := kit hA
  obtain ⟨E, ix, sn, ll, cc, sg, B⟩ := lkit hA K (0 : Nat) (fun b => [.int .u8 (nt b)]) 1
  have k64 := hkc (kc + 1000) (by omega)
  rw [← hcall] at k64
  obtain ⟨s0, s1⟩ := sum_lt b
  obtain ⟨L, hL⟩ : ∃ L : Int, L = b.length := ⟨_, rfl⟩
  have ln : A .len (by8 b) = L := by rw [hA, real_len, by8_len, hL]
  obtain ⟨N, hN⟩ : ∃ N : Nat, N = (sumI b).toNat := ⟨_, rfl⟩
  have hS : sumI b = (N : Int) := by omega
  unfold sealB
  rw [hS] at k64 ⊢
  obtain ⟨F, hF⟩ : ∃ F : Nat → List (List IV), ∀ i, F i = by8 (((List.range i).map (hb N)) ++ List.replicate (4 - i) 0) := ⟨_, fun _ => rfl⟩
  have f4 : by8 (hd4 (N : Int)) = F 4 := by rw [hF]; rfl
  obtain ⟨X, hX⟩ : ∃ X, A .rep [.int .u8 0] (pl 4 L) = some X := by
    refine ⟨List.replicate (pl 4 L).toNat [.int .u8 0], ?_⟩
    rw [hA, real_rep, K.pl_, if_pos (by omega)]
  have r4 : A .rep [.int .u8 0] 4 = some (F 0) := by rw [hA, real_rep, if_pos (by omega), hF]; rfl
  have ln0 : A .ln (F 0) = 4 := by rw [hA, hF]; rfl
  have fl : ∀ i, i ≤ 4 → (F i).length = 4 := fun i hi => by rw [hF, by8_len]; simp; omega
  have V : ∀ (i : Nat) (I : Int), i < 4 → I = (i : Int) → ∃ W v, A .ar .shr .u32 (N : Int) (mi 24 (ml 8 I)) = W ∧ A .ck .u8 W = v ∧ A .set (F i) i 0 [.int .u8 v] = some (F (i + 1)) ∧ ∃ c, A .getN (F i) i = some [.int .u8 c] := fun i I hi hI => by
    refine ⟨((N / 2 ^ (24 - 8 * i) : Nat) : Int), ((hb N i : Nat) : Int), ?_, ?_, ?_, 0, ?_⟩
    · exact shrN hA (k := .u32) (a := N) (j := 24 - 8 * i) (by rw [K.mi_, K.ml_]; omega) (by show _ ≤ 32; omega)
    · rw [ckU8 hA]; rfl
    · rw [hA, real_set, hF, hF]
      rcases (show i = 0 ∨ i = 1 ∨ i = 2 ∨ i = 3 by omega) with rfl | rfl | rfl | rfl <;> rfl
    · rw [hA, real_getN, hF]
      rcases (show i = 0 ∨ i = 1 ∨ i = 2 ∨ i = 3 by omega) with rfl | rfl | rfl | rfl <;> rfl
  have a1 : A .apo 1 0 4 (F 4) (by8 b) = some (true, by8 (hd4 (N : Int) ++ b)) := by
    rw [hA, real_apo]; unfold rApo room
    rw [if_pos (by rw [fl 4 (by omega)]), if_pos ⟨by rw [by8_len]; omega, .inl rfl⟩, by8_app, f4]; rfl
  have ln4 : A .ofN 4 = 4 := by rw [hA]; rfl
  have l2 : A .ln (by8 (hd4 (N : Int) ++ b)) = (hd4 (N : Int) ++ b).length := by rw [hA]; exact by8_len _
  clear hF
  generalize by8 (hd4 (N : Int) ++ b) = ys at *
  generalize (hd4 (N : Int) ++ b).length = yn at *
  generalize by8 b = xs at *
  generalize (N : Int) = S at *
  apply wpV_seq; refine wpV_ofH (by ((try (conv => lhs; cbv)); (exact rfl))) ?_
  apply wpV_seq; refine wpV_ofH (by ((try (conv => lhs; cbv)); (repeat ((first | (rewrite [k64])); (try (conv => lhs; cbv)))); (exact rfl))) ?_
  apply wpV_seq; refine wpV_ofH (by ((try (conv => lhs; cbv)); (repeat ((first | (rewrite [ln]) | (rewrite [r4]) | (rewrite [hX]) | (rewrite [ln0]) | (rewrite [K.add]; rotate_left; focus ((try simp only [K.df, B.df, true_and, and_true]) <;> omega)) | (rewrite [K.ltT]; rotate_left; focus ((try simp only [K.df, B.df, true_and, and_true]) <;> omega)) | (rewrite [K.leT]; rotate_left; focus ((try simp only [K.df, B.df, true_and, and_true]) <;> omega))); (try (conv => lhs; cbv)))); (exact rfl))) ?_
  apply wpV_seq; apply wpV_seq; refine wpV_ofH (by ((try (conv => lhs; cbv)); (repeat ((first | (rewrite [ln4])); (try (conv => lhs; cbv)))); (exact rfl))) ?_
  apply wpV_block
  refine wpV_loop 4 (fun i st => ∃ I : Int, st = ⟨0, [.one (.iv (.sl t 1 xs)), u, u, .one (.iv (.int .u32 S)), .one (.slo 0 0 4), u, u, u, u, u, u, u, u, i64 4, i64 I, u, u, u, u, u, u, u, u, u, u, u, u, u, u, u], [.arr false false 1 (F i)]⟩ ∧ I = i) (by omega) (by ((try (conv => lhs; cbv)); (try (with_reducible rfl)))) ⟨0, rfl, rfl⟩ ?_
  rintro i hi st ⟨I, rfl, hI⟩
  by_cases hi4 : i < 4
  · obtain ⟨W, v, v1, v2, v3, c, v4⟩ := V i I hi4 hI
    have ht : tn I = i := by rw [K.tn_, hI]; rfl
    generalize F (i + 1) = F1 at *
    generalize F i = F0 at *
    rw [← ht] at v3 v4
    refine wpV_ofH (by ((try (conv => lhs; cbv)); (repeat ((first | (rewrite [v1]) | (rewrite [v2]) | (rewrite [v3]) | (rewrite [K.mulr]; rotate_left; focus ((try simp only [K.df, B.df, true_and, and_true]) <;> omega)) | (rewrite [K.add]; rotate_left; focus ((try simp only [K.df, B.df, true_and, and_true]) <;> omega)) | (rewrite [K.sub]; rotate_left; focus ((try simp only [K.df, B.df, true_and, and_true]) <;> omega)) | (rewrite [K.mul]; rotate_left; focus ((try simp only [K.df, B.df, true_and, and_true]) <;> omega)) | (rewrite [K.nn]; rotate_left; focus ((try simp only [K.df, B.df, true_and, and_true]) <;> omega)) | (rewrite [K.at_]; rotate_left; focus ((try simp only [K.df, B.df, true_and, and_true]) <;> omega)) | (rewrite [K.ltT]; rotate_left; focus ((try simp only [K.df, B.df, true_and, and_true]) <;> omega))); (try (conv => lhs; cbv)))); (exact rfl))) ?_
    refine headQ_ofH (by ((try (conv => lhs; cbv)); (exact rfl))) ?_
    refine ⟨hi4, _, rfl, ?_⟩
    rw [K.pl_]; omega
  · obtain rfl : i = 4 := by omega
    generalize F 4 = F4 at *
    refine wpV_ofH (by ((try (conv => lhs; cbv)); (repeat ((first | (rewrite [K.ltF]; rotate_left; focus ((try simp only [K.df, B.df, true_and, and_true]) <;> omega))); (try (conv => lhs; cbv)))); (exact rfl))) ?_
    show wpV _ _ _ _ _ _
    refine wpV_ofH (by ((try (conv => lhs; cbv)); (repeat ((first | (rewrite [a1]) | (rewrite [l2])); (try (conv => lhs; cbv)))); (exact rfl))) ?_
    (show finV _ _ _ = some _; ((try (conv => lhs; cbv)); (try (with_reducible rfl))); (try rfl))
/-! ### Opened -/
def val4 : List Nat → Nat → Nat
  | _, 0 => 0
  | l, i + 1 => val4 l i * 256 + l.getD i 0
theorem val4_lt {l : List Nat} (h : ∀ b, b ∈ l → b < 256) : ∀ i, val4 l i < 256 ^ i
  | 0 => by simp [val4]
  | i + 1 => by
    have := val4_lt h i
    have h2 : l.getD i 0 < 256 := by
      rw [List.getD_eq_getElem?_getD]
      by_cases hi : i < l.length
      · rw [List.getElem?_eq_getElem hi]; exact h _ (List.getElem_mem hi)
      · rw [List.getElem?_eq_none (by omega)]; simp
    rw [val4, Nat.pow_succ]; omega
/-- What was sealed, or why there is none. -/
def openS (B : List Nat) : Option (List Nat) × Int := if B.length < 4 then (none, 4) else if (sumI (B.drop 4)) = (val4 B 4 : Int) then (some (B.drop 4), 0) else (none, 6)
def opF (p : Option (List Nat) × Int) : FV := match p with
  | (none, e) => .tup [(false, [.iv (.sl true 0 [])]), (false, [.iv (.int .i64 e)])]
  | (some l, e) => .tup [(false, [.slo 0 0 l.length]), (false, [.iv (.int .i64 e)])]
def opK (p : Option (List Nat) × Int) : List Blk := match p with
  | (none, _) => []
  | (some l, _) => [.arr false false 1 (by8 l)]
theorem n42 (l : List Nat) (h8 : ∀ b, b ∈ l → b < 256) (t : Bool) (hl : l.length ≤ 211106232532992) : ∃ k, Pn k 42 [.one (.iv (.sl t 1 (by8 l)))] [] (opF (openS l)) (opK (openS l)) := by
  obtain ⟨kc, hkc⟩ := n64 (l.drop 4) t (by rw [List.length_drop]; omega)
  obtain ⟨kd, hkd⟩ := n64 (l.drop 4) (!t) (by rw [List.length_drop]; omega)
  refine ⟨kc + kd + 1001, playN (kc + kd + 1000) rfl rfl fun A call hA hcall => ?_⟩
  obtain ⟨pl, mi, ml, nt, tn, ad, sb, K⟩ := kit hA
  obtain ⟨E, ix, sn, ll, cc, sg, B⟩ := lkit hA K (0 : Nat) (fun b => [.int .u8 (nt b)]) 1
  have hE : ∀ l, by8 l = E l := fun l => by rw [B.E_]; exact (by8E K.nt_ l).symm
  have k64 : ∀ t', call 64 [.one (.iv (.sl t' 1 (by8 (l.drop 4))))] [] = some (.one (.iv (.int .u32 (sumI (l.drop 4)))), []) := fun t' => by
    rw [hcall]
    cases t <;> cases t'
    · exact hkc _ (by omega)
    · exact hkd _ (by omega)
    · exact hkd _ (by omega)
    · exact hkc _ (by omega)
  clear hkc hkd
  obtain ⟨L, hL⟩ : ∃ L : Int, L = l.length := ⟨_, rfl⟩
  have ln : A .len (by8 l) = L := by rw [hA, real_len, by8_len, hL]
  unfold openS
  by_cases h4 : l.length < 4
  · rw [if_pos h4]
    dsimp only [opF, opK]
    generalize by8 l = xs at *
    refine wpV_ofH (by ((try (conv => lhs; cbv)); (repeat ((first | (rewrite [ln]) | (rewrite [K.ltT]; rotate_left; focus ((try simp only [K.df, B.df, true_and, and_true]) <;> omega))); (try (conv => lhs; cbv)))); (exact rfl))) ?_
    (show finV _ _ _ = some _; ((try (conv => lhs; cbv)); (try (with_reducible rfl))); (try rfl))
  · rw [if_neg h4]
    have hlt := val4_lt (l := l) h8
    have c1 : A .sub (by8 l) none (some 4) = some (E (l.take 4)) := by
      rw [hA, real_sub, ← hE]; unfold rSub rCut rBound
      rw [by8_len]
      have h : (0 : Int) ≤ 4 ∧ (4 : Int) ≤ (l.length : Int) := by omega
      simp [h, by8, List.map_take]
    have c2 : A .sub (by8 l) (some 4) none = some (by8 (l.drop 4)) := by
      rw [hA, real_sub]; unfold rSub rCut rBound
      rw [by8_len]
      have h : (0 : Int) ≤ 4 ∧ (4 : Int) ≤ (l.length : Int) := by omega
      simp [h, by8, List.map_drop]
      rw [List.take_of_length_le (by simp)]
    have l4 : A .len (E (l.take 4)) = 4 := by rw [← hE, hA, real_len, by8_len, List.length_take]; omega
    have a1 := appn hA (by8 (l.drop 4)) (by rw [by8_len, List.length_drop]; omega)
    have l1 : A .ln (by8 (l.drop 4)) = (l.drop 4).length := by rw [hA]; exact by8_len _
    have st : ∀ i, i < 4 → ∃ X Y : Int, A .ar .shl .u32 (val4 l i : Int) 8 = X ∧ A .ck .u32 (nt (l.getD i 0)) = Y ∧ A .ar .or .u32 X Y = (val4 l (i + 1) : Int) := fun i hi => by
      have h1 := hlt i
      have h2 := hlt (i + 1)
      have h3 : l.getD i 0 < 256 := by
        rw [List.getD_eq_getElem?_getD, List.getElem?_eq_getElem (by omega)]; exact h8 _ (List.getElem_mem _)
      have h5 : 256 ^ (i + 1) ≤ 256 ^ 4 := Nat.pow_le_pow_right (by omega) (by omega)
      have h6 : val4 l (i + 1) = val4 l i * 256 + l.getD i 0 := rfl
      rw [show (256 : Nat) ^ 4 = 4294967296 from rfl] at h5
      refine ⟨((val4 l i * 256 : Nat) : Int), ((l.getD i 0 : Nat) : Int), shl32 hA (by omega), ?_, ?_⟩
      · rw [K.nt_]; exact ck32 hA (by omega)
      · rw [h6]; exact or32 hA (by omega) h3
    obtain ⟨V, hV⟩ : ∃ V : Nat → Int, ∀ i, V i = val4 l i := ⟨_, fun _ => rfl⟩
    simp only [← hV] at st
    have v0 : V 0 = 0 := by rw [hV]; rfl
    have tk : ∀ i, i < 4 → (l.take 4).getD i 0 = l.getD i 0 := fun i hi => by
      simp only [List.getD_eq_getElem?_getD, List.getElem?_take]; rw [if_pos hi]
    have tl : (l.take 4).length = 4 := by rw [List.length_take]; omega
    rw [← hV]
    generalize sumI (l.drop 4) = s at *
    generalize hdn : (l.drop 4).length = dn at *
    generalize hds : by8 (l.drop 4) = ds at *
    have g : ∀ (i : Nat) (I : Int), i < 4 → I = i → A .get (E (l.take 4)) I = some [.int .u8 (nt (l.getD i 0))] := fun i I hi hI => by
      have := B.get (l := l.take 4) (J := I) (by omega)
      rw [this, B.ix_, hI, Int.toNat_natCast, tk i hi]
    generalize E (l.take 4) = es at *
    generalize by8 l = xs at *
    by_cases hs : s = V 4
    · rw [if_pos hs]
      dsimp only [opF, opK]
      rw [hdn, hds]
      apply wpV_seq; refine wpV_ofH (by ((try (conv => lhs; cbv)); (exact rfl))) ?_
      apply wpV_seq; apply wpV_seq; refine wpV_ofH (by ((try (conv => lhs; cbv)); (repeat ((first | (rewrite [ln]) | (rewrite [K.ltF]; rotate_left; focus ((try simp only [K.df, B.df, true_and, and_true]) <;> omega))); (try (conv => lhs; cbv)))); (exact rfl))) ?_
      apply wpV_of (by rfl); show wpV _ _ _ _ _ _
      apply wpV_seq; refine wpV_ofH (by ((try (conv => lhs; cbv)); (exact rfl))) ?_
      apply wpV_seq; apply wpV_seq; refine wpV_ofH (by ((try (conv => lhs; cbv)); (repeat ((first | (rewrite [c1]) | (rewrite [l4])); (try (conv => lhs; cbv)))); (exact rfl))) ?_
      apply wpV_block
      refine wpV_loop 4 (fun i st => ∃ I : Int, st = ⟨0, [.one (.iv (.sl t 1 xs)), u, u, u, .one (.iv (.int .u32 (V i))), u, u, u, u, u, u, .one (.iv (.sl false 1 es)), i64 4, i64 I, u, u, u, u, u, u, u, u, u, u, u, u, u, u, u, u, u], []⟩ ∧ I = i) (by omega) (by ((try (conv => lhs; cbv)); (try (with_reducible rfl)))) ⟨0, by rw [v0], rfl⟩ ?_
      rintro i hi st ⟨I, rfl, hI⟩
      by_cases hi4 : i < 4
      · have gi := g i I hi4 hI
        obtain ⟨X, Y, x1, x2, x3⟩ := st i hi4
        generalize V (i + 1) = V1 at *
        generalize V i = V0 at *
        refine wpV_ofH (by ((try (conv => lhs; cbv)); (repeat ((first | (rewrite [gi]) | (rewrite [x1]) | (rewrite [x2]) | (rewrite [x3]) | (rewrite [K.add]; rotate_left; focus ((try simp only [K.df, B.df, true_and, and_true]) <;> omega)) | (rewrite [K.nn]; rotate_left; focus ((try simp only [K.df, B.df, true_and, and_true]) <;> omega)) | (rewrite [K.ltT]; rotate_left; focus ((try simp only [K.df, B.df, true_and, and_true]) <;> omega))); (try (conv => lhs; cbv)))); (exact rfl))) ?_
        refine headQ_ofH (by ((try (conv => lhs; cbv)); (exact rfl))) ?_
        refine ⟨hi4, _, rfl, ?_⟩
        rw [K.pl_]; omega
      · obtain rfl : i = 4 := by omega
        generalize V 4 = V4 at *
        refine wpV_ofH (by ((try (conv => lhs; cbv)); (repeat ((first | (rewrite [K.ltF]; rotate_left; focus ((try simp only [K.df, B.df, true_and, and_true]) <;> omega))); (try (conv => lhs; cbv)))); (exact rfl))) ?_
        show wpV _ _ _ _ _ _
        refine wpV_ofH (by ((try (conv => lhs; cbv)); (repeat ((first | (rewrite [c2]) | (rewrite [k64]) | (rewrite [a1]) | (rewrite [l1]) | (rewrite [K.neF]; rotate_left; focus ((try simp only [K.df, B.df, true_and, and_true]) <;> omega))); (try (conv => lhs; cbv)))); (exact rfl))) ?_
        (show finV _ _ _ = some _; ((try (conv => lhs; cbv)); (try (with_reducible rfl))); (try rfl))
    · rw [if_neg hs]
      dsimp only [opF, opK]
      apply wpV_seq; refine wpV_ofH (by ((try (conv => lhs; cbv)); (exact rfl))) ?_
      apply wpV_seq; apply wpV_seq; refine wpV_ofH (by ((try (conv => lhs; cbv)); (repeat ((first | (rewrite [ln]) | (rewrite [K.ltF]; rotate_left; focus ((try simp only [K.df, B.df, true_and, and_true]) <;> omega))); (try (conv => lhs; cbv)))); (exact rfl))) ?_
      apply wpV_of (by rfl); show wpV _ _ _ _ _ _
      apply wpV_seq; refine wpV_ofH (by ((try (conv => lhs; cbv)); (exact rfl))) ?_
      apply wpV_seq; apply wpV_seq; refine wpV_ofH (by ((try (conv => lhs; cbv)); (repeat ((first | (rewrite [c1]) | (rewrite [l4])); (try (conv => lhs; cbv)))); (exact rfl))) ?_
      apply wpV_block
      refine wpV_loop 4 (fun i st => ∃ I : Int, st = ⟨0, [.one (.iv (.sl t 1 xs)), u, u, u, .one (.iv (.int .u32 (V i))), u, u, u, u, u, u, .one (.iv (.sl false 1 es)), i64 4, i64 I, u, u, u, u, u, u, u, u, u, u, u, u, u, u, u, u, u], []⟩ ∧ I = i) (by omega) (by ((try (conv => lhs; cbv)); (try (with_reducible rfl)))) ⟨0, by rw [v0], rfl⟩ ?_
      rintro i hi st ⟨I, rfl, hI⟩
      by_cases hi4 : i < 4
      · have gi := g i I hi4 hI
        obtain ⟨X, Y, x1, x2, x3⟩ := st i hi4
        generalize V (i + 1) = V1 at *
        generalize V i = V0 at *
        refine wpV_ofH (by ((try (conv => lhs; cbv)); (repeat ((first | (rewrite [gi]) | (rewrite [x1]) | (rewrite [x2]) | (rewrite [x3]) | (rewrite [K.add]; rotate_left; focus ((try simp only [K.df, B.df, true_and, and_true]) <;> omega)) | (rewrite [K.nn]; rotate_left; focus ((try simp only [K.df, B.df, true_and, and_true]) <;> omega)) | (rewrite [K.ltT]; rotate_left; focus ((try simp only [K.df, B.df, true_and, and_true]) <;> omega))); (try (conv => lhs; cbv)))); (exact rfl))) ?_
        refine headQ_ofH (by ((try (conv => lhs; cbv)); (exact rfl))) ?_
        refine ⟨hi4, _, rfl, ?_⟩
        rw [K.pl_]; omega
      · obtain rfl : i = 4 := by omega
        generalize V 4 = V4 at *
        refine wpV_ofH (by ((try (conv => lhs; cbv)); (repeat ((first | (rewrite [K.ltF]; rotate_left; focus ((try simp only [K.df, B.df, true_and, and_true]) <;> omega))); (try (conv => lhs; cbv)))); (exact rfl))) ?_
        show wpV _ _ _ _ _ _
        refine wpV_ofH (by ((try (conv => lhs; cbv)); (repeat ((first | (rewrite [c2]) | (rewrite [k64]) | (rewrite [K.neT]; rotate_left; focus ((try simp only [K.df, B.df, true_and, and_true]) <;> omega))); (try (conv => lhs; cbv)))); (exact rfl))) ?_
        (show finV _ _ _ = some _; ((try (conv => lhs; cbv)); (try (with_reducible rfl))); (try rfl))
end Go.Proofs.Ytlljgefgbglmbaa
