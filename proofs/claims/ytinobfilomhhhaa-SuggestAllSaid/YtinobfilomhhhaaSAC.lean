/- The order of texts; doubles taken out of a list; slices.Sort laid at this program. -/
import Derived.Test.YtinobfilomhhhaaSAA
import Derived.Test.YtinobfilomhhhaaVBL
import Derived.Shelf.SlGeneric
import Derived.Shelf.Lays
import Derived.Shelf.Sort.Plain
import Derived.Shelf.Slices.In.SortNone
set_option linter.unusedSimpArgs false
set_option linter.unusedVariables false
set_option maxRecDepth 100000
set_option maxHeartbeats 4000000
set_option cbv.maxSteps 10000000
namespace Go.Proofs.Ytinobfilomhhhaa
open Go GoV

/-! ### The order of texts -/
theorem bl_irr : ∀ l : List UInt8, Op.bytesLess l l = false
  | [] => rfl
  | x :: r => by simp [Op.bytesLess, bl_irr r]
theorem bl_tri : ∀ l m : List UInt8, Op.bytesLess l m = true ∨ l = m ∨ Op.bytesLess m l = true
  | [], [] => .inr (.inl rfl)
  | [], _ :: _ => .inl (by simp [Op.bytesLess])
  | _ :: _, [] => .inr (.inr (by simp [Op.bytesLess]))
  | x :: r, y :: s => by
    have ih := bl_tri r s
    simp only [Op.bytesLess, Bool.or_eq_true, Bool.and_eq_true, decide_eq_true_eq, beq_iff_eq, List.cons.injEq]
    rcases Nat.lt_trichotomy x.toNat y.toNat with h | h | h
    · exact .inl (.inl (UInt8.lt_iff_toNat_lt.2 h))
    · have e : x = y := UInt8.toNat_inj.1 h
      subst e
      rcases ih with h | h | h
      · exact .inl (.inr ⟨rfl, h⟩)
      · exact .inr (.inl ⟨rfl, h⟩)
      · exact .inr (.inr (.inr ⟨rfl, h⟩))
    · exact .inr (.inr (.inl (UInt8.lt_iff_toNat_lt.2 h)))
theorem bl_trans : ∀ {l m k : List UInt8}, Op.bytesLess l m = true → Op.bytesLess m k = true → Op.bytesLess l k = true
  | [], [], _, h, _ => by simp [Op.bytesLess] at h
  | [], _ :: _, [], _, h => by simp [Op.bytesLess] at h
  | [], _ :: _, _ :: _, _, _ => by simp [Op.bytesLess]
  | _ :: _, [], _, h, _ => by simp [Op.bytesLess] at h
  | _ :: _, _ :: _, [], _, h => by simp [Op.bytesLess] at h
  | x :: r, y :: s, z :: t, h, g => by
    have ih := @bl_trans r s t
    simp only [Op.bytesLess, Bool.or_eq_true, Bool.and_eq_true, decide_eq_true_eq, beq_iff_eq] at h g ⊢
    rcases h with h | ⟨rfl, h⟩ <;> rcases g with g | ⟨rfl, g⟩
    · exact .inl (UInt8.lt_trans h g)
    · exact .inl h
    · exact .inl g
    · exact .inr ⟨rfl, ih h g⟩
theorem toList_inj {a b : ByteArray} (h : a.toList = b.toList) : a = b := by
  rcases a with ⟨a⟩; rcases b with ⟨b⟩
  have h1 : ∀ c : Array UInt8, (ByteArray.mk c).toList = c.toList := fun c => by
    rw [ByteArray.toList_eq]
  rw [h1, h1] at h
  rw [Array.toList_inj.1 h]
def ltS (a b : ByteArray) : Bool := Op.bytesLess a.toList b.toList
theorem ltS_irr (a : ByteArray) : ltS a a = false := bl_irr _
theorem ltS_trans {a b c : ByteArray} (h : ltS a b = true) (g : ltS b c = true) : ltS a c = true := bl_trans h g
theorem ltS_asym {a b : ByteArray} (h : ltS a b = true) : ltS b a = false := by
  cases g : ltS b a with
  | false => rfl
  | true => have := ltS_trans h g; rw [ltS_irr] at this; cases this
theorem ltS_tri (a b : ByteArray) : ltS a b = true ∨ a = b ∨ ltS b a = true := by
  rcases bl_tri a.toList b.toList with h | h | h
  · exact .inl h
  · exact .inr (.inl (toList_inj h))
  · exact .inr (.inr h)
theorem ltS_ne {a b : ByteArray} (h : ltS a b = true) : a ≠ b := fun e => by rw [e, ltS_irr] at h; cases h
theorem beqT (a b : ByteArray) : (a.toList == b.toList) = decide (a = b) := by
  by_cases h : a = b
  · subst h; simp
  · rw [decide_eq_false h, beq_eq_false_iff_ne]; exact fun e => h (toList_inj e)
theorem sc_eq {A : Ar} (hA : A = real) (a b : ByteArray) : A .scmp .eql a b = decide (a = b) := by rw [hA, ← beqT]; rfl
theorem sc_ne {A : Ar} (hA : A = real) (a b : ByteArray) : A .scmp .neq a b = !decide (a = b) := by rw [hA, ← beqT]; rfl
theorem sc_gt {A : Ar} (hA : A = real) (a b : ByteArray) : A .scmp .gtr a b = ltS b a := by
  rw [hA]
  show (!(Op.bytesLess a.toList b.toList || a.toList == b.toList)) = _
  rw [beqT]
  rcases ltS_tri a b with h | h | h
  · rw [ltS_asym h]
    have h' : Op.bytesLess a.toList b.toList = true := h
    rw [h']; rfl
  · subst h
    rw [ltS_irr]
    simp
  · rw [h]
    have h' : Op.bytesLess a.toList b.toList = false := ltS_asym h
    rw [h', decide_eq_false (fun e => ltS_ne h e.symm)]; rfl
abbrev zT : ByteArray := ⟨#[]⟩
def cmpct : List ByteArray → List ByteArray
  | [] => []
  | [x] => [x]
  | x :: y :: r => if x = y then cmpct (y :: r) else x :: cmpct (y :: r)
theorem cmpct_mem : ∀ (l : List ByteArray) (x : ByteArray), x ∈ cmpct l ↔ x ∈ l
  | [], x => Iff.rfl
  | [y], x => Iff.rfl
  | y :: z :: r, x => by
    have ih := cmpct_mem (z :: r) x
    unfold cmpct
    split
    · rename_i h
      subst h
      rw [ih]; simp
    · rw [List.mem_cons, ih, List.mem_cons (a := x) (b := y)]
theorem cmpct_pw : ∀ {l : List ByteArray}, l.Pairwise (fun a b => a = b ∨ ltS a b = true) → (cmpct l).Pairwise (fun a b => ltS a b = true)
  | [], _ => List.Pairwise.nil
  | [y], _ => List.pairwise_singleton _ _
  | y :: z :: r, h => by
    obtain ⟨h1, h2⟩ := List.pairwise_cons.1 h
    have ih := cmpct_pw h2
    unfold cmpct
    split
    · exact ih
    · rename_i hne
      refine List.pairwise_cons.2 ⟨fun x hx => ?_, ih⟩
      have hyz : ltS y z = true := (h1 z (by simp)).resolve_left hne
      rcases List.mem_cons.1 ((cmpct_mem (z :: r) x).1 hx) with rfl | hx
      · exact hyz
      · rcases (List.pairwise_cons.1 h2).1 x hx with rfl | g
        · exact hyz
        · exact ltS_trans hyz g
theorem cmpct_snoc (x y : ByteArray) : ∀ l : List ByteArray, cmpct (l ++ [x, y]) = if x = y then cmpct (l ++ [x]) else cmpct (l ++ [x]) ++ [y]
  | [] => by
    show cmpct [x, y] = _
    by_cases h : x = y
    · rw [if_pos h, cmpct, if_pos h, h]; rfl
    · rw [if_neg h, cmpct, if_neg h]; rfl
  | [a] => by
    show cmpct (a :: x :: [y]) = if x = y then cmpct (a :: [x]) else cmpct (a :: [x]) ++ [y]
    have ih := cmpct_snoc x y []
    rw [cmpct, show cmpct (x :: [y]) = cmpct ([] ++ [x, y]) from rfl, ih, cmpct.eq_3 a x []]
    by_cases h : x = y <;> by_cases g : a = x <;> simp [h, g]
  | a :: b :: r => by
    show cmpct (a :: b :: (r ++ [x, y])) = if x = y then cmpct (a :: b :: (r ++ [x])) else cmpct (a :: b :: (r ++ [x])) ++ [y]
    have ih := cmpct_snoc x y (b :: r)
    rw [cmpct, show b :: (r ++ [x, y]) = (b :: r) ++ [x, y] from rfl, ih, cmpct.eq_3 a b (r ++ [x]), show b :: (r ++ [x]) = (b :: r) ++ [x] from rfl]
    by_cases h : x = y <;> by_cases g : a = b <;> simp [h, g]
/-- So far compared, each with the one ahead. -/
theorem cmpct_take {l : List ByteArray} {j : Nat} (h0 : 0 < j) (hj : j < l.length) : cmpct (l.take (j + 1)) = if l.getD (j - 1) zT = l.getD j zT then cmpct (l.take j) else cmpct (l.take j) ++ [l.getD j zT] := by
  have e1 : l.take j = l.take (j - 1) ++ [l.getD (j - 1) zT] := by
    rw [List.getD_eq_getElem?_getD, List.getElem?_eq_getElem (by omega), Option.getD_some]
    conv => lhs; rw [show j = j - 1 + 1 by omega]
    exact List.take_succ_eq_append_getElem (by omega)
  have e2 : l.take (j + 1) = l.take (j - 1) ++ [l.getD (j - 1) zT, l.getD j zT] := by
    rw [List.take_succ_eq_append_getElem hj, e1, List.append_assoc]
    rw [List.getD_eq_getElem?_getD (i := j), List.getElem?_eq_getElem hj]; rfl
  rw [e2, e1]
  exact cmpct_snoc _ _ _
theorem cmpct_len : ∀ l : List ByteArray, (cmpct l).length ≤ l.length
  | [] => Nat.le_refl _
  | [_] => Nat.le_refl _
  | x :: y :: r => by
    have := cmpct_len (y :: r)
    unfold cmpct
    split
    · simp only [List.length_cons] at *; omega
    · simp only [List.length_cons] at *; omega
def eT (l : List ByteArray) : List (List IV) := l.map fun s => [.str s]
theorem eT_len (l : List ByteArray) : (eT l).length = l.length := by simp [eT]
theorem cmpct_s {l : List ByteArray} (h : l.length < 2) : cmpct l = l := by
  match l, h with
  | [], _ => rfl
  | [x], _ => rfl
theorem n20 (l : List ByteArray) (hl : l.length ≤ 1000) : Pn 1100 20 [.one (.slo 0 0 l.length)] [.arr false false 1 (eT l)] (.one (.slo 0 0 (cmpct l).length)) [.arr false false 1 (eT (cmpct l ++ List.replicate (l.length - (cmpct l).length) zT))] := by
  refine playN 1099 rfl rfl fun A call hA hcall => ?_
  obtain ⟨pl, mi, ml, nt, tn, ad, sb, K⟩ := kit hA
  obtain ⟨E, ix, sn, ll, cc, sg, D⟩ := lkit hA K zT (fun s => [.str s]) 16
  have hE : ∀ l, eT l = E l := fun l => by rw [D.E_]; rfl
  obtain ⟨SD, hSD⟩ : ∃ SD : List ByteArray → Nat → ByteArray → List ByteArray, ∀ m k x, SD m k x = m.set k x := ⟨_, fun _ _ _ => rfl⟩
  obtain ⟨N, hN⟩ : ∃ N, N = l.length := ⟨_, rfl⟩
  obtain ⟨M, hM⟩ : ∃ M : Int, M = nt N := ⟨_, rfl⟩
  have hMl : M = N := by rw [hM, K.nt_]
  have ofN : A .ofN N = M := by rw [K.ofN, hM]
  have ao : ∀ o j, addO A o j = ad o j := fun o j => by
    rw [K.ad_]
    unfold addO
    split
    · omega
    · rw [hA]; rfl
  rw [hE, hE, ← hN]
  by_cases hs : N < 2
  · rw [cmpct_s (l := l) (by omega), ← hN, Nat.sub_self, List.replicate_zero, List.append_nil]
    apply wpV_seq; refine wpV_ofH (by ((try (conv => lhs; cbv)); (exact rfl))) ?_
    refine wpV_ofH (by ((try (conv => lhs; cbv)); (repeat ((first | (rewrite [ofN]) | (rewrite [K.ltT]; rotate_left; focus ((try simp only [K.df, D.df, true_and, and_true]) <;> omega))); (try (conv => lhs; cbv)))); (exact rfl))) ?_
    show finQ _ _ _ _ _
    (show finV _ _ _ = some _; ((try (conv => lhs; cbv)); (try (with_reducible rfl))); (try rfl))
  · apply wpV_seq; refine wpV_ofH (by ((try (conv => lhs; cbv)); (exact rfl))) ?_
    apply wpV_seq; refine wpV_ofH (by ((try (conv => lhs; cbv)); (repeat ((first | (rewrite [ofN]) | (rewrite [K.ltF]; rotate_left; focus ((try simp only [K.df, D.df, true_and, and_true]) <;> omega))); (try (conv => lhs; cbv)))); (exact rfl))) ?_
    apply wpV_seq; apply wpV_seq; refine wpV_ofH (by ((try (conv => lhs; cbv)); (exact rfl))) ?_
    apply wpV_block
    refine wpV_loop (N - 1) (fun i st => ∃ J : Int, st = ⟨1, (.one (.slo 0 0 N) :: u :: u :: i64 J :: u :: u :: u :: u :: u :: u :: u :: u :: u :: u :: u :: u :: u :: u :: u :: u :: u :: u :: u :: u :: u :: u :: u :: u :: u :: u :: u :: u :: u :: u :: u :: u :: u :: u :: u :: u :: u :: u :: u :: u :: u :: u :: u :: u :: u :: u :: u :: u :: u :: u :: u :: u :: u :: u :: u :: u :: u :: []), [.arr false false 1 (E l)]⟩ ∧ J = (i + 1 : Nat) ∧ cmpct (l.take (i + 1)) = l.take (i + 1)) (by omega) (by ((try (conv => lhs; cbv)); (try (with_reducible rfl)))) ⟨1, rfl, rfl, cmpct_s (by rw [List.length_take]; omega)⟩ ?_
    rintro i hi st ⟨J, rfl, hJ, hgo⟩
    by_cases him : i < N - 1
    · have g1 := D.getN (l := l) (J := J) (by omega)
      have g2 := D.getN (l := l) (J := mi J 1) (by simp only [K.mi_]; omega)
      have hx1 : ix l J = l.getD (i + 1) zT := by rw [D.ix_, hJ, Int.toNat_natCast]
      have hx2 : ix l (mi J 1) = l.getD i zT := by rw [D.ix_, K.mi_, show (J - 1).toNat = i by omega]
      have ct := cmpct_take (l := l) (j := i + 1) (by omega) (by omega)
      rw [show i + 1 - 1 = i by omega, ← hx1, ← hx2] at ct
      have eq := sc_eq hA (ix l J) (ix l (mi J 1))
      have hdx : l.take (i + 1 + 1) = l.take (i + 1) ++ [ix l J] := by
        rw [hx1, List.take_succ_eq_append_getElem (by omega), List.getD_eq_getElem?_getD, List.getElem?_eq_getElem (by omega)]; rfl
      by_cases h : ix l J = ix l (mi J 1)
      · rw [decide_eq_true h] at eq
        rw [if_pos h.symm, hgo] at ct
        clear hx1 hx2 hdx h
        generalize ix l J = x at *
        generalize ix l (mi J 1) = y at *
        try dsimp only at g1 g2 eq
        obtain ⟨k0, hk0⟩ : ∃ k0, k0 = i + 1 := ⟨_, rfl⟩
        obtain ⟨R0, hR0⟩ : ∃ R0, R0 = N - k0 := ⟨_, rfl⟩
        rw [← hk0] at ct hJ
        have cu0 : A .cuts 0 N (A .ln (E l)) (some J) none none = some (k0, R0) := by
          rw [hA, D.E_, hJ]
          show rCuts 0 N (l.map _).length (some (k0 : Int)) none none = _
          simp [rCuts, rBound, hR0, ← hN, show k0 ≤ N by omega]
        have cu0' := cu0
        rw [D.ln] at cu0'
        obtain ⟨M0, hM0⟩ : ∃ M : Int, M = nt R0 := ⟨_, rfl⟩
        have hMl0 : M0 = R0 := by rw [hM0, K.nt_]
        have ofN0 : A .ofN R0 = M0 := by rw [K.ofN, hM0]
        apply wpV_seq; refine wpV_ofH (by ((try (conv => lhs; cbv)); (repeat ((first | (rewrite [ofN]) | (rewrite [K.ltT]; rotate_left; focus ((try simp only [K.df, D.df, true_and, and_true]) <;> omega))); (try (conv => lhs; cbv)))); (exact rfl))) ?_
        apply wpV_seq; apply wpV_block; apply wpV_seq; refine wpV_ofH (by ((try (conv => lhs; cbv)); (repeat ((first | (rewrite [g1]) | (rewrite [g2]) | (rewrite [eq]) | (rewrite [K.sub]; rotate_left; focus ((try simp only [K.df, D.df, true_and, and_true]) <;> omega)) | (rewrite [K.at_]; rotate_left; focus ((try simp only [K.df, D.df, true_and, and_true]) <;> omega))); (try (conv => lhs; cbv)))); (exact rfl))) ?_
        refine wpV_cond (t := true) rfl ?_
        apply wpV_seq; refine wpV_ofH (by ((try (conv => lhs; cbv)); (repeat ((first | (rewrite [cu0])); (try (conv => lhs; cbv)))); (exact rfl))) ?_
        apply wpV_seq; apply wpV_seq; refine wpV_ofH (by ((try (conv => lhs; cbv)); (exact rfl))) ?_
        apply wpV_block
        refine wpV_loop (R0 - 1) (fun i st => ∃ (J2 I : Int) (m : List ByteArray), st = ⟨1, (.one (.slo 0 0 N) :: u :: u :: i64 I :: .one (.slo 0 k0 R0) :: i64 J2 :: u :: u :: u :: u :: u :: u :: u :: u :: u :: u :: u :: u :: u :: u :: u :: u :: u :: u :: u :: u :: u :: u :: u :: u :: u :: u :: u :: u :: u :: u :: u :: u :: u :: u :: u :: u :: u :: u :: u :: u :: u :: u :: u :: u :: u :: u :: u :: u :: u :: u :: u :: u :: u :: u :: u :: []), [.arr false false 1 (E m)]⟩ ∧ J2 = (1 + i : Nat) ∧ m.length = N ∧ I = ((cmpct (l.take (k0 + 1 + i))).length : Int) ∧ m.take (cmpct (l.take (k0 + 1 + i))).length = cmpct (l.take (k0 + 1 + i)) ∧ m.drop (k0 + i) = l.drop (k0 + i) ∧ I ≤ k0 + i) (by omega) (by ((try (conv => lhs; cbv)); (try (with_reducible rfl)))) ⟨1, J, l, rfl, rfl, hN.symm, by rw [Nat.add_zero, ct, hJ, List.length_take]; omega, by rw [Nat.add_zero, ct, List.length_take, Nat.min_eq_left (by omega)], rfl, by omega⟩ ?_
        rintro i2 hi2 st ⟨J2, I, m, rfl, hJ2, hm, hI, hmt, hmd, hIJ⟩
        have hIl : (0 : Int) ≤ I := by omega
        by_cases him2 : i2 < R0 - 1
        · obtain ⟨p, hp⟩ : ∃ p, p = k0 + 1 + i2 := ⟨_, rfl⟩
          have hpN : p < l.length := by omega
          have gq : ∀ q, k0 + i2 ≤ q → q < N → ∀ J : Int, 0 ≤ J → q = k0 + J.toNat → A .getN (E m) (ad k0 (tn J)) = some [.str (l.getD q zT)] := fun q h1 h2 J hJ hq => by
            have e : m.getD q zT = l.getD q zT := by
              have := congrArg (fun z => z[q - (k0 + i2)]?) hmd
              simp only [List.getElem?_drop] at this
              rw [show k0 + i2 + (q - (k0 + i2)) = q by omega] at this
              rw [List.getD_eq_getElem?_getD, List.getD_eq_getElem?_getD, this]
            rw [← e, hA, real_getN, K.ad_, K.tn_, ← hq, D.E_, List.getElem?_map, List.getElem?_eq_getElem (by omega), List.getD_eq_getElem?_getD, List.getElem?_eq_getElem (by omega)]
            rfl
          have g1 := gq p (by omega) (by omega) J2 (by omega) (by omega)
          have g2 := gq (k0 + i2) (by omega) (by omega) (mi J2 1) (by rw [K.mi_]; omega) (by rw [K.mi_]; omega)
          have ct2 := cmpct_take (l := l) (j := p) (by omega) (by omega)
          rw [show p - 1 = k0 + i2 by omega] at ct2
          have eq := sc_ne hA (l.getD p zT) (l.getD (k0 + i2) zT)
          have hdr : m.drop (k0 + (i2 + 1)) = l.drop (k0 + (i2 + 1)) := by
            have := congrArg (List.drop 1) hmd
            rw [List.drop_drop, List.drop_drop] at this
            exact this
          have ao1 := ao k0 (tn J2)
          have ao2 := ao k0 (tn (mi J2 1))
          (conv at ao1 => lhs; cbv)
          (conv at ao2 => lhs; cbv)
          have sD : ∀ x : ByteArray, A .set (E m) (tn I) 0 [.str x] = some (E (SD m (tn I) x)) := fun x => by
            have hin : I.toNat < m.length := by omega
            rw [hA, hSD, D.E_, D.E_, K.tn_, real_set]
            unfold rSet
            rw [List.getElem?_map, List.getElem?_eq_getElem hin]
            simp [plainI, List.map_set]
          have sD := sD (l.getD p zT)
          rw [← hp] at hI hmt
          rw [show k0 + 1 + (i2 + 1) = p + 1 by omega]
          generalize l.getD p zT = x at *
          generalize l.getD (k0 + i2) zT = y at *
          have hmN : (m.length : Int) = M := by omega
          by_cases h : x = y
          · rw [decide_eq_true h] at eq
            rw [if_pos h.symm] at ct2
            clear h
            try dsimp only at g1 g2 eq
            refine wpV_ofH (by ((try (conv => lhs; cbv)); (repeat ((first | (rewrite [ofN0]) | (rewrite [ao1]) | (rewrite [ao2]) | (rewrite [g1]) | (rewrite [g2]) | (rewrite [eq]) | (rewrite [K.add]; rotate_left; focus ((try simp only [K.df, D.df, true_and, and_true]) <;> omega)) | (rewrite [K.sub]; rotate_left; focus ((try simp only [K.df, D.df, true_and, and_true]) <;> omega)) | (rewrite [K.at_]; rotate_left; focus ((try simp only [K.df, D.df, true_and, and_true]) <;> omega)) | (rewrite [K.ltT]; rotate_left; focus ((try simp only [K.df, D.df, true_and, and_true]) <;> omega))); (try (conv => lhs; cbv)))); (exact rfl))) ?_
            refine headQ_ofH (by ((try (conv => lhs; cbv)); (exact rfl))) ?_
            refine ⟨him2, _, _, m, rfl, ?_, hm, ?_, ?_, hdr, ?_⟩
            · rw [K.pl_]; omega
            · rw [ct2]; exact hI
            · rw [ct2]; exact hmt
            · omega
          · rw [decide_eq_false h] at eq
            rw [if_neg (Ne.symm h)] at ct2
            clear h
            try dsimp only at g1 g2 eq sD
            refine wpV_ofH (by ((try (conv => lhs; cbv)); (repeat ((first | (rewrite [ofN0]) | (rewrite [ao1]) | (rewrite [ao2]) | (rewrite [g1]) | (rewrite [g2]) | (rewrite [eq]) | (rewrite [sD]) | (rewrite [K.add]; rotate_left; focus ((try simp only [K.df, D.df, true_and, and_true]) <;> omega)) | (rewrite [K.sub]; rotate_left; focus ((try simp only [K.df, D.df, true_and, and_true]) <;> omega)) | (rewrite [K.at_]; rotate_left; focus ((try simp only [K.df, D.df, true_and, and_true]) <;> omega)) | (rewrite [K.ltT]; rotate_left; focus ((try simp only [K.df, D.df, true_and, and_true]) <;> omega))); (try (conv => lhs; cbv)))); (exact rfl))) ?_
            refine headQ_ofH (by ((try (conv => lhs; cbv)); (exact rfl))) ?_
            refine ⟨him2, _, _, _, rfl, ?_, ?_, ?_, ?_, ?_, ?_⟩
            · rw [K.pl_]; omega
            · rw [hSD, List.length_set]; exact hm
            · rw [ct2, K.pl_, List.length_append]; simp; omega
            · rw [ct2, List.length_append, hSD, K.tn_]
              have e : I.toNat = (cmpct (l.take p)).length := by omega
              rw [e, ← hmt]
              simp only [List.length_singleton, List.length_take]
              rw [Nat.min_eq_left (by omega), List.take_succ_eq_append_getElem (by rw [List.length_set]; omega), List.getElem_set_self, List.take_set_of_le (Nat.le_refl _)]
            · rw [hSD, K.tn_, List.drop_set_of_lt (by omega)]
              exact hdr
            · rw [K.pl_]; omega
        · obtain rfl : i2 = R0 - 1 := by omega
          have htl : l.take (k0 + 1 + (R0 - 1)) = l := List.take_of_length_le (by omega)
          rw [htl] at hI hmt
          obtain ⟨c, hc⟩ : ∃ c, c = (cmpct l).length := ⟨_, rfl⟩
          have hcN : c ≤ N := by rw [hc, hN]; exact cmpct_len _
          rw [← hc] at hI hmt
          obtain ⟨R, hR⟩ : ∃ R, R = N - c := ⟨_, rfl⟩
          have ov : A .over (E m) c (A .zeros [.str ⟨#[]⟩] R) = E (cmpct l ++ List.replicate R zT) := by
            rw [hA, real_over, real_zeros, D.E_, D.E_]
            unfold rOver
            rw [List.map_append, List.map_replicate, ← hmt, List.map_take]
            rw [List.length_replicate, List.drop_of_length_le (by rw [List.length_map]; omega), List.append_nil]
          have cu1 : A .cuts 0 N (A .ln (E m)) (some I) none none = some (c, R) := by
            rw [hA, D.E_, hI]
            show rCuts 0 N (m.map _).length (some (c : Int)) none none = _
            simp [rCuts, rBound, hR, hcN, hm]
          have cu2 : A .cuts 0 N (A .ln (E (cmpct l ++ List.replicate R zT))) none (some I) none = some (0, c) := by
            rw [hA, D.E_, hI]
            have hzl : (cmpct l ++ List.replicate R zT).length = N := by rw [List.length_append, List.length_replicate]; omega
            show rCuts 0 N (List.map _ _).length none (some (c : Int)) none = _
            rw [List.length_map, hzl]
            simp [rCuts, rBound, hcN]
          rw [← hc, ← hR]
          generalize cmpct l ++ List.replicate R zT = z at *
          refine wpV_ofH (by ((try (conv => lhs; cbv)); (repeat ((first | (rewrite [ofN0]) | (rewrite [K.ltF]; rotate_left; focus ((try simp only [K.df, D.df, true_and, and_true]) <;> omega))); (try (conv => lhs; cbv)))); (exact rfl))) ?_
          show wpV _ _ _ _ _ _
          apply wpV_seq; refine wpV_ofH (by ((try (conv => lhs; cbv)); (repeat ((first | (rewrite [cu1]) | (rewrite [ov])); (try (conv => lhs; cbv)))); (exact rfl))) ?_
          refine wpV_ofH (by ((try (conv => lhs; cbv)); (repeat ((first | (rewrite [cu2])); (try (conv => lhs; cbv)))); (exact rfl))) ?_
          (show finV _ _ _ = some _; ((try (conv => lhs; cbv)); (try (with_reducible rfl))); (try rfl))
      · rw [decide_eq_false h] at eq
        rw [if_neg (Ne.symm h), hgo, ← hdx] at ct
        clear hx1 hx2 hdx h
        generalize ix l J = x at *
        generalize ix l (mi J 1) = y at *
        try dsimp only at g1 g2 eq
        refine wpV_ofH (by ((try (conv => lhs; cbv)); (repeat ((first | (rewrite [g1]) | (rewrite [g2]) | (rewrite [eq]) | (rewrite [K.ofN]) | (rewrite [K.add]; rotate_left; focus ((try simp only [K.df, D.df, true_and, and_true]) <;> omega)) | (rewrite [K.sub]; rotate_left; focus ((try simp only [K.df, D.df, true_and, and_true]) <;> omega)) | (rewrite [K.at_]; rotate_left; focus ((try simp only [K.df, D.df, true_and, and_true]) <;> omega)) | (rewrite [K.ltT]; rotate_left; focus ((try simp only [K.df, D.df, true_and, and_true]) <;> omega))); (try (conv => lhs; cbv)))); (exact rfl))) ?_
        refine headQ_ofH (by ((try (conv => lhs; cbv)); (exact rfl))) ?_
        refine ⟨him, _, rfl, ?_, ct⟩
        rw [K.pl_]; omega
    · obtain rfl : i = N - 1 := by omega
      have hle : cmpct l = l := by
        have e : l.take (N - 1 + 1) = l := List.take_of_length_le (by omega)
        rw [e] at hgo; exact hgo
      rw [hle, ← hN, Nat.sub_self, List.replicate_zero, List.append_nil]
      refine wpV_ofH (by ((try (conv => lhs; cbv)); (repeat ((first | (rewrite [ofN]) | (rewrite [K.ltF]; rotate_left; focus ((try simp only [K.df, D.df, true_and, and_true]) <;> omega))); (try (conv => lhs; cbv)))); (exact rfl))) ?_
      show wpV _ _ _ _ _ _
      refine wpV_ofH (by ((try (conv => lhs; cbv)); (exact rfl))) ?_
      (show finV _ _ _ = some _; ((try (conv => lhs; cbv)); (try (with_reducible rfl))); (try rfl))
/-! ### The sort -/
def sortStr_ren : Go.Shelf.Ren := ⟨fun | 190 => 19 | 125 => 38 | 258 => 37 | 128 => 71 | 129 => 72 | 302 => 62 | 303 => 63 | 304 => 64 | 305 => 65 | 306 => 66 | 307 => 67 | 308 => 68 | 309 => 69 | 310 => 70 | 333 => 89 | 329 => 90 | 330 => 91 | 334 => 92 | 335 => 93 | 336 => 94 | 344 => 100 | n => n, fun | 31 => 30 | 9 => 9 | 3 => 3 | 46 => 70 | 0 => 0 | 51 => 102 | 53 => 104 | 4 => 4 | 183 => 96 | 182 => 95 | 131 => 86 | 5 => 5 | 218 => 116 | 222 => 120 | 228 => 130 | 229 => 56 | n => n, fun | n => n⟩
theorem sortStr : Go.Proofs.Lays.n190 Try.prog sortStr_ren := {
  mixed := by kernel_rfl
  f125 := Try.func38.trans (congrArg some (by kernel_rfl))
  f128 := Try.func71.trans (congrArg some (by kernel_rfl))
  f129 := Try.func72.trans (congrArg some (by kernel_rfl))
  f190 := Try.func19.trans (congrArg some (by kernel_rfl))
  f258 := Try.func37.trans (congrArg some (by kernel_rfl))
  f302 := Try.func62.trans (congrArg some (by kernel_rfl))
  f303 := Try.func63.trans (congrArg some (by kernel_rfl))
  f304 := Try.func64.trans (congrArg some (by kernel_rfl))
  f305 := Try.func65.trans (congrArg some (by kernel_rfl))
  f306 := Try.func66.trans (congrArg some (by kernel_rfl))
  f307 := Try.func67.trans (congrArg some (by kernel_rfl))
  f308 := Try.func68.trans (congrArg some (by kernel_rfl))
  f309 := Try.func69.trans (congrArg some (by kernel_rfl))
  f310 := Try.func70.trans (congrArg some (by kernel_rfl))
  f329 := Try.func90.trans (congrArg some (by kernel_rfl))
  f330 := Try.func91.trans (congrArg some (by kernel_rfl))
  f333 := Try.func89.trans (congrArg some (by kernel_rfl))
  f334 := Try.func92.trans (congrArg some (by kernel_rfl))
  f335 := Try.func93.trans (congrArg some (by kernel_rfl))
  f336 := Try.func94.trans (congrArg some (by kernel_rfl))
  f344 := Try.func100.trans (congrArg some (by kernel_rfl))
  t0 := Try.underlying0
  a0 := Try.isAgg0
  z0 := Try.sizeOf0
  v0 := Try.zeroValue0
  t3 := Try.underlying3
  a3 := Try.isAgg3
  z3 := Try.sizeOf3
  v3 := Try.zeroValue3
  t4 := Try.underlying4
  a4 := Try.isAgg4
  z4 := Try.sizeOf4
  v4 := Try.zeroValue4
  t5 := Try.underlying5
  a5 := Try.isAgg5
  z5 := Try.sizeOf5
  v5 := Try.zeroValue5
  t9 := Try.underlying9
  a9 := Try.isAgg9
  z9 := Try.sizeOf9
  v9 := Try.zeroValue9
  t31 := Try.underlying30
  a31 := Try.isAgg30
  z31 := Try.sizeOf30
  v31 := Try.zeroValue30
  t46 := Try.underlying70
  a46 := Try.isAgg70
  z46 := Try.sizeOf70
  v46 := Try.zeroValue70
  t51 := Try.underlying102
  a51 := Try.isAgg102
  z51 := Try.sizeOf102
  v51 := Try.zeroValue102
  t53 := Try.underlying104
  a53 := Try.isAgg104
  z53 := Try.sizeOf104
  v53 := Try.zeroValue104
  t131 := Try.underlying86
  a131 := Try.isAgg86
  z131 := Try.sizeOf86
  v131 := Try.zeroValue86
  t182 := Try.underlying95
  a182 := Try.isAgg95
  z182 := Try.sizeOf95
  v182 := Try.zeroValue95
  t183 := Try.underlying96
  a183 := Try.isAgg96
  z183 := Try.sizeOf96
  v183 := Try.zeroValue96
  t218 := Try.underlying116
  a218 := Try.isAgg116
  z218 := Try.sizeOf116
  v218 := Try.zeroValue116
  t222 := Try.underlying120
  a222 := Try.isAgg120
  z222 := Try.sizeOf120
  v222 := Try.zeroValue120
  t228 := Try.underlying130
  a228 := Try.isAgg130
  z228 := Try.sizeOf130
  v228 := Try.zeroValue130
  t229 := Try.underlying56
  a229 := Try.isAgg56
  z229 := Try.sizeOf56
  v229 := Try.zeroValue56 }
abbrev srtT (l : List (List UInt8)) : List (List UInt8) := l.mergeSort fun x y => decide (x ≤ y)
abbrev prI : CallT := sort1Pr 19 false (fun b : List UInt8 => .str ⟨b.toArray⟩) decT srtT (clonePr clones)
abbrev prJ : CallT → CallT := fun _ => prI
theorem prJ_ok : PrOK Try.prog prJ := sort1Pr_ok oneT (fun l => List.length_mergeSort l) (fun blk off cap zs w h1 h2 h3 => Any.slices_Sort_string sortStr blk off cap zs w h1 h2 h3) (fun p cap w => Any.slices_Sort_string_none sortStr p cap w) ⟨Try.f19, _, Try.func19, rfl, by kernel_rfl⟩ pr_ok
theorem prJ_mono : PrMono prJ := const_mono
abbrev Qn (n f : Nat) (vs : List FV) (bs : List Blk) (v : FV) (os : List Blk) : Prop := ∀ m, n ≤ m → play real (lookT tab) prJ m f vs bs = some (v, os)
theorem playQ {f : Nat} {vf : VFn} {vs : List FV} {bs : List Blk} {v : FV} {os : List Blk} (n : Nat) (hT : lookT tab f = some vf) (hlen : Nat.beq (lenF vs) vf.np = true)
    (h : ∀ A call, A = real → call = play real (lookT tab) prJ n → wpV A call (iterN n) vf.body ⟨lenH bs, padE vf.nt vs, bs⟩ (finQ A vf (v, os))) : Qn (n + 1) f vs bs v os := by
  obtain ⟨ex, s, h1, h2⟩ := h real _ rfl rfl
  have h0 : play real (lookT tab) prJ (n + 1) f vs bs = some (v, os) := by
    simp only [play, hT, bodyV, hlen, cond_true, h1, Option.bind_some]; exact h2
  exact fun m hm => play_mono prJ_mono hm _ _ _ _ h0
theorem play_le {pr pr' : CallT} (hp : Le pr pr') : ∀ n, Le (play real (lookT tab) (fun _ => pr) n) (play real (lookT tab) (fun _ => pr') n)
  | 0 => fun f vs bs r h => by simp [play] at h
  | n + 1 => fun f vs bs r h => by
    have ih := play_le hp n
    simp only [play] at h ⊢
    split at h
    · exact bodyV_mono ih (iterN_mono (Nat.le_refl _)) h
    · exact hp _ _ _ _ h
theorem cl_le : Le (clonePr clones) prI := fun f vs bs r h => by
  show sort1Pr 19 false (fun b : List UInt8 => .str ⟨b.toArray⟩) decT srtT (clonePr clones) f vs bs = some r
  unfold sort1Pr
  cases hf : Nat.beq f 19 with
  | false => exact h
  | true =>
    have := Nat.eq_of_beq_eq_true hf
    subst this
    have h0 : clonePr clones 19 vs bs = none := rfl
    rw [h0] at h; cases h
theorem lift {m f : Nat} {vs : List FV} {bs : List Blk} {r : FV × List Blk} (h : play real (lookT tab) (fun _ => clonePr clones) m f vs bs = some r) : play real (lookT tab) prJ m f vs bs = some r := play_le cl_le m _ _ _ _ h
end Go.Proofs.Ytinobfilomhhhaa
