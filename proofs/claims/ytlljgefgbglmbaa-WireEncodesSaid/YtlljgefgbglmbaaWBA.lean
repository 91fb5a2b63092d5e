/- Sums of bytes, and bytes with their sum ahead: gone through. -/
import Derived.Test.YtlljgefgbglmbaaCGS
set_option linter.unusedSimpArgs false
set_option linter.unusedVariables false
set_option maxRecDepth 100000
set_option maxHeartbeats 1000000
set_option cbv.maxSteps 10000000
namespace Go.Proofs.Ytlljgefgbglmbaa
open Go GoV

def colN : List Int := [1996959894, 3993919788, 124634137, 249268274, 498536548, 997073096, 1994146192, 3988292384]
def colL : List IV := [.int .u32 1996959894, .int .u32 3993919788, .int .u32 124634137, .int .u32 249268274, .int .u32 498536548, .int .u32 997073096, .int .u32 1994146192, .int .u32 3988292384]
def colF (i : Nat) : Int := colN.getD i 0
theorem p103 : ∃ k, Pn k 103 [] [] (.agg [.iv (.arr 8 colL)]) [] := by
  have h : Pl 103 [] (.agg [.iv (.arr 8 colL)]) [] := ⟨100, by kernel_rfl⟩
  exact h.at pr_mono
def xo (a b : Int) : Int := real .ar .xor .u32 a b
def lowB (s x : Int) : Int := real .ar .xor .u8 (real .ck .u8 s) x
def bitB (low : Int) (i : Nat) : Int := real .ar .and .u8 (real .ar .shr .u8 low i) 1
def inG (low s : Int) : Nat → Int
  | 0 => s
  | i + 1 => if bitB low i = 1 then xo (inG low s i) (colF i) else inG low s i
def stp (s x : Int) : Int := inG (lowB s x) (real .ar .shr .u32 s 8) 8
def sumGo : Int → List Nat → Int
  | s, [] => s
  | s, x :: r => sumGo (stp s x) r
/-- The sum of bytes. -/
def sumI (b : List Nat) : Int := real .un .xor .u32 (sumGo 4294967295 b)
theorem n64 (b : List Nat) (t : Bool) (hl : b.length ≤ 1000000000000000) : ∃ k, Pn k 64 [.one (.iv (.sl t 1 (by8 b)))] [] (.one (.iv (.int .u32 (sumI b)))) [] := by
  obtain ⟨kc, hkc⟩ := p103
  refine ⟨kc + b.length + 1001, playN (kc + b.length + 1000) rfl rfl fun A call hA hcall => ?_⟩
  obtain ⟨pl, mi, ml, nt, tn, ad, sb, K⟩ := kit hA
  obtain ⟨E, ix, sn, ll, cc, sg, B⟩ := lkit hA K (0 : Nat) (fun b => [.int .u8 (nt b)]) 1
  have hE : ∀ l, by8 l = E l := fun l => by rw [B.E_]; exact (by8E K.nt_ l).symm
  have k103 := hkc (kc + b.length + 1000) (by omega)
  rw [← hcall] at k103
  obtain ⟨CL, hCL⟩ : ∃ x, x = colL := ⟨_, rfl⟩
  obtain ⟨cf, hcf⟩ : ∃ f : Nat → Int, ∀ i, f i = colF i := ⟨_, fun _ => rfl⟩
  have gc : ∀ (i : Nat) (I : Int), i < 8 → I = i → A .getc CL I = some (.int .u32 (cf i)) := by
    intro i I h hI
    rw [hI, hcf, hCL, hA]
    rcases (show i = 0 ∨ i = 1 ∨ i = 2 ∨ i = 3 ∨ i = 4 ∨ i = 5 ∨ i = 6 ∨ i = 7 by omega) with rfl | rfl | rfl | rfl | rfl | rfl | rfl | rfl <;> rfl
  rw [← hCL] at k103
  obtain ⟨M, hM⟩ : ∃ M : Int, M = nt (ll b) := ⟨_, rfl⟩
  have hMl : M = b.length := by rw [hM, K.nt_, B.ll_]
  have ln : A .len (E b) = M := by rw [B.len, hM]
  obtain ⟨cv, hcv⟩ : ∃ f : Int → Int, ∀ s, f s = real .ck .u8 s := ⟨_, fun _ => rfl⟩
  obtain ⟨xw, hxw⟩ : ∃ f : Int → Int → Int, ∀ a b, f a b = real .ar .xor .u8 a b := ⟨_, fun _ _ => rfl⟩
  obtain ⟨sh, hsh⟩ : ∃ f : Int → Int, ∀ a, f a = real .ar .shr .u32 a 8 := ⟨_, fun _ => rfl⟩
  obtain ⟨sv, hsv⟩ : ∃ f : Int → Int → Int, ∀ a b, f a b = real .ar .shr .u8 a b := ⟨_, fun _ _ => rfl⟩
  obtain ⟨an, han⟩ : ∃ f : Int → Int, ∀ a, f a = real .ar .and .u8 a 1 := ⟨_, fun _ => rfl⟩
  obtain ⟨xx, hxx⟩ : ∃ f : Int → Int → Int, ∀ a b, f a b = xo a b := ⟨_, fun _ _ => rfl⟩
  obtain ⟨no, hno⟩ : ∃ f : Int → Int, ∀ a, f a = real .un .xor .u32 a := ⟨_, fun _ => rfl⟩
  have e1 : ∀ s, A .ck .u8 s = cv s := fun s => by rw [hA, hcv]
  have e2 : ∀ a b, A .ar .xor .u8 a b = xw a b := fun a b => by rw [hA, hxw]
  have e3 : ∀ a, A .ar .shr .u32 a 8 = sh a := fun a => by rw [hA, hsh]
  have e4 : ∀ a b, A .ar .shr .u8 a b = sv a b := fun a b => by rw [hA, hsv]
  have e5 : ∀ a, A .ar .and .u8 a 1 = an a := fun a => by rw [hA, han]
  have e6 : ∀ a b, A .ar .xor .u32 a b = xx a b := fun a b => by rw [hA, hxx]; rfl
  have e7 : ∀ a, A .un .xor .u32 a = no a := fun a => by rw [hA, hno]
  obtain ⟨G, hG⟩ : ∃ G : Int → Int → Nat → Int, ∀ l s i, G l s i = inG l s i := ⟨_, fun _ _ _ => rfl⟩
  have G0 : ∀ l s, G l s 0 = s := fun l s => by rw [hG]; rfl
  have Gs : ∀ l s i, G l s (i + 1) = if an (sv l i) = 1 then xx (G l s i) (cf i) else G l s i := fun l s i => by rw [hG, hG, han, hsv, hxx, hcf]; rfl
  have Gst : ∀ s x, stp s x = G (xw (cv s) x) (sh s) 8 := fun s x => by rw [hG, hxw, hcv, hsh]; rfl
  have fin : sumI b = no (sumGo 4294967295 b) := by rw [hno]; rfl
  rw [fin, hE]
  generalize hR : sumGo 4294967295 b = R
  clear hkc hCL hcv hxw hsh hsv han hxx hno hG hcf fin
  apply wpV_seq; refine wpV_ofH (by ((try (conv => lhs; cbv)); (exact rfl))) ?_
  apply wpV_seq; refine wpV_ofH (by ((try (conv => lhs; cbv)); (repeat ((first | (rewrite [k103])); (try (conv => lhs; cbv)))); (exact rfl))) ?_
  apply wpV_seq; refine wpV_ofH (by ((try (conv => lhs; cbv)); (exact rfl))) ?_
  apply wpV_seq; apply wpV_seq; refine wpV_ofH (by ((try (conv => lhs; cbv)); (repeat ((first | (rewrite [ln])); (try (conv => lhs; cbv)))); (exact rfl))) ?_
  apply wpV_block
  refine wpV_loop b.length (fun j st => ∃ (J S : Int), st = ⟨0, [u, u, u, .one (.ptr 0 0), .one (.iv (.int .u32 S)), u, u, u, u, u, .one (.iv (.sl t 1 (E b))), i64 M, i64 J, u, u, u, u, u, u, u, u, u, u, u, u, u, u, u, u, u, u, u, u, u, u, u, u, u, u], [.var false [.iv (.arr 8 CL)]]⟩ ∧ J = j ∧ sumGo S (b.drop j) = R) (by omega) (by ((try (conv => lhs; cbv)); (try (with_reducible rfl)))) ⟨0, 4294967295, rfl, rfl, hR⟩ ?_
  rintro j hj st ⟨J, S, rfl, hJ, hgo⟩
  by_cases hjl : j < b.length
  · have hd : b.drop j = ix b J :: b.drop (j + 1) := by
      rw [B.ix_, hJ, Int.toNat_natCast, List.drop_eq_getElem_cons (by omega), List.getD_eq_getElem?_getD, List.getElem?_eq_getElem (by omega)]; rfl
    have g1 := B.get (l := b) (J := J) (by omega)
    rw [hd, sumGo, Gst] at hgo
    have hx : ((ix b J : Nat) : Int) = nt (ix b J) := (K.nt_ _).symm
    rw [hx] at hgo
    generalize nt (ix b J) = X at *
    apply wpV_seq; refine wpV_ofH (by ((try (conv => lhs; cbv)); (repeat ((first | (rewrite [K.ltT]; rotate_left; focus ((try simp only [K.df, B.df, true_and, and_true]) <;> omega))); (try (conv => lhs; cbv)))); (exact rfl))) ?_
    apply wpV_seq; refine wpV_ofH (by ((try (conv => lhs; cbv)); (exact rfl))) ?_
    apply wpV_seq
    apply wpV_block
    apply wpV_seq; refine wpV_ofH (by ((try (conv => lhs; cbv)); (repeat ((first | (rewrite [g1])); (try (conv => lhs; cbv)))); (exact rfl))) ?_
    apply wpV_seq; refine wpV_ofH (by ((try (conv => lhs; cbv)); (repeat ((first | (rewrite [e1]) | (rewrite [e2])); (try (conv => lhs; cbv)))); (exact rfl))) ?_
    apply wpV_seq; refine wpV_ofH (by ((try (conv => lhs; cbv)); (repeat ((first | (rewrite [e3]) | (rewrite [K.nn]; rotate_left; focus ((try simp only [K.df, B.df, true_and, and_true]) <;> omega))); (try (conv => lhs; cbv)))); (exact rfl))) ?_
    apply wpV_seq; refine wpV_ofH (by ((try (conv => lhs; cbv)); (exact rfl))) ?_
    generalize xw (cv S) X = lw at *
    generalize sh S = s0 at *
    apply wpV_block
    refine wpV_loop 8 (fun i st => ∃ (I : Int), st = ⟨0, [u, u, u, .one (.ptr 0 0), .one (.iv (.int .u32 (G lw s0 i))), u, u, .one (.iv (.int .u8 lw)), u, u, .one (.iv (.sl t 1 (E b))), i64 M, i64 J, u, u, u, u, u, u, u, u, u, i64 I, u, u, u, u, u, u, u, u, u, u, u, u, u, u, u, u], [.var false [.iv (.arr 8 CL)]]⟩ ∧ I = i) (by omega) (by ((try (conv => lhs; cbv)); (try (with_reducible rfl)))) ⟨0, by rw [G0], rfl⟩ ?_
    rintro i hi st ⟨I, rfl, hI⟩
    by_cases hi8 : i < 8
    · have gcI := gc i I hi8 hI
      have gs := Gs lw s0 i
      rw [← hI] at gs
      generalize G lw s0 (i + 1) = s2 at *
      generalize G lw s0 i = s1 at *
      generalize cf i = ci at *
      have e5' := e5 (sv lw I)
      generalize an (sv lw I) = bb at *
      by_cases hb : bb = 1
      · rw [if_pos hb] at gs
        subst hb
        refine wpV_ofH (by ((try (conv => lhs; cbv)); (repeat ((first | (rewrite [e4]) | (rewrite [e5']) | (rewrite [gcI]) | (rewrite [e6]) | (rewrite [K.add]; rotate_left; focus ((try simp only [K.df, B.df, true_and, and_true]) <;> omega)) | (rewrite [K.nn]; rotate_left; focus ((try simp only [K.df, B.df, true_and, and_true]) <;> omega)) | (rewrite [K.at_]; rotate_left; focus ((try simp only [K.df, B.df, true_and, and_true]) <;> omega)) | (rewrite [K.ltT]; rotate_left; focus ((try simp only [K.df, B.df, true_and, and_true]) <;> omega)) | (rewrite [K.eqT]; rotate_left; focus ((try simp only [K.df, B.df, true_and, and_true]) <;> omega))); (try (conv => lhs; cbv)))); (exact rfl))) ?_
        refine headQ_ofH (by ((try (conv => lhs; cbv)); (exact rfl))) ?_
        refine ⟨hi8, _, by rw [gs], ?_⟩
        rw [K.pl_]; omega
      · rw [if_neg hb] at gs
        refine wpV_ofH (by ((try (conv => lhs; cbv)); (repeat ((first | (rewrite [e4]) | (rewrite [e5']) | (rewrite [K.add]; rotate_left; focus ((try simp only [K.df, B.df, true_and, and_true]) <;> omega)) | (rewrite [K.nn]; rotate_left; focus ((try simp only [K.df, B.df, true_and, and_true]) <;> omega)) | (rewrite [K.at_]; rotate_left; focus ((try simp only [K.df, B.df, true_and, and_true]) <;> omega)) | (rewrite [K.ltT]; rotate_left; focus ((try simp only [K.df, B.df, true_and, and_true]) <;> omega)) | (rewrite [K.eqF]; rotate_left; focus ((try simp only [K.df, B.df, true_and, and_true]) <;> omega))); (try (conv => lhs; cbv)))); (exact rfl))) ?_
        refine headQ_ofH (by ((try (conv => lhs; cbv)); (exact rfl))) ?_
        refine ⟨hi8, _, by rw [gs], ?_⟩
        rw [K.pl_]; omega
    · obtain rfl : i = 8 := by omega
      generalize G lw s0 8 = s8 at *
      refine wpV_ofH (by ((try (conv => lhs; cbv)); (repeat ((first | (rewrite [K.ltF]; rotate_left; focus ((try simp only [K.df, B.df, true_and, and_true]) <;> omega))); (try (conv => lhs; cbv)))); (exact rfl))) ?_
      show wpV _ _ _ _ _ _
      refine wpV_ofH (by ((try (conv => lhs; cbv)); (repeat ((first | (rewrite [K.add]; rotate_left; focus ((try simp only [K.df, B.df, true_and, and_true]) <;> omega))); (try (conv => lhs; cbv)))); (exact rfl))) ?_
      refine headQ_ofH (by ((try (conv => lhs; cbv)); (exact rfl))) ?_
      refine ⟨hjl, _, _, rfl, ?_, hgo⟩
      rw [K.pl_]; omega
  · obtain rfl : j = b.length := by omega
    rw [List.drop_of_length_le (Nat.le_refl _), sumGo] at hgo
    subst hgo
    refine wpV_ofH (by ((try (conv => lhs; cbv)); (repeat ((first | (rewrite [K.ltF]; rotate_left; focus ((try simp only [K.df, B.df, true_and, and_true]) <;> omega))); (try (conv => lhs; cbv)))); (exact rfl))) ?_
    show wpV _ _ _ _ _ _
    refine wpV_ofH (by ((try (conv => lhs; cbv)); (repeat ((first | (rewrite [e7])); (try (conv => lhs; cbv)))); (exact rfl))) ?_
    (show finV _ _ _ = some _; ((try (conv => lhs; cbv)); (try (with_reducible rfl))); (try rfl))
end Go.Proofs.Ytlljgefgbglmbaa
