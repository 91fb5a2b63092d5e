/- Texts behind bytes, and read: gone through. -/
import Derived.Test.YtinobfilomhhhaaUTB
import Derived.Lib.SlicesS
import Derived.Test.YtinobfilomhhhaaCGS
import Derived.Test.YtinobfilomhhhaaCGJ
set_option linter.unusedSimpArgs false
set_option linter.unusedVariables false
set_option maxRecDepth 100000
set_option maxHeartbeats 1000000
set_option cbv.maxSteps 10000000
namespace Go.Proofs.Ytinobfilomhhhaa
open Go GoV

/-- A text's bytes. -/
def sbl (s : ByteArray) : List Nat := s.data.toList.map (·.toNat)
theorem sbl_len (s : ByteArray) : (sbl s).length = s.size := by simp [sbl]
theorem sbl_lt (s : ByteArray) : ∀ b, b ∈ sbl s → b < 256 := by
  intro b hb
  simp only [sbl, List.mem_map] at hb
  obtain ⟨x, _, rfl⟩ := hb
  exact x.toNat_lt
theorem s2b_by8 (s : ByteArray) : real .s2b s = by8 (sbl s) := by
  rw [real_s2b]; simp [by8, sbl]
/-- Bytes as a text. -/
def strO (l : List Nat) : ByteArray := ⟨(l.map fun n => UInt8.ofNat n).toArray⟩
theorem b2s_by8 (l : List Nat) : real .b2s (by8 l) = some (strO l) := by
  have h : ∀ a : List Nat, rNums (by8 a) = some (a.map fun (n : Nat) => (n : Int)) := by
    intro a
    induction a with
    | nil => rfl
    | cons x r ih =>
      simp only [by8] at ih
      simp only [by8, List.map_cons, rNums, ih, Option.bind_some]
  rw [real_b2s]; unfold rB2s
  rw [h]
  simp [strO]
theorem strO_sbl (s : ByteArray) : strO (sbl s) = s := by
  have : (sbl s).map (fun n => UInt8.ofNat n) = s.data.toList := by
    simp only [sbl, List.map_map]
    conv => rhs; rw [← List.map_id s.data.toList]
    exact List.map_congr_left fun b _ => by simp
  unfold strO
  rw [this]
theorem n59 (a : List Nat) (t : Bool) (z : Nat) (hz : z = 0 ∨ z = 1) (s : ByteArray) (hs : s.size ≤ 1000000) (ha : a.length ≤ 199999990000000) :
    Pn 13 59 [.one (.iv (.sl t z (by8 a))), .one (.iv (.str s))] [] (.one (.slo 0 0 (a ++ (enc s.size ++ sbl s)).length)) [.arr false false 1 (by8 (a ++ (enc s.size ++ sbl s)))] := by
  refine playN 12 rfl rfl fun A call hA hcall => ?_
  obtain ⟨pl, mi, ml, nt, tn, ad, sb, K⟩ := kit hA
  obtain ⟨E, ix, sn, ll, cc, sg, B⟩ := lkit hA K (0 : Nat) (fun b => [.int .u8 (nt b)]) 1
  have hE : ∀ l, by8 l = E l := fun l => by rw [B.E_]; exact (by8E K.nt_ l).symm
  have k1 := n60 a t z hz (x := s.size) (by omega) (by omega) 12 (by omega)
  rw [← hcall] at k1
  obtain ⟨L, hL⟩ : ∃ L : Int, L = s.size := ⟨_, rfl⟩
  have l1 : A .slen s = L := by rw [hA, real_slen, hL]
  have sb1 : A .s2b s = E (sbl s) := by rw [hA, s2b_by8, hE]
  have hsl := sbl_len s
  obtain ⟨c, hc⟩ : ∃ c, c = a ++ enc s.size := ⟨_, rfl⟩
  have hcl : c.length ≤ 199999990000009 := by rw [hc, List.length_append, enc_len]; have := nd_le s.size; omega
  rw [← hL, ← hc] at k1
  rw [← List.append_assoc, ← hc, ← B.cc_, ← B.ll_ (cc c _)]
  simp only [hE] at k1 ⊢
  obtain ⟨n, hn⟩ : ∃ n, n = c.length := ⟨_, rfl⟩
  rw [← hn] at k1
  generalize sbl s = w at *
  rcases hz with rfl | rfl
  all_goals
    refine wpV_ofH (by ((try (conv => lhs; cbv)); (repeat ((first | (rewrite [l1]) | (rewrite [k1]) | (rewrite [sb1]) | (rewrite [K.addN]) | (rewrite [B.ln]) | (rewrite [B.apoL]; rotate_left; focus ((try simp only [K.df, B.df, true_and, and_true]) <;> omega))); (try (conv => lhs; cbv)))); (exact rfl))) ?_
    (show finV _ _ _ = some _; ((try (conv => lhs; cbv)); (try (with_reducible rfl))); (try rfl))
def textS (bs : List Nat) (most : Int) (s : RS) : ByteArray × RS :=
  match takeS (numS bs most s).1 (numS bs most s).2 with
  | (none, s') => (⟨#[]⟩, s')
  | (some o, s') => (strO ((bs.drop o).take (numS bs most s).1), s')
theorem isOk_take {j : Nat} {s : RS} (h : s.isOk = false) : takeS j s = (none, s) := by
  cases s with
  | ok f o n => cases h
  | er f e => rfl
theorem n76 (bs : List Nat) (hb : ∀ b, b ∈ bs → b < 256) (most : Int) (s : RS) (hs : s.fits bs.length) : Pn 14 76 [rp, i64 most] (rdS s.isOk (by8 bs) s) (.one (.iv (.str (textS bs most s).1))) (rdS s.isOk (by8 bs) (textS bs most s).2) := by
  refine playN 13 rfl rfl fun A call hA hcall => ?_
  obtain ⟨pl, mi, ml, nt, tn, ad, sb, K⟩ := kit hA
  obtain ⟨E, ix, sn, ll, cc, sg, B⟩ := lkit hA K (0 : Nat) (fun b => [.int .u8 (nt b)]) 1
  have hes : (by8 bs).length = bs.length := by8_len bs
  have k1 := n75 bs hb most s hs 13 (by omega)
  have hf := numS_fits (most := most) hs
  have kt : ∀ (j : Nat) (s : RS), s.fits bs.length → call 97 [rp, i64 j] (rdS s.isOk (by8 bs) s) = some (takeF (by8 bs) j (takeS j s).1, rdS s.isOk (by8 bs) (takeS j s).2) := fun j s h => by rw [hcall]; exact n97 _ _ _ (by rw [hes]; exact h) 13 (by omega)
  have b0 : A .b2s [] = some ⟨#[]⟩ := by rw [hA]; rfl
  have b1 : ∀ o j, A .b2s (rSeg (by8 bs) o j) = some (strO ((bs.drop o).take j)) := fun o j => by
    rw [hA, ← b2s_by8]; congr 1; unfold rSeg by8; simp
  have hee : ∀ f e, s = .er f e → numS bs most s = (0, s) := by rintro f e rfl; rfl
  rw [← hcall] at k1
  unfold textS
  generalize numS bs most s = N at *
  obtain ⟨n, s1⟩ := N
  dsimp only at k1 hf ⊢
  have k2 := kt n s1 hf
  have hte := fun h => isOk_take (j := n) (s := s1) h
  have hts : ∀ o, (takeS n s1).1 = some o → (takeS n s1).2.isOk = true := by
    intro o h
    cases s1 with
    | er f e => simp [takeS] at h
    | ok f o' n' =>
      simp only [takeS] at h ⊢
      split at h
      · cases h
      · rename_i hc; rw [if_neg hc]; rfl
  generalize takeS n s1 = T at *
  obtain ⟨r, s2⟩ := T
  dsimp only at k2 hts ⊢
  (conv at b0 => rhs; cbv)
  have em : (⟨#[]⟩ : ByteArray) = ⟨#[]⟩ := rfl
  obtain ⟨e0, he0⟩ : ∃ e0 : ByteArray, e0 = ⟨#[]⟩ := ⟨_, rfl⟩
  generalize (n : Int) = NN at *
  cases s with
  | er f e =>
    have h1 := hee f e rfl
    simp only [Prod.mk.injEq] at h1
    obtain ⟨h0, rfl⟩ := h1
    have h2 := hte rfl
    simp only [Prod.mk.injEq] at h2
    obtain ⟨rfl, rfl⟩ := h2
    dsimp only [takeF, RS.isOk, cond_true, cond_false, rdS] at k1 k2 ⊢
    refine wpV_ofH (by ((try (conv => lhs; cbv)); (repeat ((first | (rewrite [k1]) | (rewrite [k2]) | (rewrite [b0])); (try (conv => lhs; cbv)))); (exact rfl))) ?_
    (show finV _ _ _ = some _; ((try (conv => lhs; cbv)); (try (with_reducible rfl))); (try rfl))
  | ok f o n0 =>
    cases s1 with
    | er f1 e1 =>
      have h2 := hte rfl
      simp only [Prod.mk.injEq] at h2
      obtain ⟨rfl, rfl⟩ := h2
      dsimp only [takeF, RS.isOk, cond_true, cond_false, rdS] at k1 k2 ⊢
      generalize by8 bs = es at *
      refine wpV_ofH (by ((try (conv => lhs; cbv)); (repeat ((first | (rewrite [k1]) | (rewrite [k2]) | (rewrite [b0])); (try (conv => lhs; cbv)))); (exact rfl))) ?_
      (show finV _ _ _ = some _; ((try (conv => lhs; cbv)); (try (with_reducible rfl))); (try rfl))
    | ok f1 o1 n1 =>
      cases r with
      | none =>
        cases s2 with
        | ok f2 o2 n2 =>
          dsimp only [takeF, RS.isOk, cond_true, cond_false, rdS] at k1 k2 ⊢
          generalize by8 bs = es at *
          refine wpV_ofH (by ((try (conv => lhs; cbv)); (repeat ((first | (rewrite [k1]) | (rewrite [k2]) | (rewrite [b0])); (try (conv => lhs; cbv)))); (exact rfl))) ?_
          (show finV _ _ _ = some _; ((try (conv => lhs; cbv)); (try (with_reducible rfl))); (try rfl))
        | er f2 e2 =>
          dsimp only [takeF, RS.isOk, cond_true, cond_false, rdS] at k1 k2 ⊢
          generalize by8 bs = es at *
          refine wpV_ofH (by ((try (conv => lhs; cbv)); (repeat ((first | (rewrite [k1]) | (rewrite [k2]) | (rewrite [b0])); (try (conv => lhs; cbv)))); (exact rfl))) ?_
          (show finV _ _ _ = some _; ((try (conv => lhs; cbv)); (try (with_reducible rfl))); (try rfl))
      | some o2 =>
        have h3 := hts o2 rfl
        cases s2 with
        | er f2 e2 => cases h3
        | ok f2 o3 n3 =>
          have b2 := b1 o2 n
          dsimp only [takeF, RS.isOk, cond_true, cond_false, rdS] at k1 k2 ⊢
          generalize rSeg (by8 bs) o2 n = ss at *
          generalize strO ((bs.drop o2).take n) = str at *
          generalize by8 bs = es at *
          refine wpV_ofH (by ((try (conv => lhs; cbv)); (repeat ((first | (rewrite [k1]) | (rewrite [k2]) | (rewrite [b2])); (try (conv => lhs; cbv)))); (exact rfl))) ?_
          (show finV _ _ _ = some _; ((try (conv => lhs; cbv)); (try (with_reducible rfl))); (try rfl))
/-! ### Dots -/
def dotS (bs : List Nat) (s : RS) : (Int × Int) × RS := (((numS bs 63 s).1, (numS bs 1073741824 (numS bs 63 s).2).1), (numS bs 1073741824 (numS bs 63 s).2).2)
end Go.Proofs.Ytinobfilomhhhaa
