/- Texts behind bytes, and read: gone through. -/
import Derived.Test.YtlljgefgbglmbaaUTE
import Derived.Test.YtlljgefgbglmbaaCGS
import Derived.Test.YtlljgefgbglmbaaCGK
set_option linter.unusedSimpArgs false
set_option linter.unusedVariables false
set_option maxRecDepth 100000
set_option maxHeartbeats 1000000
set_option cbv.maxSteps 10000000
namespace Go.Proofs.Ytlljgefgbglmbaa
open Go GoV

/-- A text's bytes. -/
def sbl (s : ByteArray) : List Nat := s.data.toList.map (·.toNat)
theorem sbl_len (s : ByteArray) : (sbl s).length = s.size := by simp [sbl]
theorem sbl_lt (s : ByteArray) : ∀ b, b ∈ sbl s → b < 256 := by
  intro b hb
  simp only [sbl, List.mem_map] at hb
  obtain ⟨x, _, rfl⟩ := hb
  exact x.toNat_lt
theorem s2b_by8 (s : ByteArray) : real .s2b s = by8 (sbl s) := by
  rw [real_s2b]; simp [by8, sbl]
/-- Bytes as a text. -/
def strO (l : List Nat) : ByteArray := ⟨(l.map fun n => UInt8.ofNat n).toArray⟩
theorem n63 (a : List Nat) (t : Bool) (z : Nat) (hz : z = 0 ∨ z = 1) (s : ByteArray) (hs : s.size ≤ 1000000) (ha : a.length ≤ 199999990000000) :
    Pn 13 63 [.one (.iv (.sl t z (by8 a))), .one (.iv (.str s))] [] (.one (.slo 0 0 (a ++ (enc s.size ++ sbl s)).length)) [.arr false false 1 (by8 (a ++ (enc s.size ++ sbl s)))] := by
  refine playN 12 rfl rfl fun A call hA hcall => ?_
  obtain ⟨pl, mi, ml, nt, tn, ad, sb, K⟩ := kit hA
  obtain ⟨E, ix, sn, ll, cc, sg, B⟩ := lkit hA K (0 : Nat) (fun b => [.int .u8 (nt b)]) 1
  have hE : ∀ l, by8 l = E l := fun l => by rw [B.E_]; exact (by8E K.nt_ l).symm
  have k1 := n21 a t z hz (x := s.size) (by omega) (by omega) 12 (by omega)
  rw [← hcall] at k1
  obtain ⟨L, hL⟩ : ∃ L : Int, L = s.size := ⟨_, rfl⟩
  have l1 : A .slen s = L := by rw [hA, real_slen, hL]
  have sb1 : A .s2b s = E (sbl s) := by rw [hA, s2b_by8, hE]
  have hsl := sbl_len s
  obtain ⟨c, hc⟩ : ∃ c, c = a ++ enc s.size := ⟨_, rfl⟩
  have hcl : c.length ≤ 199999990000009 := by rw [hc, List.length_append, enc_len]; have := nd_le s.size; omega
  rw [← hL, ← hc] at k1
  rw [← List.append_assoc, ← hc, ← B.cc_, ← B.ll_ (cc c _)]
  simp only [hE] at k1 ⊢
  obtain ⟨n, hn⟩ : ∃ n, n = c.length := ⟨_, rfl⟩
  rw [← hn] at k1
  generalize sbl s = w at *
  rcases hz with rfl | rfl
  all_goals
    refine wpV_ofH (by ((try (conv => lhs; cbv)); (repeat ((first | (rewrite [l1]) | (rewrite [k1]) | (rewrite [sb1]) | (rewrite [K.addN]) | (rewrite [B.ln]) | (rewrite [B.apoL]; rotate_left; focus ((try simp only [K.df, B.df, true_and, and_true]) <;> omega))); (try (conv => lhs; cbv)))); (exact rfl))) ?_
    (show finV _ _ _ = some _; ((try (conv => lhs; cbv)); (try (with_reducible rfl))); (try rfl))
def textS (bs : List Nat) (most : Int) (s : RS) : ByteArray × RS :=
  match takeS (numS bs most s).1 (numS bs most s).2 with
  | (none, s') => (⟨#[]⟩, s')
  | (some o, s') => (strO ((bs.drop o).take (numS bs most s).1), s')
/-! ### Dots -/
abbrev dotF (d : Int × Int) : FV := .agg [.iv (.int .i64 d.1), .iv (.int .i64 d.2)]
def dotS (bs : List Nat) (s : RS) : (Int × Int) × RS := (((numS bs 63 s).1, (numS bs 1073741824 (numS bs 63 s).2).1), (numS bs 1073741824 (numS bs 63 s).2).2)
theorem n62 (a : List Nat) (t : Bool) (z : Nat) (hz : z = 0 ∨ z = 1) (r n : Nat) (hr : r < 2 ^ 63) (hn : n < 2 ^ 63) (ha : a.length ≤ 199999990000000) :
    Pn 13 62 [.one (.iv (.sl t z (by8 a))), dotF (r, n)] [] (.one (.slo 0 0 (a ++ (enc r ++ enc n)).length)) [.arr false false 1 (by8 (a ++ (enc r ++ enc n)))] := by
  refine playN 12 rfl rfl fun A call hA hcall => ?_
  have k1 := n21 a t z hz (x := r) hr (by omega) 12 (by omega)
  have k2 := fun t2 => n21 (a ++ enc r) t2 1 (.inr rfl) (x := n) hn (by rw [List.length_append, enc_len]; have := nd_le r; omega) 12 (by omega)
  have s1 := seg0 hA (es := by8 (a ++ enc r)) (n := (a ++ enc r).length) (by rw [by8_len])
  rw [← hcall] at k1 k2
  rw [← List.append_assoc]
  dsimp only [dotF]
  generalize (r : Int) = R at *
  generalize (n : Int) = N at *
  generalize by8 a = e0 at *
  generalize by8 (a ++ enc r) = e1 at *
  generalize by8 (a ++ enc r ++ enc n) = e2 at *
  generalize (a ++ enc r).length = n1 at *
  generalize (a ++ enc r ++ enc n).length = n2 at *
  refine wpV_of (by ((conv => lhs; cbv); (repeat ((first | rewrite [k1] | rewrite [s1] | rewrite [k2]); (try (conv => lhs; cbv)))); (try (with_reducible rfl)))) ?_
  (show finV _ _ _ = some _; ((conv => lhs; cbv); (try (with_reducible rfl))); (try rfl))
end Go.Proofs.Ytlljgefgbglmbaa
