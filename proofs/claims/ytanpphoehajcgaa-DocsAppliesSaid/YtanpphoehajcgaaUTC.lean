/- utf.Next, gone through. -/
import Derived.Test.YtanpphoehajcgaaUTB
set_option linter.unusedSimpArgs false
set_option linter.unusedVariables false
set_option maxRecDepth 100000
set_option maxHeartbeats 4000000
namespace Go.Proofs.Ytanpphoehajcgaa
open Go GoV

theorem w84a (A : Ar) (call : CallT) (n : Nat) (s : ByteArray) (i L b0 sz bi le rem : Int) (z0 g : Bool) (h1 : A .cmp .lss i 0 = false) (h2 : A .slen s = L) (h3 : A .cmp .geq i L = false) (h4 : A .sidx s i = some b0) (h5 : call 110 [u8 b0] [] = some (shF sz bi le, []))
    (h6 : A .cmp .eql sz 0 = z0) (h7 : A .ar .sub .i64 L i = rem) (h8 : A .cmp .gtr sz rem = g) (h : z0 = true ∨ g = true) :
    wpV A call (iterN n) v84.body ⟨0, padE 72 [.one (.iv (.str s)), i64 i], []⟩ (finQ A v84 (tupF (-1) 1, [])) := by
  apply wpV_seq; refine wpV_of (by ((conv => lhs; cbv); (try (with_reducible rfl)))) ?_
  apply wpV_seq; refine wpV_of (by ((conv => lhs; cbv); (repeat ((first | rewrite [h2] | rewrite [h1] | rewrite [h3]); (try (conv => lhs; cbv)))); (try (with_reducible rfl)))) ?_
  apply wpV_seq; refine wpV_of (by ((conv => lhs; cbv); (repeat ((first | rewrite [h4] | rewrite [h5]); (try (conv => lhs; cbv)))); (try (with_reducible rfl)))) ?_
  cases z0 with
  | true =>
    (refine wpV_of (by ((conv => lhs; cbv); (repeat ((first | rewrite [h6]); (try (conv => lhs; cbv)))); (try (with_reducible rfl)))) ?_; (show finV _ _ _ = some _; ((conv => lhs; cbv); (repeat ((first | rewrite [h6]); (try (conv => lhs; cbv)))); (try (with_reducible rfl))); (try rfl)))
  | false =>
    cases g with
    | true =>
      (refine wpV_of (by ((conv => lhs; cbv); (repeat ((first | rewrite [h6] | rewrite [h2] | rewrite [h7] | rewrite [h8]); (try (conv => lhs; cbv)))); (try (with_reducible rfl)))) ?_; (show finV _ _ _ = some _; ((conv => lhs; cbv); (repeat ((first | rewrite [h6] | rewrite [h2] | rewrite [h7] | rewrite [h8]); (try (conv => lhs; cbv)))); (try (with_reducible rfl))); (try rfl)))
    | false => simp at h
theorem w84 (A : Ar) (call : CallT) (n m : Nat) (hn : m < n) (s t : ByteArray) (i L b0 sz bi le rem i1 i2 : Int) (h1 : A .cmp .lss i 0 = false) (h2 : A .slen s = L) (h3 : A .cmp .geq i L = false) (h4 : A .sidx s i = some b0) (h5 : call 110 [u8 b0] [] = some (shF sz bi le, []))
    (h6 : A .cmp .eql sz 0 = false) (h7 : A .ar .sub .i64 L i = rem) (h8 : A .cmp .gtr sz rem = false) (h9009 : A .ar .add .i64 i 1 = i1) (h9010 : A .ar .add .i64 i sz = i2) (h11 : A .sext s (some i1) (some i2) = some t)
    (es : List (List IV)) (h12 : A .s2b t = es) (ix cc rr sh lo dj : Nat → Int) (bad : Nat → Bool) (hz : ix 0 = 0) (hr : rr 0 = bi)
    (g1 : ∀ j, j < m → A .cmp .lss (ix j) (A .len es) = true) (g2 : A .cmp .lss (ix m) (A .len es) = false) (g3 : ∀ j, j < m → A .ar .add .i64 (ix j) 1 = ix (j + 1)) (g4 : ∀ j, j < m → A .get es (ix j) = some [.int .u8 (cc j)])
    (g5 : ∀ j, j < m → A .ar .and .u8 (cc j) 192 = dj j) (g6 : ∀ j, j < m → A .cmp .neq (dj j) 128 = bad j) (g7 : ∀ j, j < m → A .ar .shl .i64 (rr j) 6 = sh j) (g8 : A .nn 6 = true) (g9 : ∀ j, j < m → A .ar .and .u8 (cc j) 63 = lo j) (g10 : ∀ j, j < m → A .ck .i64 (lo j) = lo j)
    (g11 : ∀ j, j < m → A .ar .or .i64 (sh j) (lo j) = rr (j + 1)) (b1 b2 : Bool) (k1 : A .cmp .lss (rr m) le = b1) (k2 : call 111 [i64 (rr m)] [] = some (bl b2, [])) (x y : Int)
    (r1 : ∀ j, j < m → bad j = true → x = -1 ∧ y = 1) (r2 : (∀ j, j < m → bad j = false) → b1 = true ∨ b2 = false → x = -1 ∧ y = 1) (r3 : (∀ j, j < m → bad j = false) → b1 = false → b2 = true → x = rr m ∧ y = sz) :
    wpV A call (iterN n) v84.body ⟨0, padE 72 [.one (.iv (.str s)), i64 i], []⟩ (finQ A v84 (tupF x y, [])) := by
  apply wpV_seq; refine wpV_of (by ((conv => lhs; cbv); (try (with_reducible rfl)))) ?_
  apply wpV_seq; refine wpV_of (by ((conv => lhs; cbv); (repeat ((first | rewrite [h2] | rewrite [h1] | rewrite [h3]); (try (conv => lhs; cbv)))); (try (with_reducible rfl)))) ?_
  apply wpV_seq; refine wpV_of (by ((conv => lhs; cbv); (repeat ((first | rewrite [h4] | rewrite [h5]); (try (conv => lhs; cbv)))); (try (with_reducible rfl)))) ?_
  apply wpV_seq; refine wpV_of (by ((conv => lhs; cbv); (repeat ((first | rewrite [h6] | rewrite [h2] | rewrite [h7] | rewrite [h8]); (try (conv => lhs; cbv)))); (try (with_reducible rfl)))) ?_
  apply wpV_seq; refine wpV_of (by ((conv => lhs; cbv); (try (with_reducible rfl)))) ?_
  apply wpV_seq; apply wpV_seq; refine wpV_of (by ((conv => lhs; cbv); (repeat ((first | rewrite [h9009] | rewrite [h9010] | rewrite [h11] | rewrite [h12]); (try (conv => lhs; cbv)))); (try (with_reducible rfl)))) ?_
  apply wpV_block
  refine wpV_loop m (fun j st => (∀ k, k < j → bad k = false) ∧ st = ⟨0, (u :: u :: u :: u :: u :: u :: .one (.ptr 0 0) :: i64 (rr j) :: u :: u :: u :: u :: u :: u :: u :: u :: u :: u :: u :: u :: u :: u :: u :: u :: u :: u :: u :: u :: u :: u :: u :: u :: u :: u :: u :: u :: u :: u :: u :: u :: u :: u :: u :: u :: .one (.iv (.sl false 1 es)) :: i64 (A .len es) :: i64 (ix j) :: u :: u :: u :: u :: u :: u :: u :: u :: u :: u :: u :: u :: u :: u :: u :: u :: u :: u :: u :: u :: u :: u :: u :: u :: u :: []), [.var false [.iv (.int .i64 sz), .iv (.int .i64 bi), .iv (.int .i64 le)]]⟩) hn (by ((conv => lhs; cbv); (try (with_reducible rfl)))) ⟨fun k hk => by omega, by rw [hz, hr, ← h12]⟩ ?_
  rintro j hj st ⟨hbad, rfl⟩
  by_cases hjm : j < m
  · cases hb : bad j with
    | true =>
      obtain ⟨rfl, rfl⟩ := r1 j hjm hb
      have g6j := g6 j hjm
      rw [hb] at g6j
      (refine wpV_of (by ((conv => lhs; cbv); (repeat ((first | rewrite [g1 j hjm] | rewrite [g4 j hjm] | rewrite [g5 j hjm] | rewrite [g6j]); (try (conv => lhs; cbv)))); (try (with_reducible rfl)))) ?_; (show finV _ _ _ = some _; ((conv => lhs; cbv); (repeat ((first | rewrite [g1 j hjm] | rewrite [g4 j hjm] | rewrite [g5 j hjm] | rewrite [g6j]); (try (conv => lhs; cbv)))); (try (with_reducible rfl))); (try rfl)))
    | false =>
      have g6j := g6 j hjm
      rw [hb] at g6j
      refine wpV_of (by ((conv => lhs; cbv); (repeat ((first | rewrite [g1 j hjm] | rewrite [g4 j hjm] | rewrite [g5 j hjm] | rewrite [g6j] | rewrite [g8] | rewrite [g9 j hjm]); (try (conv => lhs; cbv)))); (try (with_reducible rfl)))) ?_
      refine headQ_of (by ((conv => lhs; cbv); (try (with_reducible rfl)))) ?_
      refine ⟨hjm, fun k hk => ?_, (by ((rw [g7 j hjm, g9 j hjm, g10 j hjm, g11 j hjm, g3 j hjm]) <;> rfl))⟩
      by_cases e : k = j
      · rw [e]; exact hb
      · exact hbad k (by omega)
  · obtain rfl : j = m := by omega
    refine wpV_of (by ((conv => lhs; cbv); (repeat ((first | rewrite [g2]); (try (conv => lhs; cbv)))); (try (with_reducible rfl)))) ?_
    show wpV _ _ _ _ _ _
    cases b1 with
    | true =>
      obtain ⟨rfl, rfl⟩ := r2 hbad (.inl rfl)
      (refine wpV_of (by ((conv => lhs; cbv); (repeat ((first | rewrite [k1]); (try (conv => lhs; cbv)))); (try (with_reducible rfl)))) ?_; (show finV _ _ _ = some _; ((conv => lhs; cbv); (repeat ((first | rewrite [k1]); (try (conv => lhs; cbv)))); (try (with_reducible rfl))); (try rfl)))
    | false =>
      cases b2 with
      | false =>
        obtain ⟨rfl, rfl⟩ := r2 hbad (.inr rfl)
        (refine wpV_of (by ((conv => lhs; cbv); (repeat ((first | rewrite [k1] | rewrite [k2]); (try (conv => lhs; cbv)))); (try (with_reducible rfl)))) ?_; (show finV _ _ _ = some _; ((conv => lhs; cbv); (repeat ((first | rewrite [k1] | rewrite [k2]); (try (conv => lhs; cbv)))); (try (with_reducible rfl))); (try rfl)))
      | true =>
        obtain ⟨e1, rfl⟩ := r3 hbad rfl rfl
        rw [e1]
        (refine wpV_of (by ((conv => lhs; cbv); (repeat ((first | rewrite [k1] | rewrite [k2]); (try (conv => lhs; cbv)))); (try (with_reducible rfl)))) ?_; (show finV _ _ _ = some _; ((conv => lhs; cbv); (repeat ((first | rewrite [k1] | rewrite [k2]); (try (conv => lhs; cbv)))); (try (with_reducible rfl))); (try rfl)))
theorem or_low {a b : Int} (h0 : 0 ≤ a) (h1 : a ≤ 1000000000) (hb : 0 ≤ b) (hb' : b < 64) : real .ar .or .i64 (a * 64) b = a * 64 + b := by
  show IntKind.i64.wrap _ = _
  have e : ((BitVec.ofInt IntKind.i64.bits (a * 64) ||| BitVec.ofInt IntKind.i64.bits b).toNat : Int) = a * 64 + b := by
    obtain ⟨p, rfl⟩ : ∃ p : Nat, a = p := ⟨a.toNat, by omega⟩
    obtain ⟨q, rfl⟩ : ∃ q : Nat, b = q := ⟨b.toNat, by omega⟩
    have h2 := Nat.two_pow_add_eq_or_of_lt (i := 6) (b := q) (by omega) p
    rw [BitVec.toNat_or]
    have e1 : (BitVec.ofInt IntKind.i64.bits ((p : Int) * 64)).toNat = 2 ^ 6 * p := by
      show (BitVec.ofInt 64 ((p : Int) * 64)).toNat = _
      rw [BitVec.toNat_ofInt]; omega
    have e2 : (BitVec.ofInt IntKind.i64.bits (q : Int)).toNat = q := by
      show (BitVec.ofInt 64 (q : Int)).toNat = _
      rw [BitVec.toNat_ofInt]; omega
    rw [e1, e2, ← h2]
    omega
  rw [e]
  exact wrap_in (by unfold inI; omega)
theorem shl6 {a : Int} (h0 : 0 ≤ a) (h1 : a ≤ 1000000000) : real .ar .shl .i64 a 6 = a * 64 := by
  show IntKind.i64.wrap (a * 2 ^ (min (6 : Int).toNat 64)) = _
  rw [show a * 2 ^ (min (6 : Int).toNat 64) = a * 64 by rfl]
  exact wrap_in (by unfold inI; omega)
/-- What the bytes behind the first one make of its bits. -/
def rrS (s : ByteArray) (i : Nat) (b : Int) : Nat → Int
  | 0 => b
  | j + 1 => rrS s i b j * 64 + bt s (i + 1 + j) % 64
theorem rrS_range (s : ByteArray) (i : Nat) {b : Int} (h0 : 0 ≤ b) (h1 : b < 32) : ∀ j, j ≤ 3 → 0 ≤ rrS s i b j ∧ rrS s i b j < 32 * 64 ^ j
  | 0, _ => by simp [rrS, h0, h1]
  | j + 1, hj => by
    obtain ⟨h2, h3⟩ := rrS_range s i h0 h1 j (by omega)
    rcases (by omega : j = 0 ∨ j = 1 ∨ j = 2) with rfl | rfl | rfl <;> (simp only [rrS] at h2 h3 ⊢; omega)
theorem nx_1 {n : Nat} {a b c d : Int} (h : a < 128) : nx n a b c d = (a, 1) := by simp [nx, h]
theorem nx_2 {n : Nat} {a b c d : Int} (h : 192 ≤ a) (h' : a < 224) : nx n a b c d = if n < 2 ∨ b / 64 ≠ 2 ∨ a % 32 * 64 + b % 64 < 128 then (-1, 1) else (a % 32 * 64 + b % 64, 2) := by
  unfold nx; rw [if_neg (by omega), if_neg (by omega), if_pos (by omega)]
theorem nx_3 {n : Nat} {a b c d : Int} (h : 224 ≤ a) (h' : a < 240) : nx n a b c d = if n < 3 ∨ b / 64 ≠ 2 ∨ c / 64 ≠ 2 ∨ (a % 16 * 64 + b % 64) * 64 + c % 64 < 2048 ∨ isSign ((a % 16 * 64 + b % 64) * 64 + c % 64) = false then (-1, 1) else ((a % 16 * 64 + b % 64) * 64 + c % 64, 3) := by
  unfold nx; rw [if_neg (by omega), if_neg (by omega), if_neg (by omega), if_pos (by omega)]
theorem nx_4 {n : Nat} {a b c d : Int} (h : 240 ≤ a) (h' : a < 248) : nx n a b c d = if n < 4 ∨ b / 64 ≠ 2 ∨ c / 64 ≠ 2 ∨ d / 64 ≠ 2 ∨ ((a % 8 * 64 + b % 64) * 64 + c % 64) * 64 + d % 64 < 65536 ∨ isSign (((a % 8 * 64 + b % 64) * 64 + c % 64) * 64 + d % 64) = false then (-1, 1) else (((a % 8 * 64 + b % 64) * 64 + c % 64) * 64 + d % 64, 4) := by
  unfold nx; rw [if_neg (by omega), if_neg (by omega), if_neg (by omega), if_neg (by omega), if_pos (by omega)]
theorem nx_0 {n : Nat} {a b c d : Int} (h : 128 ≤ a ∧ a < 192 ∨ 248 ≤ a) : nx n a b c d = (-1, 1) := by
  unfold nx
  rw [if_neg (by omega)]
  by_cases h2 : a < 192
  · rw [if_pos h2]
  · rw [if_neg h2, if_neg (by omega), if_neg (by omega), if_neg (by omega)]
theorem fB_2 {a : Int} (h : 192 ≤ a) (h' : a < 224) : fB a = a % 32 := by unfold fB; rw [if_neg (by omega), if_neg (by omega), if_pos (by omega)]
theorem fB_3 {a : Int} (h : 224 ≤ a) (h' : a < 240) : fB a = a % 16 := by unfold fB; rw [if_neg (by omega), if_neg (by omega), if_neg (by omega), if_pos (by omega)]
theorem fB_4 {a : Int} (h : 240 ≤ a) (h' : a < 248) : fB a = a % 8 := by unfold fB; rw [if_neg (by omega), if_neg (by omega), if_neg (by omega), if_neg (by omega), if_pos (by omega)]
theorem fL_2 {a : Int} (h : 192 ≤ a) (h' : a < 224) : fL a = 128 := by unfold fL; rw [if_neg (by omega), if_neg (by omega), if_pos (by omega)]
theorem fL_3 {a : Int} (h : 224 ≤ a) (h' : a < 240) : fL a = 2048 := by unfold fL; rw [if_neg (by omega), if_neg (by omega), if_neg (by omega), if_pos (by omega)]
theorem fL_4 {a : Int} (h : 240 ≤ a) (h' : a < 248) : fL a = 65536 := by unfold fL; rw [if_neg (by omega), if_neg (by omega), if_neg (by omega), if_neg (by omega), if_pos (by omega)]
theorem fS_cases {a : Int} (h0 : 0 ≤ a) : (fS a = 0 ∧ (128 ≤ a ∧ a < 192 ∨ 248 ≤ a)) ∨ (fS a = 1 ∧ 0 ≤ a ∧ a < 128) ∨ (fS a = 2 ∧ 192 ≤ a ∧ a < 224) ∨ (fS a = 3 ∧ 224 ≤ a ∧ a < 240) ∨ (fS a = 4 ∧ 240 ≤ a ∧ a < 248) := by
  unfold fS
  split
  · omega
  split
  · omega
  split
  · omega
  split
  · omega
  split <;> omega
theorem p84 (s : ByteArray) (hs : s.size ≤ 1000000000) (i : Nat) (hi : i < s.size) : Pl 84 [.one (.iv (.str s)), i64 i] (tupF (nxt s i).1 (nxt s i).2) [] := by
  obtain ⟨k1, h110⟩ := (p110 (bt_range s i).1 (bt_range s i).2).at pr_mono
  have hr := bt_range s i
  have hr1 := bt_range s (i + 1)
  have hr2 := bt_range s (i + 2)
  have hr3 := bt_range s (i + 3)
  by_cases hearly : fS (bt s i) = 0 ∨ fS (bt s i) > s.size - i
  · have hx : nxt s i = (-1, 1) := by
      rcases fS_cases hr.1 with ⟨h, h1⟩ | ⟨h, h1, h2⟩ | ⟨h, h1, h2⟩ | ⟨h, h1, h2⟩ | ⟨h, h1, h2⟩
      · rw [nxt, nx_0 h1]
      · omega
      · rw [nxt, nx_2 h1 h2, if_pos (.inl (by omega))]
      · rw [nxt, nx_3 h1 h2, if_pos (.inl (by omega))]
      · rw [nxt, nx_4 h1 h2, if_pos (.inl (by omega))]
    rw [hx]
    refine Plays.wp (vf := v84) rfl rfl ⟨k1, fun A call hA hcall => ?_⟩
    have h110 := h110 k1 (Nat.le_refl _)
    rw [← hcall] at h110
    exact w84a A call k1 s i s.size (bt s i) (fS (bt s i)) (fB (bt s i)) (fL (bt s i)) (s.size - i) (decide (fS (bt s i) = 0)) (decide (fS (bt s i) > s.size - i)) (ltF hA (by omega)) (by rw [hA]; rfl) (geF hA (by omega)) (by rw [hA, sidx_real (by omega) (by omega)]; simp) h110
      (by rw [hA, eql_real]) (subR hA rfl (by omega)) (by rw [hA, gtr_real]) (by simpa using hearly)
  · obtain ⟨m, hm, hcls⟩ : ∃ m : Nat, (m : Int) + 1 = fS (bt s i) ∧ ((m = 0 ∧ 0 ≤ bt s i ∧ bt s i < 128) ∨ (m = 1 ∧ 192 ≤ bt s i ∧ bt s i < 224) ∨ (m = 2 ∧ 224 ≤ bt s i ∧ bt s i < 240) ∨ (m = 3 ∧ 240 ≤ bt s i ∧ bt s i < 248)) := by
      rcases fS_cases hr.1 with ⟨h, h1⟩ | ⟨h, h1, h2⟩ | ⟨h, h1, h2⟩ | ⟨h, h1, h2⟩ | ⟨h, h1, h2⟩
      · omega
      · exact ⟨0, by omega, .inl ⟨rfl, h1, h2⟩⟩
      · exact ⟨1, by omega, .inr (.inl ⟨rfl, h1, h2⟩)⟩
      · exact ⟨2, by omega, .inr (.inr (.inl ⟨rfl, h1, h2⟩))⟩
      · exact ⟨3, by omega, .inr (.inr (.inr ⟨rfl, h1, h2⟩))⟩
    have hm3 : m ≤ 3 := by omega
    have hbi : 0 ≤ fB (bt s i) ∧ fB (bt s i) ≤ 255 ∧ (m = 0 ∨ fB (bt s i) < 32) := by
      rcases hcls with ⟨rfl, c1, c2⟩ | ⟨rfl, c1, c2⟩ | ⟨rfl, c1, c2⟩ | ⟨rfl, c1, c2⟩
      · rw [show fB (bt s i) = bt s i by simp [fB, c2]]; omega
      · rw [fB_2 c1 c2]; omega
      · rw [fB_3 c1 c2]; omega
      · rw [fB_4 c1 c2]; omega
    have hrr : ∀ j, j ≤ m → 0 ≤ rrS s i (fB (bt s i)) j ∧ rrS s i (fB (bt s i)) j ≤ 10000000 := fun j hj => by
      rcases hbi.2.2 with h0 | h0
      · obtain rfl : j = 0 := by omega
        simp only [rrS]; omega
      · have := rrS_range s i hbi.1 h0 j (by omega)
        rcases (by omega : j = 0 ∨ j = 1 ∨ j = 2 ∨ j = 3) with rfl | rfl | rfl | rfl <;> omega
    have hn : i + 1 + m ≤ s.size := by omega
    obtain ⟨k2, h111⟩ := (p111 (rrS s i (fB (bt s i)) m)).at pr_mono
    refine Plays.wp (vf := v84) rfl rfl ⟨k1 + k2 + m + 1, fun A call hA hcall => ?_⟩
    have h110 := h110 (k1 + k2 + m + 1) (by omega)
    have h111 := h111 (k1 + k2 + m + 1) (by omega)
    rw [← hcall] at h110 h111
    have hes := s2b_sx s (a := i + 1) (b := i + 1 + m) hn
    rw [show i + 1 + m - (i + 1) = m by omega] at hes
    have hb := fun j => bt_range s (i + 1 + j)
    refine w84 A call (k1 + k2 + m + 1) m (by omega) s (sx s (i + 1) (i + 1 + m)) i s.size (bt s i) (fS (bt s i)) (fB (bt s i)) (fL (bt s i)) (s.size - i) ((i + 1 : Nat) : Int) ((i + 1 + m : Nat) : Int) (ltF hA (by omega)) (by rw [hA]; rfl) (geF hA (by omega)) (by rw [hA, sidx_real (by omega) (by omega)]; simp) h110
      (eqF hA (by omega)) (subR hA rfl (by omega)) (gtF hA (by omega)) (addR hA (by omega) (by omega)) (addR hA (by omega) (by omega)) (by rw [hA, sext_real (by omega) hn]) _ (by rw [hA, hes])
      (fun j => (j : Int)) (fun j => bt s (i + 1 + j)) (rrS s i (fB (bt s i))) (fun j => rrS s i (fB (bt s i)) j * 64) (fun j => bt s (i + 1 + j) % 64) (fun j => bt s (i + 1 + j) / 64 * 64) (fun j => decide (bt s (i + 1 + j) / 64 ≠ 2)) rfl rfl
      (fun j hj => ltT hA (by rw [hA, real_len]; simp [encB]; exact hj)) (ltF hA (by rw [hA, real_len]; simp [encB])) (fun j hj => addR hA (by omega) (by omega)) (fun j hj => by rw [hA, real_get]; simp [encB, hj])
      (fun j hj => by rw [hA]; exact and192 (hb j).1 (hb j).2) (fun j hj => by rw [hA, neq_real]; congr 1; simp only [eq_iff_iff]; have := hb j; omega) (fun j hj => by rw [hA]; have := hrr j (by omega); exact shl6 this.1 (by omega)) (by rw [hA]; rfl)
      (fun j hj => by rw [hA]; exact and63 (hb j).1 (hb j).2) (fun j hj => ckI hA (by have := hb j; omega)) (fun j hj => by rw [hA]; have := hrr j (by omega); have := hb j; exact or_low (by omega) (by omega) (by omega) (by omega))
      (decide (rrS s i (fB (bt s i)) m < fL (bt s i))) (isSign (rrS s i (fB (bt s i)) m)) (by rw [hA, lss_real]) h111 _ _ ?_ ?_ ?_
    · intro j hj hbj
      simp only [decide_eq_true_eq] at hbj
      have hx : nxt s i = (-1, 1) := by
        rcases hcls with ⟨rfl, c1, c2⟩ | ⟨rfl, c1, c2⟩ | ⟨rfl, c1, c2⟩ | ⟨rfl, c1, c2⟩
        · omega
        · obtain rfl : j = 0 := by omega
          rw [nxt, nx_2 c1 c2, if_pos (.inr (.inl hbj))]
        · rw [nxt, nx_3 c1 c2]
          rcases (by omega : j = 0 ∨ j = 1) with rfl | rfl
          · rw [if_pos (.inr (.inl hbj))]
          · rw [if_pos (.inr (.inr (.inl hbj)))]
        · rw [nxt, nx_4 c1 c2]
          rcases (by omega : j = 0 ∨ j = 1 ∨ j = 2) with rfl | rfl | rfl
          · rw [if_pos (.inr (.inl hbj))]
          · rw [if_pos (.inr (.inr (.inl hbj)))]
          · rw [if_pos (.inr (.inr (.inr (.inl hbj))))]
      rw [hx]; exact ⟨rfl, rfl⟩
    · intro hall hb12
      simp only [decide_eq_true_eq] at hb12
      have hx : nxt s i = (-1, 1) := by
        rcases hcls with ⟨rfl, c1, c2⟩ | ⟨rfl, c1, c2⟩ | ⟨rfl, c1, c2⟩ | ⟨rfl, c1, c2⟩
        · exfalso
          rw [show fB (bt s i) = bt s i by simp [fB, c2], show fL (bt s i) = 0 by simp [fL, c2]] at hb12
          simp only [rrS] at hb12
          rcases hb12 with h | h
          · omega
          · simp only [isSign, decide_eq_false_iff_not] at h; omega
        · rw [fB_2 c1 c2, fL_2 c1 c2] at hb12
          have e : rrS s i (bt s i % 32) 1 = bt s i % 32 * 64 + bt s (i + 1) % 64 := rfl
          rw [e] at hb12
          rw [nxt, nx_2 c1 c2]
          rcases hb12 with h | h
          · rw [if_pos (.inr (.inr h))]
          · by_cases h' : bt s i % 32 * 64 + bt s (i + 1) % 64 < 128
            · rw [if_pos (.inr (.inr h'))]
            · simp only [isSign, decide_eq_false_iff_not] at h; omega
        · rw [fB_3 c1 c2, fL_3 c1 c2] at hb12
          have e : rrS s i (bt s i % 16) 2 = (bt s i % 16 * 64 + bt s (i + 1) % 64) * 64 + bt s (i + 2) % 64 := rfl
          rw [e] at hb12
          rw [nxt, nx_3 c1 c2, if_pos (.inr (.inr (.inr hb12)))]
        · rw [fB_4 c1 c2, fL_4 c1 c2] at hb12
          have e : rrS s i (bt s i % 8) 3 = ((bt s i % 8 * 64 + bt s (i + 1) % 64) * 64 + bt s (i + 2) % 64) * 64 + bt s (i + 3) % 64 := rfl
          rw [e] at hb12
          rw [nxt, nx_4 c1 c2, if_pos (.inr (.inr (.inr (.inr hb12))))]
      rw [hx]; exact ⟨rfl, rfl⟩
    · intro hall hb1 hb2
      simp only [decide_eq_false_iff_not] at hb1
      simp only [decide_eq_false_iff_not, Decidable.not_not] at hall
      have hx : nxt s i = (rrS s i (fB (bt s i)) m, fS (bt s i)) := by
        rw [← hm]
        rcases hcls with ⟨rfl, c1, c2⟩ | ⟨rfl, c1, c2⟩ | ⟨rfl, c1, c2⟩ | ⟨rfl, c1, c2⟩
        · rw [nxt, nx_1 c2, show fB (bt s i) = bt s i by simp [fB, c2]]; rfl
        · rw [fB_2 c1 c2] at hb1 hb2 ⊢
          rw [fL_2 c1 c2] at hb1
          have e : rrS s i (bt s i % 32) 1 = bt s i % 32 * 64 + bt s (i + 1) % 64 := rfl
          rw [e] at hb1 hb2 ⊢
          have a0 : bt s (i + 1) / 64 = 2 := hall 0 (by omega)
          rw [nxt, nx_2 c1 c2, if_neg (by omega)]
          rfl
        · rw [fB_3 c1 c2] at hb1 hb2 ⊢
          rw [fL_3 c1 c2] at hb1
          have e : rrS s i (bt s i % 16) 2 = (bt s i % 16 * 64 + bt s (i + 1) % 64) * 64 + bt s (i + 2) % 64 := rfl
          rw [e] at hb1 hb2 ⊢
          have a0 : bt s (i + 1) / 64 = 2 := hall 0 (by omega)
          have a1 : bt s (i + 2) / 64 = 2 := hall 1 (by omega)
          rw [nxt, nx_3 c1 c2, hb2, if_neg (by simp; omega)]
          rfl
        · rw [fB_4 c1 c2] at hb1 hb2 ⊢
          rw [fL_4 c1 c2] at hb1
          have e : rrS s i (bt s i % 8) 3 = ((bt s i % 8 * 64 + bt s (i + 1) % 64) * 64 + bt s (i + 2) % 64) * 64 + bt s (i + 3) % 64 := rfl
          rw [e] at hb1 hb2 ⊢
          have a0 : bt s (i + 1) / 64 = 2 := hall 0 (by omega)
          have a1 : bt s (i + 2) / 64 = 2 := hall 1 (by omega)
          have a2 : bt s (i + 3) / 64 = 2 := hall 2 (by omega)
          rw [nxt, nx_4 c1 c2, hb2, if_neg (by simp; omega)]
          rfl
      rw [hx]; exact ⟨rfl, rfl⟩
end Go.Proofs.Ytanpphoehajcgaa
