/- Reading of any bytes, in plain Lean. -/
import Derived.Test.YtinobfilomhhhaaCGE
set_option linter.unusedSimpArgs false
set_option linter.unusedVariables false
set_option maxRecDepth 100000
set_option maxHeartbeats 1000000
set_option cbv.maxSteps 10000000
namespace Go.Proofs.Ytinobfilomhhhaa
open Go GoV

/-- A reader: how many bytes it has left from where on, or its error; f: is its memory frozen? -/
inductive RS where
  | ok (f : Bool) (o n : Nat)
  | er (f : Bool) (e : Int)
def RS.fits (L : Nat) : RS → Prop
  | .ok _ o n => o + n = L
  | .er _ e => e ≠ 0
def RS.fail (e : Int) : RS → RS
  | .ok f _ _ => .er f e
  | s => s
def RS.isOk : RS → Bool
  | .ok _ _ _ => true
  | .er _ _ => false
/-- w: is its memory at hand (also behind an error)? -/
def rdS (w : Bool) (es : List (List IV)) : RS → List Blk
  | .ok f o n => [.var false [.slo 1 o n, .iv (.int .i64 0), .iv (.bool true)], .arr f false 1 es]
  | .er f e => .var false [.iv (.sl true 0 []), .iv (.int .i64 e), .iv (.bool true)] :: (bif w then [.arr f false 1 es] else [])
abbrev rp : FV := .one (.ptr 0 0)
def RS.left : RS → Nat
  | .ok _ _ n => n
  | .er _ _ => 0
/-- So many ones stand ahead in a byte. -/
def lo (b : Nat) : Nat := if b < 128 then 0 else if b < 192 then 1 else if b < 224 then 2 else if b < 240 then 3 else if b < 248 then 4 else if b < 252 then 5 else if b < 254 then 6 else if b < 255 then 7 else 8
theorem lo_le (b : Nat) : lo b ≤ 8 := by unfold lo; repeat' split <;> try omega
def hd8 (b : Nat) : Nat := if lo b < 8 then b % 2 ^ (7 - lo b) else 0
def acc (x : Nat) : List Nat → Nat
  | [] => x
  | c :: l => acc (x * 256 + c) l
theorem acc_app (x : Nat) (l m : List Nat) : acc x (l ++ m) = acc (acc x l) m := by
  induction l generalizing x with
  | nil => rfl
  | cons c l ih => simp only [List.cons_append, acc, ih]
theorem acc_lt {x p : Nat} : ∀ {l : List Nat}, x < p → (∀ c, c ∈ l → c < 256) → acc x l < p * 256 ^ l.length
  | [], h, _ => by simpa [acc] using h
  | c :: l, h, hc => by
    have h1 := hc c (by simp)
    have := acc_lt (x := x * 256 + c) (p := p * 256) (l := l) (by omega) (fun d hd => hc d (by simp [hd]))
    simp only [acc, List.length_cons, Nat.pow_succ]
    rw [Nat.mul_comm (256 ^ l.length) 256, ← Nat.mul_assoc]
    exact this
/-- The number that begins at o. -/
def rawV (bs : List Nat) (o : Nat) : Nat := acc (hd8 (bs.getD o 0)) ((bs.drop (o + 1)).take (lo (bs.getD o 0)))
def rawS (bs : List Nat) : RS → Option Nat × RS
  | .er f e => (none, .er f e)
  | .ok f o n =>
    if n = 0 then (none, .er f 4) else
    if n < lo (bs.getD o 0) + 1 then (none, .er true 4) else
    if nd (rawV bs o) = lo (bs.getD o 0) then (some (rawV bs o), .ok true (o + 1 + lo (bs.getD o 0)) (n - 1 - lo (bs.getD o 0))) else (none, .er true 3)
def numS (bs : List Nat) (most : Int) (s : RS) : Nat × RS :=
  match rawS bs s with
  | (none, s') => (0, s')
  | (some x, s') => if 2 ^ 63 ≤ x ∨ most < (x : Int) then (0, s'.fail 5) else (x, s')
theorem rawS_fits {bs : List Nat} {s : RS} (h : s.fits bs.length) : (rawS bs s).2.fits bs.length := by
  cases s with
  | er f e => exact h
  | ok f o n =>
    simp only [rawS]
    have h : o + n = bs.length := h
    repeat' split
    all_goals simp only [RS.fits]
    all_goals first | omega | decide
theorem fail_fits {L : Nat} {s : RS} {e : Int} (he : e ≠ 0) (h : s.fits L) : (s.fail e).fits L := by
  cases s with
  | er f e => exact h
  | ok f o n => exact he
theorem numS_fits {bs : List Nat} {most : Int} {s : RS} (h : s.fits bs.length) : (numS bs most s).2.fits bs.length := by
  have := rawS_fits h
  unfold numS
  split
  · rename_i heq; rw [heq] at this; exact this
  · rename_i heq; rw [heq] at this
    split
    · exact fail_fits (by decide) this
    · exact this
theorem lo_len {b L : Nat} (hb : b < 256) (h : IsLen (255 - b) L) (hL : L ≤ 8) : 8 - L = lo b := by
  have : ∀ b : Fin 256, ∀ L : Fin 9, (((255 - b.val) = 0 ∧ L.val = 0) ∨ (0 < L.val ∧ 2 ^ (L.val - 1) ≤ 255 - b.val ∧ 255 - b.val < 2 ^ L.val)) → 8 - L.val = lo b.val := by decide +kernel
  exact this ⟨b, hb⟩ ⟨L, by omega⟩ h
theorem hd8_lt {b : Nat} (hb : b < 256) : hd8 b < 2 ^ (7 - lo b) := by
  unfold hd8
  split
  · exact Nat.mod_lt _ (Nat.two_pow_pos _)
  · exact Nat.two_pow_pos _
theorem and255 {A : Ar} (hA : A = real) {b : Nat} (hb : b < 256) (h : lo b < 8) : A .ar .and .u8 (b : Int) ((255 / 2 ^ lo b : Nat) : Int) = (hd8 b : Int) := by
  rw [hA]
  have : ∀ b : Fin 256, lo b.val < 8 → real .ar .and .u8 ((b.val : Nat) : Int) ((255 / 2 ^ lo b.val : Nat) : Int) = (hd8 b.val : Int) := by decide +kernel
  exact this ⟨b, hb⟩ h
/-- The number as far as i more bytes are read. -/
def rawP (bs : List Nat) (o i : Nat) : Nat := acc (hd8 (bs.getD o 0)) ((bs.drop (o + 1)).take i)
theorem rawP_0 (bs : List Nat) (o : Nat) : rawP bs o 0 = hd8 (bs.getD o 0) := by simp [rawP, acc]
theorem rawP_succ {bs : List Nat} {o i : Nat} (h : o + 1 + i < bs.length) : rawP bs o (i + 1) = rawP bs o i * 256 + bs.getD (o + 1 + i) 0 := by
  have hl : i < (bs.drop (o + 1)).length := by rw [List.length_drop]; omega
  unfold rawP
  rw [List.take_succ_eq_append_getElem hl, acc_app, List.getElem_drop, show bs.getD (o + 1 + i) 0 = bs[o + 1 + i] by rw [List.getD_eq_getElem?_getD, List.getElem?_eq_getElem h]; rfl]
  rfl
theorem getD_mem {bs : List Nat} (h : ∀ b, b ∈ bs → b < 256) (i : Nat) : bs.getD i 0 < 256 := by
  by_cases hi : i < bs.length
  · rw [List.getD_eq_getElem?_getD, List.getElem?_eq_getElem hi]; exact h _ (List.getElem_mem hi)
  · rw [List.getD_eq_getElem?_getD, List.getElem?_eq_none (by omega)]; exact (by decide : (0 : Nat) < 256)
theorem rawP_lt {bs : List Nat} (hb : ∀ b, b ∈ bs → b < 256) (o : Nat) {i : Nat} (hi : i < lo (bs.getD o 0)) : rawP bs o i * 256 + 255 < 2 ^ 64 := by
  have h1 := hd8_lt (getD_mem hb o)
  have h8 := lo_le (bs.getD o 0)
  have hl : ((bs.drop (o + 1)).take i).length ≤ i := by rw [List.length_take]; omega
  have h2 := acc_lt (l := (bs.drop (o + 1)).take i) h1 (fun c hc => hb c (List.mem_of_mem_drop (List.mem_of_mem_take hc)))
  have h3 : rawP bs o i < 2 ^ (7 - lo (bs.getD o 0)) * 256 ^ i := Nat.lt_of_lt_of_le h2 (Nat.mul_le_mul_left _ (Nat.pow_le_pow_right (by omega) hl))
  have h4 : 2 ^ (7 - lo (bs.getD o 0)) * 256 ^ i ≤ 2 ^ 56 := by
    rw [show (256 : Nat) = 2 ^ 8 from rfl, ← Nat.pow_mul, ← Nat.pow_add]
    refine Nat.pow_le_pow_right (by omega) ?_
    omega
  omega
theorem rawV_lt {bs : List Nat} (hb : ∀ b, b ∈ bs → b < 256) (o : Nat) : rawV bs o < 2 ^ 64 := by
  have h1 := hd8_lt (getD_mem hb o)
  have h8 := lo_le (bs.getD o 0)
  have hl : ((bs.drop (o + 1)).take (lo (bs.getD o 0))).length ≤ lo (bs.getD o 0) := by rw [List.length_take]; omega
  have h2 := acc_lt (l := (bs.drop (o + 1)).take (lo (bs.getD o 0))) h1 (fun c hc => hb c (List.mem_of_mem_drop (List.mem_of_mem_take hc)))
  have h3 : rawV bs o < 2 ^ (7 - lo (bs.getD o 0)) * 256 ^ (lo (bs.getD o 0)) := Nat.lt_of_lt_of_le h2 (Nat.mul_le_mul_left _ (Nat.pow_le_pow_right (by omega) hl))
  have h4 : 2 ^ (7 - lo (bs.getD o 0)) * 256 ^ (lo (bs.getD o 0)) ≤ 2 ^ 64 := by
    rw [show (256 : Nat) = 2 ^ 8 from rfl, ← Nat.pow_mul, ← Nat.pow_add]
    refine Nat.pow_le_pow_right (by omega) ?_
    omega
  omega
end Go.Proofs.Ytinobfilomhhhaa
