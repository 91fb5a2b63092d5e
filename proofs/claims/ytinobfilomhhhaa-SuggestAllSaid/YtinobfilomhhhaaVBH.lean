/- slices.SortFunc, by the library's contract, as a primitive: rows of ints and texts, ordered by a function of the program. -/
import Derived.Test.YtinobfilomhhhaaV3
import Derived.Shelf.SlSortCmp.NoneTotal
set_option linter.unusedSimpArgs false
set_option linter.unusedVariables false
namespace GoV
open Go
variable {P : Program} {M M' : Mem} {pl pl' : Pls} {w w' : World} {H : Hp}

/-- An element's cells, brought to its type's form: true: an int, false: a text. -/
def nrmC : List Bool → List IV → List IV
  | [], _ => []
  | true :: s, .int _ n :: r => .int .i64 n :: nrmC s r
  | true :: s, _ :: r => .int .i64 0 :: nrmC s r
  | true :: s, [] => .int .i64 0 :: nrmC s []
  | false :: s, .str b :: r => .str b :: nrmC s r
  | false :: s, _ :: r => .str ⟨#[]⟩ :: nrmC s r
  | false :: s, [] => .str ⟨#[]⟩ :: nrmC s []
def fitsC : List Bool → List IV → Bool
  | [], [] => true
  | true :: s, .int k _ :: r => kEq k .i64 && fitsC s r
  | false :: s, .str _ :: r => fitsC s r
  | _, _ => false
def vOf : IV → Value
  | .int k n => .int k n
  | .str b => .string b
  | _ => Value.int .i64 0
def encC (s : List Bool) (x : List IV) : List Value := (nrmC s x).map vOf

theorem nrmC_len : ∀ (s : List Bool) (x : List IV), (nrmC s x).length = s.length
  | [], _ => rfl
  | true :: s, [] => by simp [nrmC, nrmC_len s]
  | false :: s, [] => by simp [nrmC, nrmC_len s]
  | true :: s, c :: r => by cases c <;> simp [nrmC, nrmC_len s]
  | false :: s, c :: r => by cases c <;> simp [nrmC, nrmC_len s]
theorem encC_len (s : List Bool) (x : List IV) : (encC s x).length = s.length := by rw [encC, List.length_map, nrmC_len]
theorem nrmC_cells : ∀ (s : List Bool) (x : List IV) (c : IV), c ∈ nrmC s x → (∃ n, c = .int .i64 n) ∨ ∃ b, c = .str b
  | [], _, c, h => by simp [nrmC] at h
  | true :: s, [], c, h => by
    simp only [nrmC, List.mem_cons] at h
    rcases h with rfl | h
    · exact .inl ⟨_, rfl⟩
    · exact nrmC_cells s [] c h
  | false :: s, [], c, h => by
    simp only [nrmC, List.mem_cons] at h
    rcases h with rfl | h
    · exact .inr ⟨_, rfl⟩
    · exact nrmC_cells s [] c h
  | true :: s, d :: r, c, h => by
    have : c ∈ nrmC s r ∨ ∃ n, c = .int .i64 n := by
      cases d <;> simp only [nrmC, List.mem_cons] at h <;> (rcases h with rfl | h; exact .inr ⟨_, rfl⟩; exact .inl h)
    rcases this with h | h
    · exact nrmC_cells s r c h
    · exact .inl h
  | false :: s, d :: r, c, h => by
    have : c ∈ nrmC s r ∨ ∃ n, c = .str n := by
      cases d <;> simp only [nrmC, List.mem_cons] at h <;> (rcases h with rfl | h; exact .inr ⟨_, rfl⟩; exact .inl h)
    rcases this with h | h
    · exact nrmC_cells s r c h
    · exact .inr h
theorem kEq_i64 {k : IntKind} (h : kEq k .i64 = true) : k = .i64 := by cases k <;> simp [kEq] at h ⊢
theorem nrmC_fits : ∀ {s : List Bool} {x : List IV}, fitsC s x = true → nrmC s x = x
  | [], [], _ => rfl
  | [], _ :: _, h => by simp [fitsC] at h
  | true :: s, [], h => by simp [fitsC] at h
  | false :: s, [], h => by simp [fitsC] at h
  | true :: s, c :: r, h => by
    cases c <;> simp only [fitsC, Bool.and_eq_true, Bool.false_eq_true] at h
    have := kEq_i64 h.1; subst this
    simp only [nrmC, nrmC_fits h.2]
  | false :: s, c :: r, h => by
    cases c <;> simp only [fitsC, Bool.false_eq_true] at h
    simp only [nrmC, nrmC_fits h]
theorem flatI_cells : ∀ {x : List IV}, (∀ c, c ∈ x → (∃ n, c = .int .i64 n) ∨ ∃ b, c = .str b) → flatI x = some x
  | [], _ => rfl
  | c :: r, h => by
    have ih := flatI_cells (x := r) fun d hd => h d (by simp [hd])
    rcases h c (by simp) with ⟨n, rfl⟩ | ⟨b, rfl⟩ <;> simp [flatI, ih]
theorem cells_fits {s : List Bool} {x : List IV} (h : fitsC s x = true) : ∀ c, c ∈ x → (∃ n, c = .int .i64 n) ∨ ∃ b, c = .str b := fun c hc => nrmC_cells s x c (by rw [nrmC_fits h]; exact hc)
theorem len_fits {s : List Bool} {x : List IV} (h : fitsC s x = true) : x.length = s.length := by rw [← nrmC_len s x, nrmC_fits h]
theorem IR_vOf {c : IV} (h : (∃ n, c = .int .i64 n) ∨ ∃ b, c = .str b) : IR M c (vOf c) := by
  rcases h with ⟨n, rfl⟩ | ⟨b, rfl⟩
  · exact .int _ _
  · exact .str _
theorem vOf_of_IR {c : IV} (h : (∃ n, c = .int .i64 n) ∨ ∃ b, c = .str b) {u : Value} (r : IR M c u) : u = vOf c := by
  rcases h with ⟨n, rfl⟩ | ⟨b, rfl⟩ <;> cases r <;> rfl
/-! ### The order's own contract, out of what the small machine says -/
/-! ### The row in memory -/
theorem getD_bang {α : Type} [Inhabited α] (l : List α) (i : Nat) (h : i < l.length) : l.toArray[i]! = l[i] := by
  rw [getElem!_pos l.toArray i (by simpa using h)]; simp
theorem holds_of_BR {s : List Bool} {g : Bool} {z : Nat} {es : List (List IV)} {b q cap esz len : Nat} (hB : BR M pl w (.arr false g z es) (.arr b q cap esz len)) (hz : z = s.length ∨ es = []) (hf : ∀ c, c ∈ es → fitsC s c = true) (n : Nat) (hn : n ≤ es.length) :
    Go.Sort.HoldsK (encC s) s.length w b q (es.take n).toArray := by
  obtain ⟨⟨h1, _⟩, h2, vs, t, fr, f, k1, k2, k3, k4, k5, k6, k7, k8, k9⟩ := hB
  intro j hj
  rw [Go.Sort.size_flatK] at hj
  have hj : j < n * s.length := by simpa [Nat.min_eq_left hn] using hj
  have hpos : 0 < s.length := by
    rcases Nat.eq_zero_or_pos s.length with h | h
    · rw [h] at hj; omega
    · exact h
  have hin : j / s.length < n := (Nat.div_lt_iff_lt_mul hpos).2 hj
  have hi : j / s.length < es.length := by omega
  have hne : es ≠ [] := by rintro rfl; simp at hi
  have hez : esz = s.length := by
    rcases h1 with h | h
    · rcases hz with h' | h'
      · omega
      · exact absurd h' hne
    · exact absurd h.2 hne
  have hm := List.getElem_mem hi
  have hfi : f (j / s.length) = es[j / s.length] := by
    have := k6 _ _ (List.getElem?_eq_getElem hi)
    rw [flatI_cells (cells_fits (hf _ hm))] at this
    injection this with this
    exact this.symm
  have hl := len_fits (hf _ hm)
  have hmod := Nat.mod_lt j hpos
  have hx : (f (j / s.length))[j % s.length]? = some (es[j / s.length][j % s.length]'(by omega)) := by rw [hfi]; exact List.getElem?_eq_getElem _
  obtain ⟨u, hu, hr⟩ := k8 _ _ _ hi hx
  have hq : q + j / s.length * esz + j % s.length = q + j := by
    have := Nat.div_add_mod j s.length
    rw [hez, Nat.mul_comm]; omega
  rw [hq] at hu
  have hu2 := vOf_of_IR (cells_fits (hf _ hm) _ (List.getElem_mem _)) hr
  refine ⟨?_, k5 j (.inl ?_)⟩
  · simp only [World.cell?, k1]
    rw [if_neg (by simp), hu, hu2, Go.Sort.get_flatK _ _ _ _ (by simpa [Nat.min_eq_left hn] using hj), getD_bang _ _ (by rw [List.length_take]; omega), List.getElem_take]
    show _ = some (encC s es[j / s.length])[j % s.length]!
    rw [getElem!_pos _ _ (by rw [encC_len]; exact hmod)]
    simp only [encC, List.getElem_map, nrmC_fits (hf _ hm)]
  · rw [hez]
    exact Nat.lt_of_lt_of_le hj (Nat.mul_le_mul_right _ (Nat.le_trans hn k2))
theorem Ext.ahead (w : World) (n : Nat) : Ext w (Go.Sort.ahead w n) := ⟨rfl, rfl, rfl, Nat.le_refl _, Nat.le_add_right _ _, fun _ _ => rfl⟩
theorem Ext.grown (w : World) (os : Array Obj) : Ext w (Go.Sort.grow w os) := ⟨rfl, rfl, rfl, by simp [Go.Sort.grow], Nat.le_refl _, fun k hk => by
  show (w.heap ++ os)[k]? = _
  rw [Array.getElem?_append, if_pos hk]⟩
theorem WR.sorted {s : List Bool} {g : Bool} {z : Nat} {es : List (List IV)} {l b q cap esz len k : Nat} {d' : Array (List IV)} (hw : WR M pl H w) (hH : H l = some (.arr false g z es)) (hp : pl l = some (.arr b q cap esz len))
    (hz : z = s.length ∨ es = []) (hs : d'.size = k) (hk : k ≤ es.length) (hf : ∀ c, c ∈ d'.toList → fitsC s c = true) (n : Nat) (os : Array Obj) :
    WR M pl (upd H l (.arr false g z (d'.toList ++ es.drop k))) (Go.Proofs.sortWorldK (encC s) s.length w b q n d' os) ∧ Fr M pl w M pl (Go.Proofs.sortWorldK (encC s) s.length w b q n d' os) := by
  obtain ⟨p, hp', hB⟩ := hw.blk l _ hH
  rw [hp] at hp'; cases hp'
  obtain ⟨⟨h1, h1'⟩, h2, vs, t, fr, f, k1, k2, k3, k4, k5, k6, k7, k8, k9⟩ := hB
  obtain ⟨wa, hwa⟩ : ∃ wa, wa = Go.Sort.ahead w n := ⟨_, rfl⟩
  have ea := Ext.ahead w n
  rw [← hwa] at ea
  obtain ⟨a1, a2⟩ := hw.ext ea (M' := M) (fun _ _ _ h => h) (fun b j v h => ea.cell (hw.mem b j v h)) fun _ _ _ => rfl
  have ka : wa.heap[b]? = some (.cells vs t fr) := by rw [hwa]; exact k1
  obtain ⟨w1, hw1⟩ : ∃ w1, w1 = Go.Sort.putRowK (encC s) s.length wa b q d' := ⟨_, rfl⟩
  have hb1 : w1.heap[b]? = some (.cells (Go.Sort.putCells id q (Go.Sort.flatK (encC s) s.length d') vs) t fr) := by
    rw [hw1]
    show (wa.heap.modify b _)[b]? = _
    rw [Array.getElem?_modify, if_pos rfl, ka]; rfl
  have hfs : (Go.Sort.flatK (encC s) s.length d').size = k * s.length := by rw [Go.Sort.size_flatK, hs]
  have hez : es ≠ [] → esz = s.length := fun hne => by
    rcases h1 with h | h
    · rcases hz with h' | h'
      · omega
      · exact absurd h' hne
    · exact absurd h.2 hne
  have hin : k * s.length ≤ cap * esz := by
    by_cases hne : es = []
    · rw [hne] at hk
      have : k = 0 := by simpa using hk
      rw [this]; omega
    · rw [hez hne]; exact Nat.mul_le_mul_right _ (Nat.le_trans hk k2)
  have hout : ∀ j, ¬ (q ≤ j ∧ j < q + k * s.length) → (Go.Sort.putCells id q (Go.Sort.flatK (encC s) s.length d') vs)[j]? = vs[j]? := fun j hj => by
    simp only [Go.Sort.putCells, Array.getElem?_mapIdx, hfs]
    cases vs[j]? with
    | none => rfl
    | some x => simp [hj]
  have hld : d'.toList.length = k := by simp [hs]
  have hlen : (d'.toList ++ es.drop k).length = es.length := by rw [List.length_append, hld, List.length_drop]; omega
  have hlo : ∀ i, i < k → (d'.toList ++ es.drop k)[i]? = d'.toList[i]? := fun i hi => List.getElem?_append_left (by omega)
  have hhi : ∀ i, k ≤ i → (d'.toList ++ es.drop k)[i]? = es[i]? := fun i hi => by
    rw [List.getElem?_append_right (by omega), List.getElem?_drop, hld]
    congr 1; omega
  have hB' : BR M pl w1 (.arr false g z (d'.toList ++ es.drop k)) (.arr b q cap esz len) := by
    refine ⟨⟨?_, fun h => h1' (by omega)⟩, by omega, _, t, fr, fun i => if i < k then d'.toList.getD i [] else f i, hb1, by omega, k3, by simpa [Go.Sort.putCells] using k4, fun j hj => ?_, fun i cs hc => ?_, fun i hi => ?_, fun i j x hi hx => ?_, fun j hj => ?_⟩
    · rcases h1 with h | ⟨h, h'⟩
      · exact .inl h
      · refine .inr ⟨h, ?_⟩
        rw [h'] at hlen
        rw [h']
        exact List.length_eq_zero_iff.1 hlen
    · rw [hw1]
      show (Go.Sort.putRow id wa b q _).frozen? _ = false
      rw [Go.Sort.frozen?_putRow, hwa]
      exact k5 j (by simpa [Go.Sort.putCells] using hj)
    · dsimp only
      by_cases hik : i < k
      · rw [hlo i hik] at hc
        have hm := List.mem_of_getElem? hc
        rw [if_pos hik, List.getD_eq_getElem?_getD, hc, flatI_cells (cells_fits (hf _ hm))]; rfl
      · rw [hhi i (by omega)] at hc
        rw [if_neg hik]
        exact k6 i cs hc
    · dsimp only
      by_cases hik : i < k
      · have hne : es ≠ [] := by rintro rfl; simp at hk; omega
        rw [if_pos hik, List.getD_eq_getElem?_getD, List.getElem?_eq_getElem (by omega), Option.getD_some, len_fits (hf _ (List.getElem_mem _)), hez hne]
      · rw [if_neg hik]
        exact k7 i (by omega)
    · have hne : es ≠ [] := by rintro rfl; rw [hlen] at hi; simp at hi
      have he := hez hne
      dsimp only at hx
      by_cases hik : i < k
      · rw [if_pos hik] at hx
        have hi' : i < d'.toList.length := by omega
        have hm := List.getElem_mem hi'
        rw [List.getD_eq_getElem?_getD, List.getElem?_eq_getElem hi', Option.getD_some] at hx
        have hj : j < s.length := by rw [← len_fits (hf _ hm)]; exact (List.getElem?_eq_some_iff.1 hx).1
        have hpos : 0 < s.length := by omega
        have hij : i * s.length + j < k * s.length := by
          have := Nat.mul_le_mul_right s.length (show i + 1 ≤ k by omega)
          rw [Nat.add_mul, Nat.one_mul] at this; omega
        have hb2 : q + i * s.length + j < vs.size := by omega
        refine ⟨vOf x, ?_, ?_⟩
        · rw [he]
          simp only [Go.Sort.putCells, Array.getElem?_mapIdx, hfs]
          rw [Array.getElem?_eq_getElem hb2, Option.map_some, if_pos ⟨by omega, by omega⟩, show q + i * s.length + j - q = i * s.length + j by omega, Go.Sort.get_flatK _ _ _ _ (by rw [hs]; exact hij)]
          have e1 : (i * s.length + j) / s.length = i := by rw [Nat.mul_comm, Nat.mul_add_div hpos, Nat.div_eq_of_lt hj]; omega
          have e2 : (i * s.length + j) % s.length = j := by rw [Nat.mul_comm, Nat.mul_add_mod, Nat.mod_eq_of_lt hj]
          rw [e1, e2]
          have e3 : d'[i]! = d'.toList[i] := by rw [getElem!_pos d' i (by omega)]; simp
          show some ((encC s d'[i]!)[j]!) = _
          rw [e3, getElem!_pos _ _ (by rw [encC_len]; exact hj)]
          simp only [encC, List.getElem_map, nrmC_fits (hf _ hm)]
          rw [(List.getElem?_eq_some_iff.1 hx).2]
        · exact IR_vOf (cells_fits (hf _ hm) _ (List.mem_of_getElem? hx))
      · rw [if_neg hik] at hx
        obtain ⟨u, hu, hr⟩ := k8 i j x (by omega) hx
        refine ⟨u, ?_, hr⟩
        rw [hout _ fun hj => ?_]
        · exact hu
        · have := Nat.mul_le_mul_right s.length (show k ≤ i by omega)
          rw [he] at hj
          omega
    · rw [k9 j hj]
      simp
  obtain ⟨b1, b2⟩ := a1.write (w' := w1) hp rfl ⟨by rw [hw1]; rfl, by rw [hw1]; rfl, ⟨by rw [hw1]; rfl, by rw [hw1]; rfl⟩, by rw [hw1]; simp [Go.Sort.putRowK, Go.Sort.putRow, Go.Sort.mapBlock]⟩
    (fun k hk => by
      rw [hw1]
      show (wa.heap.modify b _)[k]? = _
      rw [Array.getElem?_modify, if_neg (fun e => hk e.symm)])
    (fun j v h => by
      have hc := a1.mem b j v h
      simp only [World.cell?, ka, hb1] at hc ⊢
      rw [hout j fun hj => ?_]
      · exact hc
      · have := k9 (j - q) (by omega)
        rw [show q + (j - q) = j by omega, h] at this
        simp at this) hB'
  have eg := Ext.grown w1 os
  obtain ⟨c1, c2⟩ := b1.ext eg (M' := M) (fun _ _ _ h => h) (fun b j v h => eg.cell (b1.mem b j v h)) fun _ _ _ => rfl
  have e : Go.Proofs.sortWorldK (encC s) s.length w b q n d' os = Go.Sort.grow w1 os := by rw [hw1, hwa]; rfl
  rw [e]
  exact ⟨c1, (a2.trans b2).trans c2⟩

/-! ### The sort -/
end GoV
