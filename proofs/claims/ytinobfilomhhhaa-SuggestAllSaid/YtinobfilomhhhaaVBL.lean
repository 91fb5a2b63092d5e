/- slices.Sort of numbers and of texts, by the library's contract, as a primitive. -/
import Derived.Test.YtinobfilomhhhaaVBH
import Derived.Sort.EncStr
set_option linter.unusedSimpArgs false
set_option linter.unusedVariables false
namespace GoV
open Go
variable {P : Program} {M M' : Mem} {pl pl' : Pls} {w w' : World} {H : Hp}

/-- A way in which an element of one cell stands. -/
structure One1 {α : Type} (s : Bool) (enc : α → Value) (e1 : α → IV) (dec : List IV → α) : Prop where
  v : ∀ a, vOf (e1 a) = enc a
  fit : ∀ a, fitsC [s] [e1 a] = true
  back : ∀ c, fitsC [s] c = true → c = [e1 (dec c)]
  de : ∀ a, dec [e1 a] = a

section
variable {α : Type} {s : Bool} {enc : α → Value} {e1 : α → IV} {dec : List IV → α}
theorem One1.enc1 (O : One1 s enc e1 dec) (a : α) : encC [s] [e1 a] = [enc a] := by
  rw [encC, nrmC_fits (O.fit a)]; simp [O.v]
theorem One1.list (O : One1 s enc e1 dec) : ∀ {es : List (List IV)}, (∀ c, c ∈ es → fitsC [s] c = true) → es = (es.map dec).map fun a => [e1 a]
  | [], _ => rfl
  | c :: r, h => by
    rw [List.map_cons, List.map_cons, ← O.back c (h c (by simp)), ← O.list fun d hd => h d (by simp [hd])]
theorem One1.flat (O : One1 s enc e1 dec) (l : List α) : Go.Sort.flatK (encC [s]) 1 ((l.map fun a => [e1 a]).toArray) = (l.map enc).toArray := by
  apply Array.ext
  · simp
  · intro i h1 h2
    have hi : i < l.length := by simpa using h2
    have h3 := Go.Sort.get_flatK (encC [s]) 1 ((l.map fun a => [e1 a]).toArray) i (by simpa using hi)
    rw [getElem!_pos _ i h1] at h3
    rw [h3, Nat.div_one, Nat.mod_one]
    have h4 : ((l.map fun a => [e1 a]).toArray)[i]! = [e1 l[i]] := by
      rw [getElem!_pos _ i (by simpa using hi)]; simp
    rw [h4, O.enc1]
    simp
variable [Inhabited α]
theorem holds_map {w : World} {b q : Nat} (l : List α) (h : Go.Sort.Holds id w b q (l.map enc).toArray) : Go.Sort.Holds enc w b q l.toArray := by
  intro j hj
  have hj' : j < l.length := by simpa using hj
  have := h j (by simpa using hj')
  rw [getElem!_pos _ j (by simpa using hj')] at this
  rw [getElem!_pos _ j (by simpa using hj')]
  simpa using this
theorem putRow_map (w : World) (b q : Nat) (l : List α) : Go.Sort.putRow enc w b q l.toArray = Go.Sort.putRow id w b q (l.map enc).toArray := by
  unfold Go.Sort.putRow
  congr 1
  funext c
  unfold Go.Sort.putCells
  apply Array.ext
  · simp
  · intro i h1 h2
    simp only [Array.getElem_mapIdx, List.size_toArray, List.length_map]
    split
    · rename_i h
      have hi : i - q < l.length := by omega
      rw [getElem!_pos _ (i - q) (by simpa using hi), getElem!_pos _ (i - q) (by simpa using hi)]
      simp
    · rfl
end

/-- What it makes of the first n elements. -/
def sort1V {α : Type} (s : Bool) (e1 : α → IV) (dec : List IV → α) (srt : List α → List α) : List FV → List Blk → Option (FV × List Blk)
  | [.one (.slo 0 0 n)], [.arr false gr z es] =>
    if n ≤ es.length ∧ (z = 1 ∨ es = []) ∧ n ≤ 1000000000000 ∧ es.all (fitsC [s]) = true then some (.tup [], [.arr false gr z ((srt ((es.take n).map dec)).map (fun a => [e1 a]) ++ es.drop n)]) else none
  | _, _ => none
theorem sort1_ok {α : Type} [Inhabited α] {s : Bool} {enc : α → Value} {e1 : α → IV} {dec : List IV → α} (O : One1 s enc e1 dec) {srt : List α → List α} (hl : ∀ l, (srt l).length = l.length) {f : Nat}
    (hcall : ∀ (blk off cap : Nat) (zs : List α) (w : World), Go.Sort.Holds enc w blk off zs.toArray → blk < w.heap.size → zs.length < 4611686018427387904 →
      Calls P f #[.slice (some ⟨blk, off, none⟩) zs.length cap] w fun e w' => e = .returned (.tuple #[]) ∧ ∃ n os, w' = Go.Sort.grow (Go.Sort.putRow enc (Go.Sort.ahead w n) blk off (srt zs).toArray) os)
    (hnone : ∀ (p : Option Addr) (cap : Nat) (w : World), Calls P f #[.slice p 0 cap] w fun e w' => e = .returned (.tuple #[]) ∧ w' = w)
    {vs : List FV} {bs : List Blk} {v : FV} {outs : List Blk} (h : sort1V s e1 dec srt vs bs = some (v, outs)) {args : Array Value} (ha : FsR M pl vs args.toList) (hw : WR M pl (lkH bs) w) :
    Calls P f args w fun e w' => ∃ r M' pl', e = .returned r ∧ FR M' pl' v r ∧ WR M' pl' (lkH outs) w' ∧ Fr M pl w M' pl' w' ∧ bs.length ≤ outs.length ∧
        ∀ l p, pl l = some p → pl' l = some p ∨ ∃ f z es, lkH outs l = some (.arr f true z es) := by
  unfold sort1V at h
  split at h
  · rename_i n gr z es
    split at h
    · rename_i hh
      obtain ⟨hne, hz, hn, hfit⟩ := hh
      simp only [Option.some.injEq, Prod.mk.injEq] at h
      obtain ⟨rfl, rfl⟩ := h
      have hfit : ∀ c, c ∈ es → fitsC [s] c = true := fun c hc => List.all_eq_true.1 hfit c hc
      have htl : (es.take n).length = n := by rw [List.length_take]; omega
      have hH : lkH [Blk.arr false gr z es] 0 = some (.arr false gr z es) := rfl
      obtain ⟨a, hargs, hsl⟩ : ∃ u, args.toList = [u] ∧ LR M pl (.slo 0 0 n) u := by
        cases hl : args.toList with
        | nil => rw [hl] at ha; exact ha.elim
        | cons u us =>
          rw [hl] at ha
          obtain ⟨ha1, ha2⟩ := ha
          cases us with
          | cons _ _ => exact ha2.elim
          | nil => exact ⟨u, rfl, ha1⟩
      have hargs' : args = #[a] := by
        apply Array.toList_inj.1; rw [hargs]
      subst hargs'
      by_cases hn0 : n = 0
      · subst hn0
        have : ∃ p c, a = .slice p 0 c := by
          rcases hsl with ⟨_, _, h0, p, hv⟩ | ⟨b, q, cap, esz, len, p, _, _, hv, _⟩
          · exact ⟨p, 0, hv⟩
          · exact ⟨p, cap - 0, hv⟩
        obtain ⟨p, c, rfl⟩ := this
        refine (hnone p c w).mono ?_
        rintro e w' ⟨rfl, rfl⟩
        have : (srt ((es.take 0).map dec)).map (fun a => [e1 a]) ++ es.drop 0 = es := by
          have h0 : srt ((es.take 0).map dec) = [] := List.eq_nil_of_length_eq_zero (by rw [hl]; rfl)
          rw [h0]; rfl
        rw [this]
        exact ⟨_, M, pl, rfl, ⟨_, rfl, trivial⟩, hw, Fr.refl _ _ _, Nat.le_refl _, fun l p h => .inl h⟩
      · rcases hsl with ⟨_, _, h0, _⟩ | ⟨b, q, cap, esz, len, p, hpl, _, rfl, hpa⟩
        · exact absurd h0 hn0
        · obtain ⟨p', hp', hB⟩ := hw.blk 0 _ hH
          rw [hpl] at hp'; cases hp'
          have hold := holds_of_BR (s := [s]) hB hz hfit n hne
          obtain ⟨⟨_, _⟩, _, vs, t, fr, f', k1, k2, _⟩ := hB
          have hpa := hpa (by omega)
          subst hpa
          have hblk : b < w.heap.size := by
            rcases Nat.lt_or_ge b w.heap.size with h | h
            · exact h
            · rw [Array.getElem?_eq_none h] at k1; cases k1
          have hfn : ∀ c, c ∈ es.take n → fitsC [s] c = true := fun c hc => hfit c (List.mem_of_mem_take hc)
          have hdl := O.list hfn
          have hold2 : Go.Sort.Holds enc w b q ((es.take n).map dec).toArray := by
            refine holds_map _ ?_
            rw [← O.flat, ← hdl]
            exact hold
          have hlen : ((es.take n).map dec).length = n := by rw [List.length_map, htl]
          have hcl := hcall b q cap ((es.take n).map dec) w hold2 hblk (by omega)
          rw [hlen] at hcl
          rw [show (0 : Nat) * esz = 0 by omega, Nat.add_zero, Nat.sub_zero]
          refine hcl.mono ?_
          rintro e w' ⟨rfl, n', os, rfl⟩
          have hwld : Go.Sort.grow (Go.Sort.putRow enc (Go.Sort.ahead w n') b q (srt ((es.take n).map dec)).toArray) os = Go.Proofs.sortWorldK (encC [s]) 1 w b q n' ((srt ((es.take n).map dec)).map fun a => [e1 a]).toArray os := by
            unfold Go.Proofs.sortWorldK Go.Sort.putRowK
            rw [O.flat, putRow_map]
          rw [hwld]
          obtain ⟨r1, r2⟩ := hw.sorted (s := [s]) (d' := ((srt ((es.take n).map dec)).map fun a => [e1 a]).toArray) hH hpl hz (by simp [hl]; omega) hne (fun c hc => by
            simp only [List.mem_map] at hc
            obtain ⟨a, _, rfl⟩ := hc
            exact O.fit a) n' os
          refine ⟨_, M, pl, rfl, ⟨_, rfl, trivial⟩, ?_, r2, Nat.le_refl _, fun l p h => .inl h⟩
          have : upd (lkH [Blk.arr false gr z es]) 0 (.arr false gr z ((srt ((es.take n).map dec)).map (fun a => [e1 a]) ++ es.drop n)) = lkH [Blk.arr false gr z ((srt ((es.take n).map dec)).map (fun a => [e1 a]) ++ es.drop n)] := by
            funext l
            cases l with
            | zero => rfl
            | succ l => rfl
          rw [← this]
          simpa using r1
    · cases h
  · cases h
/-- Such a sort beside others. -/
def sort1Pr {α : Type} (F : Nat) (s : Bool) (e1 : α → IV) (dec : List IV → α) (srt : List α → List α) (p : CallT) : CallT := fun f vs bs => bif Nat.beq f F then sort1V s e1 dec srt vs bs else p f vs bs
theorem sort1Pr_ok {α : Type} [Inhabited α] {s : Bool} {enc : α → Value} {e1 : α → IV} {dec : List IV → α} (O : One1 s enc e1 dec) {srt : List α → List α} (hl : ∀ l, (srt l).length = l.length) {F : Nat} {p : CallT}
    (hcall : ∀ (blk off cap : Nat) (zs : List α) (w : World), Go.Sort.Holds enc w blk off zs.toArray → blk < w.heap.size → zs.length < 4611686018427387904 →
      Calls P F #[.slice (some ⟨blk, off, none⟩) zs.length cap] w fun e w' => e = .returned (.tuple #[]) ∧ ∃ n os, w' = Go.Sort.grow (Go.Sort.putRow enc (Go.Sort.ahead w n) blk off (srt zs).toArray) os)
    (hnone : ∀ (p : Option Addr) (cap : Nat) (w : World), Calls P F #[.slice p 0 cap] w fun e w' => e = .returned (.tuple #[]) ∧ w' = w)
    (hF : HasFn P F) (hp : PrOK P (fun _ => p)) : PrOK P (fun _ => sort1Pr F s e1 dec srt p) := by
  intro call h1 h2
  obtain ⟨c1, c2⟩ := hp call h1 h2
  refine ⟨fun f vs bs v outs h M pl w args ha hw => ?_, fun f vs bs q h => ?_⟩
  · simp only [sort1Pr, cond_eq_ite] at h
    split at h
    · rename_i he
      have := Nat.eq_of_beq_eq_true he; subst this
      exact sort1_ok O hl hcall hnone h ha hw
    · exact c1 f vs bs v outs h M pl w args ha hw
  · simp only [sort1Pr, cond_eq_ite] at h
    split at h
    · rename_i he
      have := Nat.eq_of_beq_eq_true he; subst this
      exact hF
    · exact c2 f vs bs q h

/-! ### Numbers, and texts -/
def decT : List IV → List UInt8
  | [.str b] => b.data.toList
  | _ => []
theorem oneT : One1 false Go.Proofs.encStr (fun b => .str ⟨b.toArray⟩) decT := by
  refine ⟨fun a => rfl, fun a => rfl, fun c hc => ?_, fun a => by simp [decT]⟩
  cases c with
  | nil => simp [fitsC] at hc
  | cons x r =>
    cases r with
    | cons y r => cases x <;> simp [fitsC] at hc
    | nil =>
      cases x <;> simp [fitsC] at hc
      rename_i b
      rcases b with ⟨b⟩; simp [decT]
end GoV
