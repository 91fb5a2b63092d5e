/- slices.Insert of one element into an own slice, as a primitive. -/
import Derived.Test.YtlbmknejhmmjnaaV3
import Derived.Test.YtlbmknejhmmjnaaVBJ
set_option linter.unusedSimpArgs false
set_option linter.unusedVariables false
namespace GoV
open Go
variable {P : Program} {M M' : Mem} {pl pl' : Pls} {w w' : World} {H : Hp}

/-- The elements behind it: in place x, what stood there a place on; what lies behind is over-written by one. -/
def insF (es : List (List IV)) (n i : Nat) (x : List IV) : List (List IV) := rSeg es 0 i ++ ([x] ++ (rSeg es i (n - i) ++ es.drop (n + 1)))
def insV (k bytes : Nat) : List FV → List Blk → Option (FV × List Blk)
  | [.one (.slo 0 0 n), .one (.iv (.int .i64 i)), .one (.iv (.sl _ z [x]))], [.arr false _ ze es] =>
    if okE ze k = true ∧ okE z k = true ∧ 0 ≤ i ∧ i ≤ n ∧ n ≤ es.length ∧ (n + 1) * bytes ≤ 140737488355328 then some (.one (.slo 0 0 (n + 1)), [.arr false true k (insF es n i.toNat x)]) else none
  | _, _ => none

theorem shape_of {w : World} {b : Nat} {vs : Array Value} {t : TypeId} {fr : Nat × Nat} (h : w.heap[b]? = some (.cells vs t fr)) : w.shape? b = some (t, vs.size) := by
  simp [World.shape?, h]
theorem run_overlaps_own (w : World) (tS tR e : TypeId) (ht : P.underlying tS = some (.slice e)) (size : Nat) (hz : ∀ w, (Go.sizeOf e).run P w = .ok size w)
    (a b : Addr) (la ca lb cb : Nat) (tA tB : TypeId) (kA kB : Nat) (hsa : w.shape? a.block = some (tA, kA)) (hsb : w.shape? b.block = some (tB, kB)) (hkA : kA ≠ 0)
    (hfb : w.frozen? b = false) (hfe : w.frozen? { block := b.block, off := kB } = false) (hap : a.block = b.block → ¬ (a.off < b.off + lb * size ∧ b.off < a.off + la * size)) :
    (Extern.SlicesOverlaps.overlaps #[tS, tS] #[tR] #[.slice (some a) la ca, .slice (some b) lb cb]).run P w = .ok (.bool false) w := by
  change Sem.run P (α := Value) (do
    let some t := (#[tS, tS] : Array TypeId)[0]? | stuck "slices.overlaps: no parameter types"
    let .slice elem ← underlying t | stuck "slices.overlaps: slice type expected"
    let size ← sizeOf elem
    match (some a : Option Addr), (some b : Option Addr) with
    | some a, some b =>
      if la = 0 ∨ lb = 0 ∨ size = 0 then pure (Value.bool false)
      else if a.block != b.block && (← frozen a) && (← frozen b) then unsupported .addressObserved
      else do
        if a.block != b.block then do
          noView a; noView b
          if ← mayBeOne a b then return Value.bool ((← choose (.extern "sameAddr.stringBytes" 2)) == 1)
        pure (Value.bool (a.block == b.block && a.off < b.off + lb * size && b.off < a.off + la * size))
    | _, _ => pure (Value.bool false)) w = _
  by_cases h0 : la = 0 ∨ lb = 0 ∨ size = 0
  · simp [run_underlying ht, hz, h0]
  · by_cases hne : a.block = b.block
    · have h1 : (a.block != b.block) = false := by simpa using hne
      have h2 : (a.block == b.block) = true := by simpa using hne
      have h3 := hap hne
      have h4 : (decide (a.off < b.off + lb * size) && decide (b.off < a.off + la * size)) = false := by
        by_cases c1 : a.off < b.off + lb * size
        · by_cases c2 : b.off < a.off + la * size
          · exact absurd ⟨c1, c2⟩ h3
          · simp [c2]
        · simp [c1]
      simp [run_underlying ht, hz, h0, h1, h2, h4, frozen, Sem.run]
    · have hnb : (a.block != b.block) = true := by simpa using hne
      have hnb' : (a.block == b.block) = false := by simpa using hne
      cases kA with
      | zero => exact absurd rfl hkA
      | succ kA =>
        cases hfa : w.frozen? a <;> cases hfx : w.frozen? { block := a.block, off := kA + 1 } <;>
          simp [run_underlying ht, hz, h0, hnb, hnb', frozen, noView, viewAt, mayBeOne, stringish, shape, Sem.run, hsa, hsb, hfa, hfb, hfe, hfx]

theorem ins_El {A B C : Nat → Option Value} {k : Nat} {es : List (List IV)} {x : List IV} {n i : Nat} (hA : ElR M A k es) (hB : ElR M B k [x]) (hi : i ≤ n) (hn : n ≤ es.length)
    (c1 : ∀ j, j < i * k → C j = A j) (c2 : ∀ j, j < k → C (i * k + j) = B j) (c3 : ∀ j, j < (n - i) * k → C ((i + 1) * k + j) = A (i * k + j)) (c4 : ∀ j, j < (es.length - (n + 1)) * k → C ((n + 1) * k + j) = A ((n + 1) * k + j)) : ElR M C k (insF es n i x) := by
  have l1 : (rSeg es 0 i).length = i := by simp [rSeg]; omega
  have l2 : (rSeg es i (n - i)).length = n - i := by simp [rSeg]; omega
  have hd : es.drop (n + 1) = rSeg es (n + 1) (es.length - (n + 1)) := by unfold rSeg; exact (List.take_of_length_le (by rw [List.length_drop]; omega)).symm
  have e1 : (i + 1) * k + (n - i) * k = (n + 1) * k := by rw [← Nat.add_mul]; congr 1; omega
  have e2 : (i + 1) * k = i * k + k := Nat.succ_mul i k
  have h3 : ElR M (fun j => C ((i + 1) * k + j)) k (rSeg es i (n - i) ++ es.drop (n + 1)) := by
    rw [hd]
    refine ElR.append (hA.seg i (n - i)) (hA.seg (n + 1) (es.length - (n + 1))) (fun j hj => ?_) (fun j hj => ?_)
    · rw [l2] at hj; exact c3 j hj
    · rw [l2]
      have : (rSeg es (n + 1) (es.length - (n + 1))).length = es.length - (n + 1) := by simp [rSeg]
      rw [this] at hj
      rw [← Nat.add_assoc, e1]; exact c4 j hj
  have h2 : ElR M (fun j => C (i * k + j)) k ([x] ++ (rSeg es i (n - i) ++ es.drop (n + 1))) := by
    refine ElR.append hB h3 (fun j hj => ?_) (fun j hj => ?_)
    · exact c2 j (by simpa using hj)
    · simp only [List.length_singleton, Nat.one_mul]; rw [← Nat.add_assoc, ← e2]
  refine ElR.append (hA.seg 0 i) h2 (fun j hj => ?_) (fun j hj => ?_)
  · rw [l1] at hj; rw [Nat.zero_mul, Nat.zero_add]; exact c1 j hj
  · rw [l1]
theorem insF_len {es : List (List IV)} {n i : Nat} {x : List IV} (hi : i ≤ n) (hn : n ≤ es.length) : (insF es n i x).length = if n < es.length then es.length else n + 1 := by
  simp [insF, rSeg]; split <;> omega
theorem WR.one_to {B B' : Blk} (hw : WR M pl (lkH [B]) w) (h : ∀ p, BR M pl w B p → BR M pl w B' p) : WR M pl (lkH [B']) w := by
  refine ⟨hw.mem, fun l C hC => ?_, fun l p hp => ?_, hw.inj⟩
  · cases l with
    | zero =>
      simp [lkH] at hC; subst hC
      obtain ⟨p, h1, h2⟩ := hw.blk 0 B rfl
      exact ⟨p, h1, h p h2⟩
    | succ l => simp [lkH] at hC
  · cases l with
    | zero => exact ⟨_, rfl⟩
    | succ l => obtain ⟨b, hb⟩ := hw.dom _ p hp; simp [lkH] at hb
theorem BR.flag {ze k : Nat} {g : Bool} {es : List (List IV)} (hz : okE ze k = true) (hes : es ≠ []) {p : Pl} (h : BR M pl w (.arr false g ze es) p) : BR M pl w (.arr false true k es) p := by
  cases p with
  | var b => exact h.elim
  | nil => exact absurd h hes
  | arr b q cap esz len =>
    obtain ⟨⟨h1, h2⟩, h3⟩ := h
    refine ⟨⟨.inl ?_, h2⟩, h3⟩
    obtain ⟨_, _, _, _, _, _, _, h4, _⟩ := h3
    rcases h1 with rfl | ⟨_, h⟩
    · simp [okE] at hz; omega
    · exact absurd h hes

theorem ins_ok {ρ : Go.Shelf.Ren} {f k bytes : Nat} {z0 : Value} (L : Go.Proofs.InsLay P ρ k bytes z0) (hf : ρ.f 22 = f) (hzc : z0.cells.size = k) (hk0 : 0 < k) (hk1 : k ≠ 1) (hb0 : 0 < bytes) (hb1 : bytes ≤ 4294967296)
    {vs : List FV} {bs : List Blk} {v : FV} {outs : List Blk} (h : insV k bytes vs bs = some (v, outs)) {args : Array Value} (ha : FsR M pl vs args.toList) (hw : WR M pl (lkH bs) w) :
    Calls P f args w fun e w' => ∃ r M' pl', e = .returned r ∧ FR M' pl' v r ∧ WR M' pl' (lkH outs) w' ∧ Fr M pl w M' pl' w' ∧ bs.length ≤ outs.length ∧
        ∀ l p, pl l = some p → pl' l = some p ∨ ∃ f z es, lkH outs l = some (.arr f true z es) := by
  subst hf
  unfold insV at h
  split at h
  · rename_i n i f0 z x g ze es
    split at h
    · rename_i hc
      obtain ⟨hze, hz, hi0, hin, hn, hbig⟩ := hc
      simp only [Option.some.injEq, Prod.mk.injEq] at h
      obtain ⟨rfl, rfl⟩ := h
      obtain ⟨i, rfl⟩ : ∃ m : Nat, i = m := ⟨i.toNat, by omega⟩
      have hin : i ≤ n := by omega
      simp only [Int.toNat_natCast]
      have hnb : n + 1 ≤ (n + 1) * bytes := Nat.le_mul_of_pos_right _ hb0
      obtain ⟨v0, av, vc, hargs, hv0, hvx⟩ : ∃ v0 av vc, args.toList = [v0, .int .i64 (i : Int), .slice av 1 vc] ∧ LR M pl (.slo 0 0 n) v0 ∧ IR M (.sl f0 z [x]) (.slice av 1 vc) := by
        cases hl : args.toList with
        | nil => rw [hl] at ha; exact ha.elim
        | cons u us =>
          rw [hl] at ha
          obtain ⟨ha1, ha2⟩ := ha
          cases us with
          | nil => exact ha2.elim
          | cons u2 us =>
            obtain ⟨ha2, ha3⟩ := ha2
            cases us with
            | nil => exact ha3.elim
            | cons u3 us =>
              obtain ⟨ha3, ha4⟩ := ha3
              cases us with
              | cons _ _ => exact ha4.elim
              | nil =>
                have ha2 : IR M (.int .i64 (i : Int)) u2 := ha2
                have ha3 : IR M (.sl f0 z [x]) u3 := ha3
                cases ha2
                obtain ⟨a, c, b, o, f, g, he, _⟩ := ha3.sl_inv
                subst he
                exact ⟨u, a, c, rfl, ha1, ha3⟩
      have hargs' : args = #[v0, .int .i64 (i : Int), .slice av 1 vc] := by apply Array.toList_inj.1; rw [hargs]
      subst hargs'
      obtain ⟨p, hp, hBR⟩ := hw.blk 0 _ rfl
      have hpa : isArr p := by cases p <;> first | exact trivial | exact hBR.elim
      have hdom : ∀ l p, pl l = some p → l = 0 := fun l p hp => by
        obtain ⟨b, hb⟩ := hw.dom l p hp
        cases l with
        | zero => rfl
        | succ l => simp [lkH] at hb
      have hlen := insF_len (x := x) hin hn
      have htail : ∀ pl' : Pls, ∀ l p, pl l = some p → pl' l = some p ∨ ∃ f z es', lkH [Blk.arr false true k (insF es n i x)] l = some (.arr f true z es') := fun pl' l p hp => .inr ⟨false, k, insF es n i x, by have := hdom l p hp; subst this; rfl⟩
      have hes1 : insF es n i x ≠ [] := fun h => by rw [h] at hlen; simp at hlen; split at hlen <;> omega
      by_cases hin' : i = n
      · -- at the end: an append
        subst hin'
        have hA : AppT P #[ρ.t 24, ρ.t 24] k bytes := by
          obtain ⟨i0, hi0, hz0, hzs, hzb⟩ := info_parts L.i9
          exact ⟨_, _, _, i0, z0, _, rfl, rfl, L.t24, hi0, hzs, hzb, hz0, hzc, L.t24, .inl ⟨_, rfl⟩, hk0, hb0, hb1⟩
        have hsrc : srcOf real (lkH [Blk.arr false g ze es]) k (.one (.iv (.sl f0 z [x]))) = some [x] := by simp [srcOf, hz]
        obtain ⟨a, c, rfl, hnc⟩ : ∃ a c, v0 = .slice a i c ∧ i ≤ c := by
          rcases hv0 with ⟨_, _, rfl, a, rfl⟩ | ⟨b, q, cap, e, len, a, h1, h2, rfl, h3⟩
          · exact ⟨a, 0, rfl, Nat.le_refl _⟩
          · refine ⟨a, cap - 0, rfl, ?_⟩
            rw [hp] at h1; cases h1
            obtain ⟨vs, t, fr, b1, b2, b3, _⟩ := hBR.to_El
            omega
        by_cases hfull : i = es.length
        · have hrm : (140737488355328 : Nat) ≤ room := by decide
          have hap : rApo bytes 0 i es [x] = some (true, es.drop 0 ++ [x]) := by
            simp only [rApo, Nat.zero_add, hfull]
            rw [if_pos trivial, if_pos ⟨by rw [← hfull]; simp only [List.length_singleton]; omega, .inl trivial⟩]
          have hop := app_own (P := P) hw hA (ρ.t 24) (l := 0) (o := 0) (n := i) rfl hze hv0 (x := .one (.iv (.sl f0 z [x]))) hvx hsrc hap
          obtain ⟨r, w', M', pl', hrun, hd⟩ := hop
          refine (Go.Proofs.insert_end L a i c 1 vc av w w' r (by omega) hnc (fun ty => hrun)).mono ?_
          rintro e w'' ⟨rfl, rfl⟩
          have he : insF es i i x = es.drop 0 ++ [x] := by simp [insF, rSeg, hfull]
          have hB : apF ⟨.one (.slo 0 0 (real .ln (es.drop 0 ++ [x]))), [(0, .arr false true k (es.drop 0 ++ [x]))], [0]⟩ (lkH [Blk.arr false g ze es]) = lkH [Blk.arr false true k (insF es i i x)] := by
            funext l
            rw [he]
            cases l with
            | zero => simp [apF, upF, upd, lkH]
            | succ l => simp [apF, upF, upd, lkH]
          refine ⟨r, M', pl', rfl, ?_, ?_, hd.fr, by simp, htail pl'⟩
          · have := hd.val
            rw [real_ln] at this
            simpa [hfull] using this
          · have := hd.wr; rw [hB] at this; exact this
        · have hap : rApo bytes 0 i es [x] = some (false, rOver es i [x]) := by
            simp only [rApo, Nat.zero_add]
            rw [if_neg hfull, if_pos (by simp; omega)]
          have hop := app_over (P := P) hw hA (ρ.t 24) (l := 0) (o := 0) (n := i) rfl hze hv0 (x := .one (.iv (.sl f0 z [x]))) hvx hsrc hap
          obtain ⟨r, w', M', pl', hrun, hd⟩ := hop
          refine (Go.Proofs.insert_end L a i c 1 vc av w w' r (by omega) hnc (fun ty => hrun)).mono ?_
          rintro e w'' ⟨rfl, rfl⟩
          have he : insF es i i x = rOver es i [x] := by simp [insF, rSeg, rOver]
          refine ⟨r, M', pl', rfl, hd.val, ?_, hd.fr, by simp, htail pl'⟩
          have := hd.wr
          rw [apF_ups] at this
          have hB : upF (lkH [Blk.arr false g ze es]) [(0, Blk.arr false g ze (rOver es i [x]))] = lkH [Blk.arr false g ze (insF es i i x)] := by
            funext l
            rw [he]
            cases l with
            | zero => simp [upF, upd, lkH]
            | succ l => simp [upF, upd, lkH]
          rw [hB] at this
          exact this.one_to fun p hp => BR.flag hze hes1 hp
      · -- within
        have hilt : i < n := by omega
        rcases hv0 with ⟨_, _, h0, _⟩ | ⟨b, q, cap, e, len, a, h1, h2, rfl, h3⟩
        · omega
        rw [hp] at h1; cases h1
        have hse := sizes hw (H := lkH [Blk.arr false g ze es]) rfl hze hp
        obtain ⟨vs, t, fr, b1, b2, b3, b4, b5, b6, b7, b8, b9, b10⟩ := hBR.to_El
        have hek : e = k := by rcases hse with h | h; exact h; omega
        subst hek
        have ha' := h3 (by omega)
        subst ha'
        simp only [Nat.zero_mul, Nat.add_zero, Nat.sub_zero]
        -- the variadic's cells
        obtain ⟨a', c', vb, vo, f1, g1, hve, hc1, hff, hav, hz1, hfl, hsz, hMv, hr1⟩ := hvx.sl_inv
        simp only [Value.slice.injEq] at hve
        obtain ⟨rfl, _, rfl⟩ := hve
        have hav' := hav (by simp)
        subst hav'
        have hzk : z = e := by
          have := hz1 (by simp)
          simp [okE] at hz; omega
        subst hzk
        have hBx : ElR M (fun j => M vb (vo + j)) z [x] := ElR.of_sl hvx (fun _ => rfl)
        generalize hus : ((List.range ([x].length * z)).map fun j => ((fun j => M vb (vo + j)) j).getD undef) = us
        have husl : us.length = 1 * z := by rw [← hus]; simp
        have husg : ∀ j, j < z → us[j]? = M vb (vo + j) := fun j hj => by
          obtain ⟨u, hu, _⟩ := hBx.cells j (by simpa using hj)
          rw [hu, ← hus]
          have := get_list (B := fun j => M vb (vo + j)) (n := [x].length * z) (by simpa using hj) hu
          simpa using this
        have hus1 : ∀ u, u ∈ us → u.oneCell' = true := fun u hu => one_list hBx u (by simpa [← hus] using hu)
        have husw : ∀ (j : Nat) v, us[j]? = some v → w.cell? ⟨vb, vo + j, none⟩ = some v := fun j v hj => by
          have hjl : j < z := by have := (List.getElem?_eq_some_iff.1 hj).1; omega
          rw [husg j hjl] at hj
          exact hw.mem _ _ _ hj
        -- the row's cells
        have hA0 := b7.seg 0 n
        simp only [Nat.zero_mul, Nat.zero_add] at hA0
        have hsl : (rSeg es 0 n).length = n := by simp [rSeg]; omega
        generalize hcs : ((List.range ((rSeg es 0 n).length * z)).map fun j => ((fun j => vs[q + j]?) j).getD undef) = cs
        have hcsl : cs.length = n * z := by rw [← hcs]; simp [hsl]
        have hnz : n * z ≤ es.length * z := Nat.mul_le_mul_right _ hn
        have hez : es.length * z ≤ cap * z := Nat.mul_le_mul_right _ b3
        have hcsg : ∀ j, j < n * z → cs[j]? = vs[q + j]? := fun j hj => by
          obtain ⟨u, hu, _⟩ := hA0.cells j (by rw [hsl]; exact hj)
          have := get_list (B := fun j => vs[q + j]?) (n := (rSeg es 0 n).length * z) (k := j) (by rw [hsl]; exact hj) hu
          rw [hu, ← hcs]
          simpa using this
        have hcs1 : ∀ u, u ∈ cs → u.oneCell' = true := fun u hu => one_list hA0 u (by simpa [← hcs] using hu)
        have hcsw : ∀ (j : Nat) v, cs[j]? = some v → w.cell? ⟨b, q + j, none⟩ = some v := fun j v hj => by
          have hjl : j < n * z := by have := (List.getElem?_eq_some_iff.1 hj).1; omega
          rw [hcsg j hjl] at hj
          rw [cell_of_heap b1]; exact hj
        have hMb : ∀ j, j < cap * z → M b (q + j) = none := fun j hj => by rw [b10 j hj, if_neg (by rintro ⟨h, _⟩; cases h)]
        have hMu : ∀ j, j < z → ∃ u, M vb (vo + j) = some u := fun j hj => by
          obtain ⟨u, hu, _⟩ := hBx.cells j (by simpa using hj)
          exact ⟨u, hu⟩
        have hiz : i * z + z = (i + 1) * z := (Nat.succ_mul i z).symm
        have hnz1 : n * z + z = (n + 1) * z := (Nat.succ_mul n z).symm
        have hinz : i * z + (n - i) * z = n * z := by rw [← Nat.add_mul]; congr 1; omega
        have hin2 : (i + 1) * z + (n - i) * z = (n + 1) * z := by rw [← Nat.add_mul]; congr 1; omega
        have hz2 : z ≤ (n - i) * z := Nat.le_mul_of_pos_left z (by omega)
        have hdl : (cs.drop (i * z)).length = (n - i) * z := by rw [List.length_drop, hcsl]; omega
        have fin : ∀ (p' : Pl) (w' : World) (r : Value), isArr p' → (∀ b j v, M b j = some v → w'.cell? ⟨b, j, none⟩ = some v) → (w'.os = w.os ∧ w'.tape = w.tape ∧ (w'.output = w.output ∧ w.drawn ≤ w'.drawn) ∧ w.heap.size ≤ w'.heap.size) → (∀ k, k < w.heap.size → (Pl.arr b q cap z len).block ≠ some k → w'.heap[k]? = w.heap[k]?) →
            (∀ k, p'.block = some k → (Pl.arr b q cap z len).block = some k ∨ w.heap.size ≤ k) → BR M (upd pl 0 p') w' (.arr false true z (insF es n i x)) p' → LR M (upd pl 0 p') (.slo 0 0 (n + 1)) r →
            ∃ r' M' pl', Ending.returned r = Ending.returned r' ∧ FR M' pl' (.one (.slo 0 0 (n + 1))) r' ∧ WR M' pl' (lkH [Blk.arr false true z (insF es n i x)]) w' ∧ Fr M pl w M' pl' w' ∧ [Blk.arr false g ze es].length ≤ [Blk.arr false true z (insF es n i x)].length ∧
              ∀ l p, pl l = some p → pl' l = some p ∨ ∃ f z' es', lkH [Blk.arr false true z (insF es n i x)] l = some (.arr f true z' es') := by
          intro p' w' r k1 k2 k3 k4 k5 k6 k7
          obtain ⟨m1, m2, m3⟩ := hw.moveArr hp hpa k1 (fun _ _ _ h => h) k2 k3 k4 k5 (fun _ _ _ _ => rfl) k6
          refine ⟨r, M, upd pl 0 p', rfl, k7, ?_, m2, by simp, htail _⟩
          have hB : (fun y => if y = 0 then some (Blk.arr false true z (insF es n i x)) else (lkH [Blk.arr false g ze es] y).map (killB 0)) = lkH [Blk.arr false true z (insF es n i x)] := by
            funext l
            cases l with
            | zero => simp [lkH]
            | succ l => simp [lkH]
          rw [hB] at m1; exact m1
        by_cases hroom : n + 1 ≤ cap
        · -- in place
          have hcz : (n + 1) * z ≤ cap * z := Nat.mul_le_mul_right _ hroom
          have hov : ∀ cb : Nat, (Extern.SlicesOverlaps.overlaps #[(ρ.t 24), (ρ.t 24)] #[(ρ.t 4)] #[.slice (some ⟨vb, vo, none⟩) 1 vc, .slice (some ⟨b, q + (i + 1) * z, none⟩) (n - i) cb]).run P w = .ok (.bool false) w := fun cb => by
            obtain ⟨u0, hu0⟩ := hMu 0 hk0
            have hcell := hw.mem _ _ _ hu0
            obtain ⟨vs2, t2, fr2, d1, d2⟩ : ∃ vs2 t2 fr2, w.heap[vb]? = some (.cells vs2 t2 fr2) ∧ vs2[vo + 0]? = some u0 := by
              simp only [World.cell?] at hcell
              split at hcell
              · rename_i hh; exact ⟨_, _, _, hh, hcell⟩
              · cases hcell
            refine run_overlaps_own w (ρ.t 24) (ρ.t 4) (ρ.t 9) L.t24 z L.z9 _ _ 1 vc (n - i) cb t2 t vs2.size vs.size (shape_of d1) (shape_of b1) (by have := some_lt d2; omega) ?_ ?_ ?_
            · have := b6 ((i + 1) * z) (.inl (by omega))
              exact this
            · have hq := b6 (vs.size - q) (.inr ⟨hk1, by omega⟩)
              rw [show q + (vs.size - q) = vs.size by omega] at hq
              exact hq
            · intro hbb ⟨o1, o2⟩
              have hbb : vb = b := hbb
              subst hbb
              simp only [Nat.one_mul] at o1 o2
              have o1 : vo < q + (i + 1) * z + (n - i) * z := o1
              have o2 : q + (i + 1) * z < vo + z := o2
              -- a place that both have
              obtain ⟨j, hj, hj2⟩ : ∃ j, j < z ∧ q + (i + 1) * z ≤ vo + j ∧ vo + j < q + (i + 1) * z + (n - i) * z := by
                rcases Nat.le_total vo (q + (i + 1) * z) with h | h
                · refine ⟨q + (i + 1) * z - vo, by omega, by omega, ?_⟩
                  omega
                · exact ⟨0, hk0, by omega, by omega⟩
              obtain ⟨u, hu⟩ := hMu j hj
              have := hMb (vo + j - q) (by omega)
              rw [show q + (vo + j - q) = vo + j by omega, hu] at this
              cases this
          have hcall := Go.Proofs.insert_shift L b q n cap i vb vo 1 vc cs us w hk0 hilt (by omega) hroom (by omega) hcsl husl hcsw
            (fun j hj => by rw [cell_of_heap b1]; simp; omega) (fun j hj => b6 j (.inl (by omega))) husw
            (fun j j' hj hj' hh => by
              obtain ⟨u, hu⟩ := hMu j (by omega)
              rw [hh.1, hh.2, hMb j' (by omega)] at hu
              cases hu) hcs1 hus1 hov
          refine hcall.mono ?_
          rintro e' w' ⟨rfl, rfl⟩
          have b1' : w.drew.heap[b]? = some (.cells vs t fr) := b1
          obtain ⟨vs1, d1, d2, d3⟩ := setCells_at w.drew b1' (o := q + (i + 1) * z) (us := cs.drop (i * z)) (by omega)
          obtain ⟨vs2, g1, g2, g3⟩ := setCells_at (w.drew.setCells b (q + (i + 1) * z) (cs.drop (i * z))) d1 (o := q + i * z) (us := us) (by omega)
          obtain ⟨s1, s2, s3, s4⟩ := setCells_same b us (q + i * z) (w.drew.setCells b (q + (i + 1) * z) (cs.drop (i * z)))
          obtain ⟨r1, r2, r3, r4⟩ := setCells_same b (cs.drop (i * z)) (q + (i + 1) * z) w.drew
          have hget : ∀ j, vs2[j]? = if q + i * z ≤ j ∧ j < q + (n + 1) * z then (if j < q + (i + 1) * z then us[j - (q + i * z)]? else vs[j - z]?) else vs[j]? := fun j => by
            rw [g3, d3]
            by_cases c1 : q + i * z ≤ j ∧ j < q + i * z + us.length
            · rw [if_pos c1, if_pos ⟨c1.1, by omega⟩, if_pos (by omega)]
            · rw [if_neg c1]
              by_cases c2 : q + (i + 1) * z ≤ j ∧ j < q + (i + 1) * z + (cs.drop (i * z)).length
              · rw [if_pos c2, if_pos ⟨by omega, by omega⟩, if_neg (by omega), List.getElem?_drop, hcsg _ (by omega)]
                congr 1; omega
              · rw [if_neg c2, if_neg (by rintro ⟨_, _⟩; omega)]
          have hEl : ElR M (fun j => vs2[q + j]?) z (insF es n i x) := by
            refine ins_El b7 hBx hin hn (fun j hj => ?_) (fun j hj => ?_) (fun j hj => ?_) (fun j hj => ?_)
            · rw [hget, if_neg (by rintro ⟨_, _⟩; omega)]
            · rw [hget, if_pos ⟨by omega, by omega⟩, if_pos (by omega), show q + (i * z + j) - (q + i * z) = j by omega, husg j hj]
            · rw [hget, if_pos ⟨by omega, by omega⟩, if_neg (by omega)]
              congr 1; omega
            · rw [hget, if_neg (by rintro ⟨_, _⟩; omega)]
          refine fin (.arr b q cap z (insF es n i x).length) _ _ trivial (fun b' j v hM => ?_) ⟨s1.trans r1, s2.trans r2, ⟨s3.1.trans r3.1, ?_⟩, by rw [s4, r4]; exact Nat.le_refl _⟩ (fun k' _ hk' => ?_) (fun k' hk' => .inl hk')
            (BR.of_El g1 (fun j hj => ?_) hk0 (by rw [hlen]; split <;> omega) (by omega) hEl (.inl rfl) (fun h' => by rw [hlen] at h'; split at h' <;> omega) (fun j hj => by rw [hMb j hj, if_neg (by rintro ⟨h, _⟩; cases h)]))
            (.inr ⟨b, q, cap, z, _, _, upd_same _ _ _, by rw [hlen]; split <;> omega, rfl, fun _ => by rw [Nat.zero_mul]; rfl⟩)
          · by_cases eb : b' = b
            · subst eb
              have hM0 := hw.mem _ _ _ hM
              rw [cell_of_heap b1] at hM0
              rw [cell_of_heap g1, hget, if_neg, hM0]
              rintro ⟨u1, u2⟩
              have := hMb (j - q) (by omega)
              rw [show q + (j - q) = j by omega, hM] at this
              cases this
            · have hM0 := hw.mem _ _ _ hM
              simp only [World.cell?] at hM0 ⊢
              rw [setCells_other b _ _ _ b' eb, setCells_other b _ _ _ b' eb]
              exact hM0
          · rw [s3.2, r3.2]; exact (Ext.drew w).drawn
          · have : k' ≠ b := fun h => hk' (by rw [h]; rfl)
            rw [setCells_other b _ _ _ k' this, setCells_other b _ _ _ k' this]
            rfl
          · have := b6 j (by rw [← d2, ← g2]; exact hj)
            simp only [World.frozen?, b1, g1] at this ⊢
            exact this
        · -- a new row
          have hnes : n = es.length := by omega
          obtain ⟨G, ROW, hG, hGR, hRc, hcall⟩ := Go.Proofs.insert_grow L b q n cap i vb vo 1 vc cs us w hk0 hzc hilt (by omega) (by omega) (by omega) hbig (by omega) hcsl husl hcsw husw hcs1 hus1
          refine hcall.mono ?_
          rintro e' w' ⟨rfl, rfl⟩
          have hGz : (n + 1) * z ≤ G * z := Nat.mul_le_mul_right _ hG
          have n1 : ((w.alloc (.cells ROW (ρ.t 9))).drew).heap[w.heap.size]? = some (.cells ROW (ρ.t 9) (0, 0)) := heap_new
          obtain ⟨vs1, d1, d2, d3⟩ := setCells_at _ n1 (o := i * z) (us := us) (by omega)
          have d1' : (((w.alloc (.cells ROW (ρ.t 9))).drew.setCells w.heap.size (i * z) us).drew).heap[w.heap.size]? = some (.cells vs1 (ρ.t 9) (0, 0)) := d1
          obtain ⟨vs2, g1, g2, g3⟩ := setCells_at _ d1' (o := (i + 1) * z) (us := cs.drop (i * z)) (by omega)
          obtain ⟨r1, r2, r3, r4⟩ := setCells_same w.heap.size us (i * z) (w.alloc (.cells ROW (ρ.t 9))).drew
          obtain ⟨s1, s2, s3, s4⟩ := setCells_same w.heap.size (cs.drop (i * z)) ((i + 1) * z) ((w.alloc (.cells ROW (ρ.t 9))).drew.setCells w.heap.size (i * z) us).drew
          have hext : Ext w ((w.alloc (.cells ROW (ρ.t 9))).drew) := (Ext.alloc w _).trans (Ext.drew _)
          have hext2 := Ext.drew ((w.alloc (.cells ROW (ρ.t 9))).drew.setCells w.heap.size (i * z) us)
          have hEl : ElR M (fun j => vs2[0 + j]?) z (insF es n i x) := by
            simp only [Nat.zero_add]
            refine ins_El b7 hBx hin hn (fun j hj => ?_) (fun j hj => ?_) (fun j hj => ?_) (fun j hj => ?_)
            · have hjn : j < n * z := by omega
              have hv := hcsg j hjn
              obtain ⟨u, hu, _⟩ := hA0.cells j (by rw [hsl]; exact hjn)
              rw [g3, if_neg (by rintro ⟨_, _⟩; omega), d3, if_neg (by rintro ⟨_, _⟩; omega), hRc j u hj (by rw [hv]; exact hu)]
              exact hu.symm
            · rw [g3, if_neg (by rintro ⟨_, _⟩; omega), d3, if_pos ⟨by omega, by omega⟩, show i * z + j - i * z = j by omega, husg j hj]
            · rw [g3, if_pos ⟨by omega, by omega⟩, List.getElem?_drop, hcsg _ (by omega)]
              congr 1; omega
            · exfalso; rw [show es.length - (n + 1) = 0 by omega] at hj; omega
          have hlen' : (insF es n i x).length = n + 1 := by rw [hlen, if_neg (by omega)]
          have hMn : ∀ j, M w.heap.size j = none := fun j => by
            cases hMj : M w.heap.size j with
            | none => rfl
            | some v => have := hw.mem_lt hMj; omega
          refine fin (.arr w.heap.size 0 G z (insF es n i x).length) _ _ trivial (fun b' j v hM => ?_) ⟨s1.trans (hext2.os.trans (r1.trans hext.os)), s2.trans (hext2.tape.trans (r2.trans hext.tape)), ⟨s3.1.trans (hext2.output.trans (r3.1.trans hext.output)), ?_⟩, ?_⟩ (fun k' hk' _ => ?_) (fun k' hk' => ?_)
            (BR.of_El g1 (fun j _ => frozen_of_heap g1 _) hk0 (by omega) (by rw [g2, d2]; omega) hEl (.inl rfl) (fun h' => by omega) (fun j hj => by rw [hMn, if_neg (by rintro ⟨h, _⟩; cases h)]))
            (.inr ⟨w.heap.size, 0, G, z, _, _, upd_same _ _ _, by omega, rfl, fun _ => by rw [Nat.zero_mul]⟩)
          · have hbl := hw.mem_lt hM
            have hM0 := hext.cell (hw.mem _ _ _ hM)
            simp only [World.cell?] at hM0 ⊢
            rw [setCells_other _ _ _ _ b' (by omega)]
            have e3 : ((w.alloc (.cells ROW (ρ.t 9))).drew.setCells w.heap.size (i * z) us).drew.heap[b']? = ((w.alloc (.cells ROW (ρ.t 9))).drew.setCells w.heap.size (i * z) us).heap[b']? := rfl
            rw [e3, setCells_other _ _ _ _ b' (by omega)]
            exact hM0
          · rw [s3.2]
            exact Nat.le_trans hext.drawn (Nat.le_trans (Nat.le_of_eq r3.2.symm) hext2.drawn)
          · rw [s4]
            exact Nat.le_trans hext.size (Nat.le_trans (Nat.le_of_eq r4.symm) hext2.size)
          · rw [setCells_other _ _ _ _ k' (by omega)]
            have e3 : ((w.alloc (.cells ROW (ρ.t 9))).drew.setCells w.heap.size (i * z) us).drew.heap[k']? = ((w.alloc (.cells ROW (ρ.t 9))).drew.setCells w.heap.size (i * z) us).heap[k']? := rfl
            rw [e3, setCells_other _ _ _ _ k' (by omega)]
            exact hext.old k' hk'
          · simp [Pl.block] at hk'; exact .inr (by omega)
    · cases h
  · cases h
/-- An Insert beside others. -/
def insPr (G k bytes : Nat) (p : CallT) : CallT := fun f vs bs => bif Nat.beq f G then insV k bytes vs bs else p f vs bs
theorem insPr_ok {ρ : Go.Shelf.Ren} {G k bytes : Nat} {z0 : Value} {p : CallT} (L : Go.Proofs.InsLay P ρ k bytes z0) (hf : ρ.f 22 = G) (hzc : z0.cells.size = k) (hk0 : 0 < k) (hk1 : k ≠ 1) (hb0 : 0 < bytes) (hb1 : bytes ≤ 4294967296)
    (hG : HasFn P G) (hp : PrOK P (fun _ => p)) : PrOK P (fun _ => insPr G k bytes p) := by
  intro call h1 h2
  obtain ⟨c1, c2⟩ := hp call h1 h2
  refine ⟨fun f vs bs v outs h M pl w args ha hw => ?_, fun f vs bs q h => ?_⟩
  · simp only [insPr, cond_eq_ite] at h
    split at h
    · rename_i he
      have := Nat.eq_of_beq_eq_true he; subst this
      exact ins_ok L hf hzc hk0 hk1 hb0 hb1 h ha hw
    · exact c1 f vs bs v outs h M pl w args ha hw
  · simp only [insPr, cond_eq_ite] at h
    split at h
    · rename_i he
      have := Nat.eq_of_beq_eq_true he; subst this
      exact hG
    · exact c2 f vs bs q h
end GoV
