/- slices.Grow of no slice, by the library's contract, as a primitive. -/
import Derived.Test.YtanpphoehajcgaaVBH
import Derived.Shelf.Spec.SlicesGrow
set_option linter.unusedSimpArgs false
set_option linter.unusedVariables false
namespace GoV
open Go
variable {P : Program} {M M' : Mem} {pl pl' : Pls} {w w' : World} {H : Hp}
def growV (s : List Bool) : List FV → List Blk → Option (FV × List Blk)
  | [.one (.iv (.sl true _ [])), .one (.iv (.int .i64 n))], [] => if 0 ≤ n ∧ n ≤ 1000000000000 then some (.one (.slo 0 0 0), [.arr false false s.length (List.replicate n.toNat (nrmC s []))]) else none
  | _, _ => none
theorem grow_ok {ρ : Go.Shelf.Ren} {f : Nat} {s : List Bool} {i0 : TypeInfo} {z : Value} (L : Go.Proofs.Lays8.n4 P ρ) (hf : ρ.f 4 = f) (hi0 : P.info? (ρ.t 25) = some i0) (hz0 : i0.zero = some z) (hzc : z.cells.toList = encC s []) (hs : i0.size = s.length) (hs0 : 0 < s.length) (hby : i0.bytes ≤ 128)
    {vs : List FV} {bs : List Blk} {v : FV} {outs : List Blk} (h : growV s vs bs = some (v, outs)) {args : Array Value} (ha : FsR M pl vs args.toList) (hw : WR M pl (lkH bs) w) :
    Calls P f args w fun e w' => ∃ r M' pl', e = .returned r ∧ FR M' pl' v r ∧ WR M' pl' (lkH outs) w' ∧ Fr M pl w M' pl' w' ∧ bs.length ≤ outs.length ∧
        ∀ l p, pl l = some p → pl' l = some p ∨ ∃ f z es, lkH outs l = some (.arr f true z es) := by
  unfold growV at h
  split at h
  · rename_i z0 n
    split at h
    · rename_i hn
      simp only [Option.some.injEq, Prod.mk.injEq] at h
      obtain ⟨rfl, rfl⟩ := h
      obtain ⟨m, rfl⟩ : ∃ m : Nat, n = m := ⟨n.toNat, by omega⟩
      have hes : ∀ l p, pl l = some p → False := fun l p hp => by
        obtain ⟨b, hb⟩ := hw.dom l p hp
        simp [lkH] at hb
      obtain ⟨a, hargs⟩ : ∃ a, args.toList = [.slice a 0 0, .int .i64 (m : Int)] := by
        cases hl : args.toList with
        | nil => rw [hl] at ha; exact ha.elim
        | cons u us =>
          rw [hl] at ha
          obtain ⟨ha1, ha2⟩ := ha
          cases us with
          | nil => exact ha2.elim
          | cons u2 us =>
            obtain ⟨ha2, ha3⟩ := ha2
            cases us with
            | cons _ _ => exact ha3.elim
            | nil =>
              have ha2 : IR M (.int .i64 (m : Int)) u2 := ha2
              have ha1 : IR M (.sl true z0 []) u := ha1
              cases ha2
              cases ha1 with
              | sl _ _ _ a c b o f g hc hf =>
                have := hf rfl
                simp at this
                subst this
                exact ⟨a, rfl⟩
      have hargs' : args = #[.slice a 0 0, .int .i64 (m : Int)] := by
        apply Array.toList_inj.1; rw [hargs]
      subst hargs'
      have hup : ∀ (B : Blk), upd (lkH []) 0 B = lkH [B] := fun B => by
        funext l
        cases l with
        | zero => rfl
        | succ l => rfl
      have hn0 : lkH [] 0 = none := rfl
      by_cases hm0 : m = 0
      · subst hm0
        have := Go.Proofs.Any8.slices_Grow_room L a 0 0 0 w (by omega) (by omega) (by omega) (by omega)
        rw [hf] at this
        refine this.mono ?_
        rintro e w' ⟨rfl, rfl⟩
        obtain ⟨c1, c2, c3⟩ := hw.addNil hn0 s.length
        rw [hup] at c1
        refine ⟨_, M, upd pl 0 .nil, rfl, .inl ⟨upd_same _ _ _, rfl, rfl, a, rfl⟩, c1, c2, by simp, fun l p hp => (hes l p hp).elim⟩
      · have hg := Go.Proofs.Any8.slices_Grow_grow L i0 z hi0 hz0 (by omega) a 0 0 m [] w (by omega) (by omega) (by
          have := Nat.mul_le_mul_left (0 + m) hby
          have h2 : m ≤ 1000000000000 := by omega
          omega) (by omega) (by simp) (fun _ => rfl) (fun a _ j v h => by simp at h)
        rw [hf] at hg
        refine hg.mono ?_
        rintro e w' ⟨rfl, rfl⟩
        obtain ⟨cap, hcap⟩ : ∃ cap, cap = grownCap w (0 + m) 0 (ρ.t 25) := ⟨_, rfl⟩
        have hge : m ≤ cap := by rw [hcap]; have := grownCap_ge w (0 + m) 0 (ρ.t 25); omega
        rw [← hcap]
        obtain ⟨vs, hvs⟩ : ∃ vs, vs = ([] : List Value).toArray ++ Builtin.zeroCells z.cells (0 + m - 0) ++ Builtin.zeroCells z.cells (cap - (0 + m)) := ⟨_, rfl⟩
        rw [← hvs]
        have hzs : z.cells.size = s.length := by
          have := congrArg List.length hzc
          rw [encC_len] at this
          simpa using this
        have hsz : vs.size = m * s.length + (cap - m) * s.length := by
          rw [hvs]; simp [size_zeroCells, hzs]
        have he : Ext w (w.drew.alloc (.cells vs (ρ.t 25))) := (Ext.drew w).trans (Ext.alloc _ _)
        have hbk : (w.drew.alloc (.cells vs (ρ.t 25))).heap[w.heap.size]? = some (.cells vs (ρ.t 25)) := heap_new (w := w.drew)
        have hE : ElR M (fun k => vs[k]?) s.length (List.replicate m (nrmC s [])) := by
          refine ⟨fun _ => nrmC s [], fun i cs hc => ?_, fun i hi => nrmC_len s [], fun i j x hi hx => ?_⟩
          · have := List.mem_of_getElem? hc
            rw [(List.mem_replicate.1 this).2]
            exact flatI_cells (nrmC_cells s [])
          · rw [List.length_replicate] at hi
            have hj : j < s.length := by rw [← nrmC_len s []]; exact (List.getElem?_eq_some_iff.1 hx).1
            have hij : i * s.length + j < m * s.length := lt_mul hi hj
            refine ⟨vOf x, ?_, IR_vOf (nrmC_cells s [] x (List.mem_of_getElem? hx))⟩
            show vs[i * s.length + j]? = _
            rw [hvs]
            have e0 : ∀ X : Array Value, ([] : List Value).toArray ++ X = X := fun X => by simp
            rw [e0]
            simp only [Nat.zero_add, Nat.sub_zero]
            rw [Array.getElem?_append_left (by rw [size_zeroCells, hzs]; exact hij)]
            unfold Builtin.zeroCells
            rw [Array.getElem?_map, Array.getElem?_range]
            rw [if_pos (by rw [hzs]; exact hij)]
            have e2 : (i * s.length + j) % s.length = j := by rw [Nat.mul_comm, Nat.mul_add_mod, Nat.mod_eq_of_lt hj]
            simp only [Option.map_some, hzs, e2]
            rw [getElem!_pos z.cells j (by omega)]
            have e3 : z.cells[j]'(by omega) = z.cells.toList[j]'(by simpa using (by omega)) := by simp
            rw [e3]
            simp only [hzc, encC, List.getElem_map]
            rw [(List.getElem?_eq_some_iff.1 hx).2]
        obtain ⟨M', c1, c2, c3⟩ := hw.addArr hn0 he (Nat.le_refl _) hbk (fun j _ => frozen_of_heap hbk _) hs0 (es := List.replicate m (nrmC s [])) (cap := cap) (by rw [List.length_replicate]; exact hge) (by rw [hsz, ← Nat.add_mul, show m + (cap - m) = cap by omega]; exact Nat.le_refl _) hE (.inl rfl) (fun h => by rw [List.length_replicate] at h; omega) false
        rw [hup] at c1
        refine ⟨_, M', _, rfl, .inr ⟨_, _, _, _, _, _, upd_same _ _ _, by omega, rfl, fun _ => by simp⟩, ?_, c2, by simp, fun l p hp => (hes l p hp).elim⟩
        simpa using c1
    · cases h
  · cases h
/-- A Grow beside others. -/
def growPr (G : Nat) (s : List Bool) (p : CallT) : CallT := fun f vs bs => bif Nat.beq f G then growV s vs bs else p f vs bs
theorem growPr_ok {ρ : Go.Shelf.Ren} {G : Nat} {s : List Bool} {i0 : TypeInfo} {z : Value} {p : CallT} (L : Go.Proofs.Lays8.n4 P ρ) (hf : ρ.f 4 = G) (hi0 : P.info? (ρ.t 25) = some i0) (hz0 : i0.zero = some z) (hzc : z.cells.toList = encC s []) (hs : i0.size = s.length) (hs0 : 0 < s.length) (hby : i0.bytes ≤ 128)
    (hG : HasFn P G) (hp : PrOK P (fun _ => p)) : PrOK P (fun _ => growPr G s p) := by
  intro call h1 h2
  obtain ⟨c1, c2⟩ := hp call h1 h2
  refine ⟨fun f vs bs v outs h M pl w args ha hw => ?_, fun f vs bs q h => ?_⟩
  · simp only [growPr, cond_eq_ite] at h
    split at h
    · rename_i he
      have := Nat.eq_of_beq_eq_true he; subst this
      exact grow_ok L hf hi0 hz0 hzc hs hs0 hby h ha hw
    · exact c1 f vs bs v outs h M pl w args ha hw
  · simp only [growPr, cond_eq_ite] at h
    split at h
    · rename_i he
      have := Nat.eq_of_beq_eq_true he; subst this
      exact hG
    · exact c2 f vs bs q h
end GoV
