/- Lists of events held against each other; a past behind bytes, and read; a reader's end: gone through. -/
import Derived.Test.YtlljgefgbglmbaaWBB
import Derived.Test.YtlljgefgbglmbaaELF
import Derived.Test.YtlljgefgbglmbaaEVH
import Derived.Test.YtlljgefgbglmbaaDAE
set_option linter.unusedSimpArgs false
set_option linter.unusedVariables false
set_option maxRecDepth 100000
set_option maxHeartbeats 4000000
set_option cbv.maxSteps 10000000
namespace Go.Proofs.Ytlljgefgbglmbaa
open Go GoV

def zeroX : EvX := (zeroEv, true, 0)
def exs (lx : List EvX) : List (List IV) := lx.map exI
/-- Events that are held as one holds them: the same, each with its dots. -/
def SameX (lx ly : List EvX) : Prop := lx.length = ly.length ∧ lx.length ≤ 2000 ∧ ∀ i, i < lx.length → (lx.getD i zeroX).1 = (ly.getD i zeroX).1 ∧ (lx.getD i zeroX).2.2 = 2 ∧ (ly.getD i zeroX).2.2 = 2 ∧ (lx.getD i zeroX).1.gone.length ≤ 1000
theorem n84x (lx ly : List EvX) (h : SameX lx ly) (t t2 : Bool) (z z2 : Nat) (hz : z = 8 ∨ z = 0 ∧ lx = []) (hz2 : z2 = 8 ∨ z2 = 0 ∧ ly = []) :
    Pn 4002 84 [.one (.iv (.sl t z (exs lx))), .one (.iv (.sl t2 z2 (exs ly))), .one (.iv (.fn 85))] [] (bl true) [] := by
  refine playN 4001 rfl rfl fun A call hA hcall => ?_
  obtain ⟨pl, mi, ml, nt, tn, ad, sb, K⟩ := kit hA
  obtain ⟨EX, ix, sn, ll, cc, sg, X⟩ := lkit hA K zeroX exI 96
  obtain ⟨W, gx, st', V⟩ := rkit hA
  obtain ⟨h1, h2, h3⟩ := h
  have hEX : ∀ l, exs l = EX l := fun l => by rw [X.E_]; rfl
  have k85 : ∀ (e : Ev) (b b2 : Bool), e.gone.length ≤ 1000 → call 85 [evF b 2 e, evF b2 2 e] [] = some (bl true, []) := fun e b b2 h => by rw [hcall]; exact n85 e b b2 2 2 (.inl rfl) (.inl rfl) h 4001 (by omega)
  rw [hEX, hEX]
  obtain ⟨M, hM⟩ : ∃ M : Int, M = nt (ll lx) := ⟨_, rfl⟩
  have hMl : M = lx.length := by rw [hM, K.nt_, X.ll_]
  have ln : A .len (EX lx) = M := by rw [X.len, hM]
  have ln2 : A .len (EX ly) = M := by rw [X.len, hM, X.ll_, X.ll_, h1]
  apply wpV_seq; refine wpV_ofH (by ((try (conv => lhs; cbv)); (exact rfl))) ?_
  apply wpV_seq; refine wpV_ofH (by ((try (conv => lhs; cbv)); (repeat ((first | (rewrite [ln]) | (rewrite [ln2]) | (rewrite [K.neF]; rotate_left; focus ((try simp only [K.df, X.df, V.df, true_and, and_true]) <;> omega))); (try (conv => lhs; cbv)))); (exact rfl))) ?_
  apply wpV_seq; apply wpV_seq; refine wpV_ofH (by ((try (conv => lhs; cbv)); (repeat ((first | (rewrite [ln])); (try (conv => lhs; cbv)))); (exact rfl))) ?_
  apply wpV_block
  refine wpV_loop lx.length (fun i st => ∃ J : Int, st = ⟨0, [u, .one (.iv (.sl t2 z2 (EX ly))), .one (.iv (.fn 85)), u, u, u, u, u, u, u, u, u, u, u, u, .one (.iv (.sl t z (EX lx))), i64 M, i64 J, u, u, u, u, u, u, u, u, u, u, u, u, u, u], []⟩ ∧ J = i) (by omega) (by ((try (conv => lhs; cbv)); (try (with_reducible rfl)))) ⟨0, rfl, rfl⟩ ?_
  rintro i hi st ⟨J, rfl, hJ⟩
  by_cases him : i < lx.length
  · obtain rfl : z = 8 := by
      rcases hz with h | ⟨h, h2⟩
      · exact h
      · rw [h2] at him; simp at him
    obtain rfl : z2 = 8 := by
      rcases hz2 with h | ⟨h, h2⟩
      · exact h
      · rw [h1, h2] at him; simp at him
    have g1 := X.get (l := lx) (J := J) (by omega)
    have g2 := X.get (l := ly) (J := J) (by omega)
    have e1 : ix lx J = lx.getD i zeroX := by rw [X.ix_, hJ]; rfl
    have e2 : ix ly J = ly.getD i zeroX := by rw [X.ix_, hJ]; rfl
    obtain ⟨q1, q2, q3, q4⟩ := h3 i him
    rw [← e1] at q1 q2 q4
    rw [← e2] at q1 q3
    generalize ix lx J = x at *
    generalize ix ly J = y at *
    obtain ⟨e, b, zx⟩ := x
    obtain ⟨e', b', zy⟩ := y
    dsimp only at q1 q2 q3 q4
    subst q1 q2 q3
    have kk := k85 e b b' q4
    unfold exI at g1 g2
    dsimp only [evF] at kk g1 g2
    generalize eDs e.gone = gs at *
    obtain ⟨⟨r, n⟩, tt, kd, doc, f, txt, gone⟩ := e
    dsimp only at kk g1 g2
    clear k85 h3
    refine wpV_ofH (by ((try (conv => lhs; cbv)); (repeat ((first | (rewrite [g1]) | (rewrite [g2]) | (rewrite [kk]) | (rewrite [K.add]; rotate_left; focus ((try simp only [K.df, X.df, V.df, true_and, and_true]) <;> omega)) | (rewrite [K.ltT]; rotate_left; focus ((try simp only [K.df, X.df, V.df, true_and, and_true]) <;> omega))); (try (conv => lhs; cbv)))); (exact rfl))) ?_
    refine headQ_ofH (by ((try (conv => lhs; cbv)); (exact rfl))) ?_
    refine ⟨him, _, rfl, ?_⟩
    rw [K.pl_]; omega
  · obtain rfl : i = lx.length := by omega
    clear k85 h3
    refine wpV_ofH (by ((try (conv => lhs; cbv)); (repeat ((first | (rewrite [K.ltF]; rotate_left; focus ((try simp only [K.df, X.df, V.df, true_and, and_true]) <;> omega))); (try (conv => lhs; cbv)))); (exact rfl))) ?_
    show wpV _ _ _ _ _ _
    refine wpV_ofH (by ((try (conv => lhs; cbv)); (exact rfl))) ?_
    (show finV _ _ _ = some _; ((try (conv => lhs; cbv)); (try (with_reducible rfl))); (try rfl))
theorem n39x (lx ly : List EvX) (h : SameX lx ly) (t t2 : Bool) (z z2 : Nat) (hz : z = 8 ∨ z = 0 ∧ lx = []) (hz2 : z2 = 8 ∨ z2 = 0 ∧ ly = []) :
    Pn 4003 39 [.one (.iv (.sl t z (exs lx))), .one (.iv (.sl t2 z2 (exs ly)))] [] (bl true) [] := by
  refine playN 4002 rfl rfl fun A call hA hcall => ?_
  have k1 := n84x lx ly h t t2 z z2 hz hz2 4002 (by omega)
  rw [← hcall] at k1
  generalize exs lx = x at *
  generalize exs ly = y at *
  refine wpV_of (by ((conv => lhs; cbv); (repeat ((first | rewrite [k1]); (try (conv => lhs; cbv)))); (try (with_reducible rfl)))) ?_
  (show finV _ _ _ = some _; ((conv => lhs; cbv); (try (with_reducible rfl))); (try rfl))
/-! ### A past -/
theorem n24 (B : List Nat) (t : Bool) (t2 : Bool) (z : Nat) (hz : z = 0 ∨ z = 1) {v : List Int} (hv : v.length = 64) (hg : goodB v = true) (l : List Ev) (hl : l.length ≤ 1000) (hd : ∀ e, e ∈ l → e.doc.size ≤ 1000000000000000 ∧ e.gone.length ≤ 1000) (hB : B.length ≤ 199999950000000) :
    ∃ k, Pn k 24 [.one (.iv (.sl t z (by8 B))), .agg [.iv (.sl t2 8 (l.map evE)), .iv (.arr 64 (vec v))]] [] (.one (.slo 0 0 (B ++ (putB v ++ evsA l)).length)) [.arr false false 1 (by8 (B ++ (putB v ++ evsA l)))] := by
  have hp := putB_len v
  obtain ⟨k1, h1⟩ := n22 hv hg B t z hz (by omega)
  obtain ⟨k2, h2⟩ := n23 (B ++ putB v) true t2 1 (.inr rfl) l hl hd (by rw [List.length_append]; omega)
  obtain ⟨k3, h3⟩ := n23 (B ++ putB v) false t2 1 (.inr rfl) l hl hd (by rw [List.length_append]; omega)
  refine ⟨k1 + k2 + k3 + 1, playN (k1 + k2 + k3) rfl rfl fun A call hA hcall => ?_⟩
  have q1 := h1 (k1 + k2 + k3) (by omega)
  have q2 : ∀ t, call 23 [.one (.iv (.sl t 1 (by8 (B ++ putB v)))), .one (.iv (.sl t2 8 (l.map evE)))] [] = some (.one (.slo 0 0 (B ++ putB v ++ evsA l).length), [.arr false false 1 (by8 (B ++ putB v ++ evsA l))]) := fun t => by
    rw [hcall]; cases t
    · exact h3 _ (by omega)
    · exact h2 _ (by omega)
  rw [← hcall] at q1
  have s1 := seg8 hA (B ++ putB v)
  rw [← List.append_assoc]
  dsimp only [vecF] at *
  generalize by8 B = e0 at *
  generalize by8 (B ++ putB v) = e1 at *
  generalize by8 (B ++ putB v ++ evsA l) = e2 at *
  generalize (B ++ putB v).length = n1 at *
  generalize (B ++ putB v ++ evsA l).length = n2 at *
  generalize l.map evE = ls at *
  generalize vec v = vs at *
  refine wpV_of (by ((conv => lhs; cbv); (repeat ((first | rewrite [q1] | rewrite [s1] | rewrite [q2]); (try (conv => lhs; cbv)))); (try (with_reducible rfl)))) ?_
  (show finV _ _ _ = some _; ((conv => lhs; cbv); (try (with_reducible rfl))); (try rfl))
/-! ### Events, read as they were written -/
def evL (l : List Ev) : List Nat := l.flatMap evB
theorem evsB_evL {l : List Ev} (h : ∀ e, e ∈ l → chk e = 0) : ∀ i, i ≤ l.length → evsB l i = evL (l.take i)
  | 0, _ => by simp [evsB, evL]
  | i + 1, hi => by
    have hc := h (l.getD i zeroEv) (by rw [List.getD_eq_getElem?_getD, List.getElem?_eq_getElem (by omega)]; exact List.getElem_mem _)
    rw [evsB, evsB_evL h i (by omega), List.take_succ_eq_append_getElem (by omega)]
    unfold evL evB'
    rw [if_pos hc, List.flatMap_append, List.getD_eq_getElem?_getD, List.getElem?_eq_getElem (by omega)]
    simp
theorem evN_enc {bs W : List Nat} {l : List Ev} {o : Nat} (hc : ∀ e, e ∈ l → chk e = 0) (h : bs.drop o = evL l ++ W) : ∀ i, i ≤ l.length →
    evN bs (.ok true o (evL l ++ W).length) i = (l.take i, .ok true (o + (evL (l.take i)).length) (evL (l.drop i) ++ W).length) ∧ bs.drop (o + (evL (l.take i)).length) = evL (l.drop i) ++ W
  | 0, _ => by simp [evN, evL, h]
  | i + 1, hi => by
    obtain ⟨h1, h2⟩ := evN_enc hc h i (by omega)
    have hm : l[i] ∈ l := List.getElem_mem _
    have hd : l.drop i = l[i] :: l.drop (i + 1) := List.drop_eq_getElem_cons (by omega)
    have e1 : evL (l.drop i) ++ W = evB l[i] ++ (evL (l.drop (i + 1)) ++ W) := by rw [hd]; unfold evL; rw [List.flatMap_cons, List.append_assoc]
    have e2 : evL (l.take (i + 1)) = evL (l.take i) ++ evB l[i] := by
      unfold evL
      rw [List.take_succ_eq_append_getElem (by omega), List.flatMap_append, List.flatMap_cons, List.flatMap_nil, List.append_nil]
    have e3 : o + (evL (l.take (i + 1))).length = o + (evL (l.take i)).length + (evB l[i]).length := by rw [e2, List.length_append]; omega
    rw [e1] at h1 h2
    obtain ⟨q1, q2⟩ := evS_enc (f := true) (hc _ hm) h2
    rw [evN, h1]
    dsimp only
    rw [q1, e3]
    exact ⟨by rw [List.take_succ_eq_append_getElem (by omega)], q2⟩
theorem evB_len (e : Ev) (hc : chk e = 0) : 1 ≤ (evB e).length ∧ (evB e).length ≤ 3000 := by
  obtain ⟨c1, c2, c3, c4, c5, c6, c7, c8, c9, c10⟩ := chk_0 hc
  have nm := name_size c4
  obtain ⟨g1, g2⟩ := gone_valid c5
  have len : ∀ x, (enc x).length ≤ 9 := fun x => by rw [enc_len]; have := nd_le x; omega
  have t1 := textB_len e.doc
  have t2 := textB_len e.txt
  have d := dsB_len e.gone e.gone.length
  have a1 := len e.d.1.toNat
  have a2 := len e.d.2.toNat
  have a3 := len e.t.toNat
  have a4 := len e.k.toNat
  have a5 := len e.f.toNat
  have a6 := len e.gone.length
  have b1 := enc_len e.d.1.toNat
  unfold evB hdB
  simp only [List.length_append]
  omega
theorem evB_b (e : Ev) (hc : chk e = 0) : ∀ b, b ∈ evB e → b < 256 := by
  obtain ⟨c1, c2, c3, c4, c5, c6, c7, c8, c9, c10⟩ := chk_0 hc
  have nm := name_size c4
  have v0 := valid_0 c1
  obtain ⟨g1, g2⟩ := gone_valid c5
  have hds : ∀ i, i ≤ e.gone.length → ∀ b, b ∈ dsB e.gone i → b < 256 := by
    intro i
    induction i with
    | zero => intro _ b hb; simp [dsB] at hb
    | succ i ih =>
      intro hi b hb
      have v := valid_0 (g2 i (by omega))
      simp only [dsB, List.mem_append] at hb
      rcases hb with h | h | h
      · exact ih (by omega) b h
      · exact enc_b _ (by omega) b h
      · exact enc_b _ (by omega) b h
  intro b hb
  unfold evB hdB at hb
  simp only [List.mem_append] at hb
  rcases hb with ((h | h) | h | h | h | h | h | h) | h
  · exact enc_b _ (by omega) b h
  · exact enc_b _ (by omega) b h
  · exact enc_b _ (by omega) b h
  · exact enc_b _ (by omega) b h
  · exact textB_b _ (by omega) b h
  · exact enc_b _ (by omega) b h
  · exact textB_b _ (by omega) b h
  · exact enc_b _ (by omega) b h
  · exact hds _ (Nat.le_refl _) b h
/-- Events that were written are read. -/
theorem n46ok (bs W : List Nat) (hb : ∀ b, b ∈ bs → b < 256) (hbl : bs.length ≤ 1000000000000) (most : Int) (f : Bool) (o : Nat) (l : List Ev) (hl : l.length ≤ 1024) (hm : (l.length : Int) ≤ most) (hc : ∀ e, e ∈ l → chk e = 0) (h : bs.drop o = evsA l ++ W) (ho : o + (evsA l ++ W).length = bs.length) :
    ∃ k, Pn k 46 [rp, i64 most] (rdS true (by8 bs) (.ok f o (evsA l ++ W).length)) (.one (.slo 2 0 l.length)) (rdS true (by8 bs) (.ok true (o + (evsA l).length) W.length) ++ [.arr false false 8 (exs (okL l))]) := by
  have ea : evsA l = enc l.length ++ evL l := by unfold evsA; rw [evsB_evL hc _ (Nat.le_refl _), List.take_length]
  have e2 : evsA l ++ W = enc l.length ++ (evL l ++ W) := by rw [ea, List.append_assoc]
  have h' := h
  rw [e2] at h'
  have q := numS_enc (most := most) (f := f) h' (by omega) hm
  have d := drop_enc h'
  have hN := evN_enc hc d
  rw [← e2] at q
  have hlen : l.length ≤ bs.length + 1 := by
    have : l.length ≤ (evL l).length := by
      clear hN d q h' h ho e2 ea hm hl
      induction l with
      | nil => simp
      | cons e r ih =>
        have := ih fun x hx => hc x (by simp [hx])
        have := (evB_len e (hc e (by simp))).1
        simp only [evL, List.flatMap_cons, List.length_append, List.length_cons] at *
        omega
    rw [e2] at ho
    simp only [List.length_append] at ho
    omega
  obtain ⟨k, hk⟩ := n46 bs hb hbl most f o _ ho l.length _ q l.length hlen (.inl rfl) (fun j hj => ⟨hj, by rw [(hN j (by omega)).1]; rfl⟩)
  rw [(hN l.length (Nat.le_refl _)).1, List.take_length, List.drop_length] at hk
  refine ⟨k, ?_⟩
  have e3 : o + (enc l.length).length + (evL l).length = o + (evsA l).length := by rw [ea, List.length_append]; omega
  rw [e3] at hk
  exact hk
/-- A past that was written is read. -/
theorem n48ok (bs W : List Nat) (hb : ∀ b, b ∈ bs → b < 256) (hbl : bs.length ≤ 1000000000000) (f : Bool) (o : Nat) {v : List Int} (hv : v.length = 64) (hg : goodB v = true) (l : List Ev) (hl : l.length ≤ 1024) (hc : ∀ e, e ∈ l → chk e = 0) (h : bs.drop o = putB v ++ (evsA l ++ W)) (ho : o + (putB v ++ (evsA l ++ W)).length = bs.length) :
    ∃ k, Pn k 48 [rp] (rdS true (by8 bs) (.ok f o (putB v ++ (evsA l ++ W)).length)) (.agg [.slo 2 0 l.length, .iv (.arr 64 (vec v))]) (rdS true (by8 bs) (.ok true (o + (putB v ++ evsA l).length) W.length) ++ [.arr false false 8 (exs (okL l))]) := by
  obtain ⟨q1, d1⟩ := vecS_enc (f := f) hv hg h
  obtain ⟨k, hk⟩ := n46ok bs W hb hbl 4096 true (o + (putB v).length) l hl (by omega) hc d1 (by rw [List.length_append] at ho; omega)
  refine ⟨k + 1201, playN (k + 1200) rfl rfl fun A call hA hcall => ?_⟩
  have k1 := n45 bs hb f o _ ho (k + 1200) (by omega)
  rw [q1] at k1
  have k2 := hk (k + 1200) (by omega)
  have k3 := n89 (by8 bs) (.ok true (o + (putB v).length + (evsA l).length) W.length) (k + 1200) (by omega)
  obtain ⟨pl, mi, ml, nt, tn, ad, sb, K⟩ := kit hA
  obtain ⟨EX, ix, sn, ll, cc, sg, X⟩ := lkit hA K zeroX exI 96
  obtain ⟨Wv, gx, st', V⟩ := rkit hA
  rw [← hcall] at k1 k2 k3
  rw [show o + (putB v ++ evsA l).length = o + (putB v).length + (evsA l).length by rw [List.length_append]; omega]
  dsimp only [rdS, cond_true, vecF, RS.isOk, RS.err, List.cons_append, List.nil_append] at *
  generalize by8 bs = es at *
  generalize exs (okL l) = ls at *
  generalize vec v = vs at *
  generalize (putB v ++ (evsA l ++ W)).length = m1 at *
  generalize (evsA l ++ W).length = m2 at *
  generalize o + (putB v).length + (evsA l).length = o3 at *
  generalize o + (putB v).length = o2 at *
  generalize W.length = m3 at *
  generalize l.length = n at *
  refine wpV_ofH (by ((try (conv => lhs; cbv)); (repeat ((first | (rewrite [k1]) | (rewrite [k2]) | (rewrite [k3]) | (rewrite [K.neF]; rotate_left; focus ((try simp only [K.df, X.df, V.df, true_and, and_true]) <;> omega))); (try (conv => lhs; cbv)))); (exact rfl))) ?_
  (show finV _ _ _ = some _; ((try (conv => lhs; cbv)); (try (with_reducible rfl))); (try rfl))
theorem n49 (es : List (List IV)) (f : Bool) (o n : Nat) : Pn 3 49 [rp] (rdS true es (.ok f o n)) (i64 (if 0 < n then 3 else 0)) (rdS true es (.ok f o n)) := by
  refine playN 2 rfl rfl fun A call hA hcall => ?_
  obtain ⟨pl, mi, ml, nt, tn, ad, sb, K⟩ := kit hA
  obtain ⟨EX, ix, sn, ll, cc, sg, X⟩ := lkit hA K zeroX exI 96
  obtain ⟨W, gx, st', V⟩ := rkit hA
  have k1 := n93 es (.ok f o n) 2 (by omega)
  have k2 := n89 es (.ok f o n) 2 (by omega)
  rw [← hcall] at k1 k2
  dsimp only [rdS, cond_true, RS.isOk, RS.err, RS.left] at *
  obtain ⟨N, hN⟩ : ∃ N : Int, N = n := ⟨_, rfl⟩
  rw [← hN] at k1
  by_cases h : 0 < n
  · rw [if_pos h]
    refine wpV_ofH (by ((try (conv => lhs; cbv)); (repeat ((first | (rewrite [k1]) | (rewrite [k2]) | (rewrite [K.gtT]; rotate_left; focus ((try simp only [K.df, X.df, V.df, true_and, and_true]) <;> omega)) | (rewrite [K.eqT]; rotate_left; focus ((try simp only [K.df, X.df, V.df, true_and, and_true]) <;> omega))); (try (conv => lhs; cbv)))); (exact rfl))) ?_
    (show finV _ _ _ = some _; ((try (conv => lhs; cbv)); (try (with_reducible rfl))); (try rfl))
  · rw [if_neg h]
    refine wpV_ofH (by ((try (conv => lhs; cbv)); (repeat ((first | (rewrite [k1]) | (rewrite [k2]) | (rewrite [K.gtF]; rotate_left; focus ((try simp only [K.df, X.df, V.df, true_and, and_true]) <;> omega))); (try (conv => lhs; cbv)))); (exact rfl))) ?_
    (show finV _ _ _ = some _; ((try (conv => lhs; cbv)); (try (with_reducible rfl))); (try rfl))
end Go.Proofs.Ytlljgefgbglmbaa
