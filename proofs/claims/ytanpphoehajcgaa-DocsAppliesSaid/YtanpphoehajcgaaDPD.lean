/- slices.Insert laid at this program; a state behind an event, by the program: gone through. -/
import Derived.Test.YtanpphoehajcgaaDPE
import Derived.Test.YtanpphoehajcgaaVBK
set_option linter.unusedSimpArgs false
set_option linter.unusedVariables false
set_option maxRecDepth 100000
set_option maxHeartbeats 4000000
set_option cbv.maxSteps 10000000
namespace Go.Proofs.Ytanpphoehajcgaa
open Go GoV

def insW_ren : Go.Shelf.Ren := ⟨fun | 22 => 55 | 29 => 92 | 30 => 93 | n => n, fun | 24 => 37 | 9 => 74 | 3 => 3 | 4 => 4 | 0 => 0 | n => n, fun | n => n⟩
theorem insW : Go.Proofs.InsLay Try.prog insW_ren 6 64 (((Try.prog.info? 74).getD default).zero.getD default) := {
  mixed := by kernel_rfl
  f22 := ⟨Try.f55.name, by decide, Try.func55.trans (congrArg some (by kernel_rfl))⟩
  ov := fun x y w b h => by
    show (callFunc 92 #[x, y]).run Try.prog w = _
    rw [run_callFunc_extern Try.func92 (by kernel_rfl) (by kernel_rfl) (by kernel_rfl) (e := Extern.SlicesOverlaps.overlaps #[(insW_ren.t 24), (insW_ren.t 24)] #[(insW_ren.t 4)]) (by kernel_rfl), h]
    rfl
  t0 := Try.underlying0
  a0 := Try.isAgg0
  z0 := Try.sizeOf0
  v0 := Try.zeroValue0
  t3 := Try.underlying3
  a3 := Try.isAgg3
  z3 := Try.sizeOf3
  v3 := Try.zeroValue3
  t4 := Try.underlying4
  a4 := Try.isAgg4
  z4 := Try.sizeOf4
  v4 := Try.zeroValue4
  t24 := Try.underlying37
  a24 := Try.isAgg37
  z24 := Try.sizeOf37
  v24 := Try.zeroValue37
  z9 := Try.sizeOf74
  i9 := by kernel_rfl }
abbrev prI : CallT := insPr 55 6 64 (clonePr clones)
abbrev prJ : CallT → CallT := fun _ => prI
theorem prJ_ok : PrOK Try.prog prJ := insPr_ok insW rfl (by kernel_rfl) (by decide) (by decide) (by decide) (by decide) ⟨Try.f55, _, Try.func55, rfl, by kernel_rfl⟩ pr_ok
theorem prJ_mono : PrMono prJ := const_mono
abbrev Qn (n f : Nat) (vs : List FV) (bs : List Blk) (v : FV) (os : List Blk) : Prop := ∀ m, n ≤ m → play real (lookT tab) prJ m f vs bs = some (v, os)
theorem playQ {f : Nat} {vf : VFn} {vs : List FV} {bs : List Blk} {v : FV} {os : List Blk} (n : Nat) (hT : lookT tab f = some vf) (hlen : Nat.beq (lenF vs) vf.np = true)
    (h : ∀ A call, A = real → call = play real (lookT tab) prJ n → wpV A call (iterN n) vf.body ⟨lenH bs, padE vf.nt vs, bs⟩ (finQ A vf (v, os))) : Qn (n + 1) f vs bs v os := by
  obtain ⟨ex, s, h1, h2⟩ := h real _ rfl rfl
  have h0 : play real (lookT tab) prJ (n + 1) f vs bs = some (v, os) := by
    simp only [play, hT, bodyV, hlen, cond_true, h1, Option.bind_some]; exact h2
  exact fun m hm => play_mono prJ_mono hm _ _ _ _ h0
theorem play_le {pr pr' : CallT} (hp : Le pr pr') : ∀ n, Le (play real (lookT tab) (fun _ => pr) n) (play real (lookT tab) (fun _ => pr') n)
  | 0 => fun f vs bs r h => by simp [play] at h
  | n + 1 => fun f vs bs r h => by
    have ih := play_le hp n
    simp only [play] at h ⊢
    split at h
    · exact bodyV_mono ih (iterN_mono (Nat.le_refl _)) h
    · exact hp _ _ _ _ h
theorem cl_le : Le (clonePr clones) prI := fun f vs bs r h => by
  show insPr 55 6 64 (clonePr clones) f vs bs = some r
  unfold insPr
  cases hf : Nat.beq f 55 with
  | false => exact h
  | true =>
    have := Nat.eq_of_beq_eq_true hf
    subst this
    have h0 : clonePr clones 55 vs bs = none := rfl
    rw [h0] at h; cases h
theorem lift {n f : Nat} {vs : List FV} {bs : List Blk} {v : FV} {os : List Blk} (h : Pn n f vs bs v os) : Qn n f vs bs v os := fun m hm => play_le cl_le m _ _ _ _ (h m hm)
theorem insF_e (a zs : List Wr) (i : Nat) (w : Wr) (hi : i ≤ a.length) : insF (eWs (a ++ zs)) a.length i (wI w) = eWs ((a.take i ++ w :: a.drop i) ++ zs.drop 1) := by
  unfold insF rSeg eWs
  rw [List.map_append, List.map_append, List.map_append, List.map_cons, List.map_take, List.map_drop, List.map_drop, List.drop_zero]
  have hl : (a.map wI).length = a.length := by simp
  have t1 : List.take (a.length - i) (List.drop i (List.map wI a)) = List.drop i (List.map wI a) := List.take_of_length_le (by simp)
  have t2 : List.drop (a.length + 1) (List.map wI a) = [] := List.drop_of_length_le (by simp)
  rw [List.take_append_of_le_length (by omega), List.drop_append_of_le_length (by omega), List.take_append_of_le_length (by rw [List.length_drop]; omega), t1, List.drop_append, t2, hl]
  simp
theorem q55 (a zs : List Wr) (i : Nat) (w : Wr) (t g : Bool) (hi : i ≤ a.length) (ha : a.length ≤ 1000000) : Qn 1 55 [.one (.slo 0 0 a.length), .one (.iv (.int .i64 (i : Nat))), .one (.iv (.sl t 6 [wI w]))] [.arr false g 6 (eWs (a ++ zs))] (.one (.slo 0 0 (a.length + 1))) [.arr false true 6 (eWs ((a.take i ++ w :: a.drop i) ++ zs.drop 1))] := by
  intro m hm
  obtain ⟨m, rfl⟩ : ∃ k, m = k + 1 := ⟨m - 1, by omega⟩
  have hT : lookT tab 55 = none := rfl
  simp only [play, hT]
  rw [← insF_e a zs i w hi]
  show insPr 55 6 64 (clonePr clones) 55 _ _ = _
  unfold insPr
  rw [show Nat.beq 55 55 = true from rfl, cond_true]
  show (if okE 6 6 = true ∧ okE 6 6 = true ∧ 0 ≤ ((i : Nat) : Int) ∧ ((i : Nat) : Int) ≤ (a.length : Int) ∧ a.length ≤ (eWs (a ++ zs)).length ∧ (a.length + 1) * 64 ≤ 140737488355328 then some (FV.one (.slo 0 0 (a.length + 1)), [Blk.arr false true 6 (insF (eWs (a ++ zs)) a.length ((i : Nat) : Int).toNat (wI w))]) else none) = _
  rw [if_pos ⟨rfl, rfl, by omega, by omega, by simp [eWs], by omega⟩, Int.toNat_natCast]
theorem q46 (l : List Wr) (b : Bool) (hl : l.length ≤ 1000000) : Qn 1 46 [.one (.iv (.sl b 6 (eWs l)))] [] (.one (.slo 0 0 l.length)) [.arr false false 6 (eWs l)] := by
  intro m hm
  obtain ⟨m, rfl⟩ : ∃ k, m = k + 1 := ⟨m - 1, by omega⟩
  have hT : lookT tab 46 = none := rfl
  simp only [play, hT]
  show insPr 55 6 64 (clonePr clones) 46 _ _ = _
  unfold insPr
  rw [show Nat.beq 46 55 = false from rfl, cond_false]
  unfold clones clonePr
  rw [show Nat.beq 46 46 = true from rfl, cond_true]
  have h1 : real .app 64 [] (eWs l) = some (false, eWs l) := by
    rw [real_app]; unfold rApp room
    rw [if_neg (by simp), if_pos (by simp [eWs]; omega)]; rfl
  have hl2 : real .ln (eWs l) = l.length := by rw [real_ln]; simp [eWs]
  unfold cloneV
  dsimp only
  rw [h1]
  simp [okE, hl2]
/-- What lies behind the writes in their row. -/
def apZ (l : List Wr) (e : Ev) : List Wr := if e.k = 1 then (List.replicate (l.length - (keptW e.gone l).length) zeroWr).drop 1 else List.replicate (l.length - (keptW e.gone l).length) zeroWr
theorem segWr {A : Ar} (hA : A = real) (p q : List Wr) {n : Nat} (h : n = p.length) : A .seg (eWs (p ++ q)) 0 n = eWs p := by
  rw [hA, real_seg]; unfold rSeg; rw [eWs_app, List.drop_zero, List.take_left' (by simp [eWs, h])]
theorem h19a {v : List Int} (hv : v.length = 64) (l : List Wr) (e : Ev) (b : Bool) (hd : e.doc.size ≤ 1000000000000000) (hg : e.gone.length ≤ 1000) (hl : l.length ≤ 900) (h0 : chk e ≠ 0 ∨ chk e = 0 ∧ hasB v e.d = true) :
    ∃ k, ∀ b2, Qn k 19 [stF b 6 v l, evF b2 2 e] [] (.tup [(true, [.iv (.arr 64 (vec v)), .slo 0 0 l.length]), (false, [.iv (.int .i64 (chk e))])]) [.arr false false 6 (eWs l)] := by
  obtain ⟨k1, h1⟩ := n15 e hd hg
  refine ⟨k1 + 100 + 1, fun b2 => playQ (k1 + 100) rfl rfl fun A call hA hcall => ?_⟩
  obtain ⟨pl, mi, ml, nt, tn, ad, sb, K⟩ := kit hA
  obtain ⟨E, ix, sn, ll, cc, sg, D⟩ := lkit hA K zeroWr (fun w => [.int .i64 w.d.1, .int .i64 w.d.2, .int .i64 w.t, .str w.doc, .int .i64 w.f, .str w.txt]) 64
  obtain ⟨W, gx, st', V⟩ := rkit hA
  have k15 := lift (h1 b2 2 (.inl rfl)) (k1 + 100) (by omega)
  have k47 := lift (n47 hv e.d.1 e.d.2) (k1 + 100) (by omega)
  have k46 := q46 l b (by omega) (k1 + 100) (by omega)
  rw [← hcall] at k15 k47 k46
  obtain ⟨⟨er, en⟩, et, ek, edoc, efi, etxt, GG⟩ := e
  dsimp only [stF, evF, dotF, vecF] at *
  generalize chk _ = C at *
  generalize eDs GG = gs at *
  generalize eWs l = es at *
  generalize l.length = ln at *
  generalize vec v = vs at *
  rcases h0 with h0 | ⟨h0, h2⟩
  · refine wpV_ofH (by ((try (conv => lhs; cbv)); (repeat ((first | (rewrite [k46]) | (rewrite [k15]) | (rewrite [K.neT]; rotate_left; focus ((try simp only [K.df, D.df, V.df, true_and, and_true]) <;> omega))); (try (conv => lhs; cbv)))); (exact rfl))) ?_
    (show finV _ _ _ = some _; ((try (conv => lhs; cbv)); (try (with_reducible rfl))); (try rfl))
  · rw [h2] at k47
    obtain rfl := h0
    refine wpV_ofH (by ((try (conv => lhs; cbv)); (repeat ((first | (rewrite [k46]) | (rewrite [k15]) | (rewrite [k47]) | (rewrite [K.neF]; rotate_left; focus ((try simp only [K.df, D.df, V.df, true_and, and_true]) <;> omega))); (try (conv => lhs; cbv)))); (exact rfl))) ?_
    (show finV _ _ _ = some _; ((try (conv => lhs; cbv)); (try (with_reducible rfl))); (try rfl))
theorem h19 {v : List Int} (hv : v.length = 64) (l : List Wr) (hp : l.Pairwise LW) (e : Ev) (b : Bool) (hd : e.doc.size ≤ 1000000000000000) (hg : e.gone.length ≤ 1000) (hl : l.length ≤ 900) (h0 : chk e = 0) (h2 : hasB v e.d = false) :
    ∃ k, ∀ b2, Qn k 19 [stF b 6 v l, evF b2 2 e] [] (.tup [(true, [.iv (.arr 64 (vec (apV v e))), .slo 0 0 (apL l e).length]), (false, [.iv (.int .i64 0)])]) [.arr false false 6 (eWs (apL l e ++ apZ l e))] := by
  obtain ⟨k1, h1⟩ := n15 e hd hg
  refine ⟨k1 + 5000 + 1, fun b2 => playQ (k1 + 5000) rfl rfl fun A call hA hcall => ?_⟩
  obtain ⟨pl, mi, ml, nt, tn, ad, sb, K⟩ := kit hA
  obtain ⟨E, ix, sn, ll, cc, sg, D⟩ := lkit hA K zeroWr (fun w => [.int .i64 w.d.1, .int .i64 w.d.2, .int .i64 w.t, .str w.doc, .int .i64 w.f, .str w.txt]) 64
  obtain ⟨W, gx, st', V⟩ := rkit hA
  have kl := keptW_len e.gone l
  obtain ⟨Z, hZ⟩ : ∃ Z, Z = List.replicate (l.length - (keptW e.gone l).length) zeroWr := ⟨_, rfl⟩
  have kp : (keptW e.gone l).Pairwise LW := hp.sublist List.filter_sublist
  obtain ⟨b1, b2'⟩ := bsW_put (w := wOf e) kp
  have k15 := lift (h1 b2 2 (.inl rfl)) (k1 + 5000) (by omega)
  have k47 := lift (n47 hv e.d.1 e.d.2) (k1 + 5000) (by omega)
  have k48 := lift (n48 hv e.d.1 e.d.2) (k1 + 5000) (by omega)
  have k46 := q46 l b (by omega) (k1 + 5000) (by omega)
  have k49 := lift (n49 e b2 2 (.inl rfl) hg l (by omega) false) (k1 + 5000) (by omega)
  have k53 := lift (n53 e b2 2) (k1 + 5000) (by omega)
  have k52 := lift (n52 (keptW e.gone l) (wOf e) false (by omega) (keptW e.gone l ++ Z) (fun i hi => by
    rw [List.getD_eq_getElem?_getD, List.getD_eq_getElem?_getD, List.getElem?_append_left hi]) (by simp) _ rfl) (k1 + 5000) (by omega)
  have k55 := fun t => q55 (keptW e.gone l) Z (bsW (keptW e.gone l) (wOf e)) (wOf e) t false b2' (by omega) (k1 + 5000) (by omega)
  rw [← b1] at k55
  have hpl : (putW (keptW e.gone l) (wOf e)).length = (keptW e.gone l).length + 1 := by rw [b1]; simp; omega
  rw [← hZ] at k49
  rw [h0] at k15
  rw [show (e.d.1, e.d.2) = e.d from rfl, h2] at k47
  rw [show withB v (e.d.1, e.d.2) = apV v e from rfl] at k48
  rw [← hcall] at k15 k47 k48 k46 k49 k53 k52
  simp only [← hcall] at k55
  have hkd := chk_kind h0
  unfold apZ apL
  rw [← hZ]
  generalize hAT : bsW (keptW e.gone l) (wOf e) = AT at *
  generalize (decide (AT < (keptW e.gone l).length) && decide (ordW ((keptW e.gone l).getD AT zeroWr) (wOf e) = 0)) = FB at *
  obtain ⟨ATi, hATi⟩ : ∃ x : Int, x = (AT : Nat) := ⟨_, rfl⟩
  rw [← hATi] at k52 k55
  generalize hP : putW (keptW e.gone l) (wOf e) = PW at *
  obtain ⟨⟨er, en⟩, et, ek, edoc, efi, etxt, GG⟩ := e
  dsimp only [stF, evF, evL, dotF, vecF, wOf, wF, wI] at *
  generalize eDs GG = gs at *
  generalize vec v = vs at *
  generalize vec (apV v _) = vs' at *
  rcases hkd with hkd | hkd
  · subst hkd
    rw [if_pos rfl, if_pos rfl, hpl]
    generalize eWs (PW ++ Z.drop 1) = e3 at *
    generalize eWs (keptW GG l ++ Z) = e2 at *
    generalize (keptW GG l).length = kn at *
    generalize hkn : kn + 1 = kn1 at *
    generalize eWs l = es at *
    generalize l.length = ln at *
    apply wpV_seq; refine wpV_ofH (by ((try (conv => lhs; cbv)); (exact rfl))) ?_
    apply wpV_seq; refine wpV_ofH (by ((try (conv => lhs; cbv)); (repeat ((first | (rewrite [k46])); (try (conv => lhs; cbv)))); (exact rfl))) ?_
    apply wpV_seq; refine wpV_ofH (by ((try (conv => lhs; cbv)); (repeat ((first | (rewrite [k15]) | (rewrite [K.neF]; rotate_left; focus ((try simp only [K.df, D.df, V.df, true_and, and_true]) <;> omega))); (try (conv => lhs; cbv)))); (exact rfl))) ?_
    apply wpV_seq; refine wpV_ofH (by ((try (conv => lhs; cbv)); (repeat ((first | (rewrite [k47])); (try (conv => lhs; cbv)))); (exact rfl))) ?_
    apply wpV_seq; refine wpV_ofH (by ((try (conv => lhs; cbv)); (repeat ((first | (rewrite [k48])); (try (conv => lhs; cbv)))); (exact rfl))) ?_
    apply wpV_seq; refine wpV_ofH (by ((try (conv => lhs; cbv)); (repeat ((first | (rewrite [k49])); (try (conv => lhs; cbv)))); (exact rfl))) ?_
    apply wpV_seq; refine wpV_ofH (by ((try (conv => lhs; cbv)); (repeat ((first | (rewrite [k53]) | (rewrite [k52]) | (rewrite [k55]) | (rewrite [K.eqT]; rotate_left; focus ((try simp only [K.df, D.df, V.df, true_and, and_true]) <;> omega))); (try (conv => lhs; cbv)))); (exact rfl))) ?_
    refine wpV_ofH (by ((try (conv => lhs; cbv)); (exact rfl))) ?_
    (show finV _ _ _ = some _; ((try (conv => lhs; cbv)); (try (with_reducible rfl))); (try rfl))
  · subst hkd
    rw [if_neg (by decide), if_neg (by decide)]
    generalize eWs (keptW GG l ++ Z) = e2 at *
    generalize (keptW GG l).length = kn at *
    generalize eWs l = es at *
    generalize l.length = ln at *
    apply wpV_seq; refine wpV_ofH (by ((try (conv => lhs; cbv)); (exact rfl))) ?_
    apply wpV_seq; refine wpV_ofH (by ((try (conv => lhs; cbv)); (repeat ((first | (rewrite [k46])); (try (conv => lhs; cbv)))); (exact rfl))) ?_
    apply wpV_seq; refine wpV_ofH (by ((try (conv => lhs; cbv)); (repeat ((first | (rewrite [k15]) | (rewrite [K.neF]; rotate_left; focus ((try simp only [K.df, D.df, V.df, true_and, and_true]) <;> omega))); (try (conv => lhs; cbv)))); (exact rfl))) ?_
    apply wpV_seq; refine wpV_ofH (by ((try (conv => lhs; cbv)); (repeat ((first | (rewrite [k47])); (try (conv => lhs; cbv)))); (exact rfl))) ?_
    apply wpV_seq; refine wpV_ofH (by ((try (conv => lhs; cbv)); (repeat ((first | (rewrite [k48])); (try (conv => lhs; cbv)))); (exact rfl))) ?_
    apply wpV_seq; refine wpV_ofH (by ((try (conv => lhs; cbv)); (repeat ((first | (rewrite [k49])); (try (conv => lhs; cbv)))); (exact rfl))) ?_
    refine wpV_ofH (by ((try (conv => lhs; cbv)); (repeat ((first | (rewrite [K.eqF]; rotate_left; focus ((try simp only [K.df, D.df, V.df, true_and, and_true]) <;> omega))); (try (conv => lhs; cbv)))); (exact rfl))) ?_
    (show finV _ _ _ = some _; ((try (conv => lhs; cbv)); (try (with_reducible rfl))); (try rfl))
end Go.Proofs.Ytanpphoehajcgaa
