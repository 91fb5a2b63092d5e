/- Numbers taken out of a list, in order or not: gone through; slices.Sort laid at this program. -/
import Derived.Test.YtlbmknejhmmjnaaSHN
import Derived.Test.YtlbmknejhmmjnaaVBL
import Derived.Shelf.SlGeneric
import Derived.Shelf.Lays
import Derived.Shelf.Sort.Plain
import Derived.Shelf.Slices.In.SortNone
set_option linter.unusedSimpArgs false
set_option linter.unusedVariables false
set_option maxRecDepth 100000
set_option maxHeartbeats 1000000
set_option cbv.maxSteps 10000000
namespace Go.Proofs.Ytlbmknejhmmjnaa
open Go GoV
def sortInt_ren : Go.Shelf.Ren := ⟨fun | 189 => 43 | 125 => 66 | 257 => 65 | 128 => 85 | 129 => 86 | 294 => 77 | 295 => 78 | 296 => 79 | 297 => 80 | 298 => 81 | 299 => 82 | 216 => 52 | 300 => 83 | 301 => 84 | 328 => 89 | 329 => 90 | 330 => 91 | 331 => 92 | 332 => 93 | 215 => 73 | 343 => 96 | n => n, fun | 28 => 23 | 3 => 3 | 46 => 53 | 0 => 0 | 51 => 122 | 53 => 124 | 4 => 4 | 183 => 116 | 182 => 115 | 131 => 42 | 5 => 5 | 9 => 9 | 218 => 125 | 222 => 129 | 228 => 133 | 229 => 134 | n => n, fun | n => n⟩
theorem sortInt : Go.Proofs.Lays.n189 Try.prog sortInt_ren := {
  mixed := by kernel_rfl
  f125 := Try.func66.trans (congrArg some (by kernel_rfl))
  f128 := Try.func85.trans (congrArg some (by kernel_rfl))
  f129 := Try.func86.trans (congrArg some (by kernel_rfl))
  f189 := Try.func43.trans (congrArg some (by kernel_rfl))
  f215 := Try.func73.trans (congrArg some (by kernel_rfl))
  f216 := Try.func52.trans (congrArg some (by kernel_rfl))
  f257 := Try.func65.trans (congrArg some (by kernel_rfl))
  f294 := Try.func77.trans (congrArg some (by kernel_rfl))
  f295 := Try.func78.trans (congrArg some (by kernel_rfl))
  f296 := Try.func79.trans (congrArg some (by kernel_rfl))
  f297 := Try.func80.trans (congrArg some (by kernel_rfl))
  f298 := Try.func81.trans (congrArg some (by kernel_rfl))
  f299 := Try.func82.trans (congrArg some (by kernel_rfl))
  f300 := Try.func83.trans (congrArg some (by kernel_rfl))
  f301 := Try.func84.trans (congrArg some (by kernel_rfl))
  f328 := Try.func89.trans (congrArg some (by kernel_rfl))
  f329 := Try.func90.trans (congrArg some (by kernel_rfl))
  f330 := Try.func91.trans (congrArg some (by kernel_rfl))
  f331 := Try.func92.trans (congrArg some (by kernel_rfl))
  f332 := Try.func93.trans (congrArg some (by kernel_rfl))
  f343 := Try.func96.trans (congrArg some (by kernel_rfl))
  t0 := Try.underlying0
  a0 := Try.isAgg0
  z0 := Try.sizeOf0
  v0 := Try.zeroValue0
  t3 := Try.underlying3
  a3 := Try.isAgg3
  z3 := Try.sizeOf3
  v3 := Try.zeroValue3
  t4 := Try.underlying4
  a4 := Try.isAgg4
  z4 := Try.sizeOf4
  v4 := Try.zeroValue4
  t5 := Try.underlying5
  a5 := Try.isAgg5
  z5 := Try.sizeOf5
  v5 := Try.zeroValue5
  t9 := Try.underlying9
  a9 := Try.isAgg9
  z9 := Try.sizeOf9
  v9 := Try.zeroValue9
  t28 := Try.underlying23
  a28 := Try.isAgg23
  z28 := Try.sizeOf23
  v28 := Try.zeroValue23
  t46 := Try.underlying53
  a46 := Try.isAgg53
  z46 := Try.sizeOf53
  v46 := Try.zeroValue53
  t51 := Try.underlying122
  a51 := Try.isAgg122
  z51 := Try.sizeOf122
  v51 := Try.zeroValue122
  t53 := Try.underlying124
  a53 := Try.isAgg124
  z53 := Try.sizeOf124
  v53 := Try.zeroValue124
  t131 := Try.underlying42
  a131 := Try.isAgg42
  z131 := Try.sizeOf42
  v131 := Try.zeroValue42
  t182 := Try.underlying115
  a182 := Try.isAgg115
  z182 := Try.sizeOf115
  v182 := Try.zeroValue115
  t183 := Try.underlying116
  a183 := Try.isAgg116
  z183 := Try.sizeOf116
  v183 := Try.zeroValue116
  t218 := Try.underlying125
  a218 := Try.isAgg125
  z218 := Try.sizeOf125
  v218 := Try.zeroValue125
  t222 := Try.underlying129
  a222 := Try.isAgg129
  z222 := Try.sizeOf129
  v222 := Try.zeroValue129
  t228 := Try.underlying133
  a228 := Try.isAgg133
  z228 := Try.sizeOf133
  v228 := Try.zeroValue133
  t229 := Try.underlying134
  a229 := Try.isAgg134
  z229 := Try.sizeOf134
  v229 := Try.zeroValue134 }
abbrev srtN (l : List Int) : List Int := l.mergeSort fun x y => decide (x ≤ y)
abbrev prI : CallT := sort1Pr 43 true (fun z : Int => .int .i64 z) decI srtN (clonePr clones)
abbrev prJ : CallT → CallT := fun _ => prI
theorem prJ_ok : PrOK Try.prog prJ := sort1Pr_ok oneI (fun l => List.length_mergeSort l) (fun blk off cap zs w h1 h2 h3 => Any.slices_Sort_int sortInt blk off cap zs w h1 h2 h3) (fun p cap w => Any.slices_Sort_int_none sortInt p cap w) ⟨Try.f43, _, Try.func43, rfl, by kernel_rfl⟩ pr_ok
theorem prJ_mono : PrMono prJ := const_mono
abbrev Qn (n f : Nat) (vs : List FV) (bs : List Blk) (v : FV) (os : List Blk) : Prop := ∀ m, n ≤ m → play real (lookT tab) prJ m f vs bs = some (v, os)
theorem playQ {f : Nat} {vf : VFn} {vs : List FV} {bs : List Blk} {v : FV} {os : List Blk} (n : Nat) (hT : lookT tab f = some vf) (hlen : Nat.beq (lenF vs) vf.np = true)
    (h : ∀ A call, A = real → call = play real (lookT tab) prJ n → wpV A call (iterN n) vf.body ⟨lenH bs, padE vf.nt vs, bs⟩ (finQ A vf (v, os))) : Qn (n + 1) f vs bs v os := by
  obtain ⟨ex, s, h1, h2⟩ := h real _ rfl rfl
  have h0 : play real (lookT tab) prJ (n + 1) f vs bs = some (v, os) := by
    simp only [play, hT, bodyV, hlen, cond_true, h1, Option.bind_some]; exact h2
  exact fun m hm => play_mono prJ_mono hm _ _ _ _ h0
theorem play_le {pr pr' : CallT} (hp : Le pr pr') : ∀ n, Le (play real (lookT tab) (fun _ => pr) n) (play real (lookT tab) (fun _ => pr') n)
  | 0 => fun f vs bs r h => by simp [play] at h
  | n + 1 => fun f vs bs r h => by
    have ih := play_le hp n
    simp only [play] at h ⊢
    split at h
    · exact bodyV_mono ih (iterN_mono (Nat.le_refl _)) h
    · exact hp _ _ _ _ h
theorem cl_le : Le (clonePr clones) prI := fun f vs bs r h => by
  show sort1Pr 43 true (fun z : Int => .int .i64 z) decI srtN (clonePr clones) f vs bs = some r
  unfold sort1Pr
  cases hf : Nat.beq f 43 with
  | false => exact h
  | true =>
    have := Nat.eq_of_beq_eq_true hf
    subst this
    have h0 : clonePr clones 43 vs bs = none := rfl
    rw [h0] at h; cases h
theorem lift {m f : Nat} {vs : List FV} {bs : List Blk} {r : FV × List Blk} (h : play real (lookT tab) (fun _ => clonePr clones) m f vs bs = some r) : play real (lookT tab) prJ m f vs bs = some r := play_le cl_le m _ _ _ _ h
theorem q43 (l zi : List Int) (g : Bool) (hl : l.length ≤ 1000000) : Qn 1 43 [.one (.slo 0 0 l.length)] [.arr false g 1 ((l ++ zi).map e1)] (.tup []) [.arr false g 1 ((srtN l ++ zi).map e1)] := by
  intro m hm
  obtain ⟨m, rfl⟩ : ∃ k, m = k + 1 := ⟨m - 1, by omega⟩
  have hT : lookT tab 43 = none := rfl
  simp only [play, hT]
  show sort1Pr 43 true (fun z : Int => .int .i64 z) decI srtN (clonePr clones) 43 _ _ = _
  unfold sort1Pr
  rw [show Nat.beq 43 43 = true from rfl, cond_true]
  show (if l.length ≤ ((l ++ zi).map e1).length ∧ ((1 : Nat) = 1 ∨ (l ++ zi).map e1 = []) ∧ l.length ≤ 1000000000000 ∧ ((l ++ zi).map e1).all (fitsC [true]) = true then some (FV.tup [], [Blk.arr false g 1 ((srtN ((((l ++ zi).map e1).take l.length).map decI)).map (fun a => [IV.int .i64 a]) ++ ((l ++ zi).map e1).drop l.length)]) else none) = _
  have hf : ((l ++ zi).map e1).all (fitsC [true]) = true := by
    rw [List.all_eq_true]
    intro c hc
    obtain ⟨z, _, rfl⟩ := List.mem_map.1 hc
    rfl
  rw [if_pos ⟨by simp, .inl rfl, by omega, hf⟩]
  have h1 : (((l ++ zi).map e1).take l.length).map decI = l := by
    rw [← List.map_take, List.take_left' rfl, List.map_map]
    have : decI ∘ e1 = id := by funext z; rfl
    rw [this, List.map_id]
  have h2 : ((l ++ zi).map e1).drop l.length = zi.map e1 := by rw [← List.map_drop, List.drop_left' rfl]
  rw [h1, h2, List.map_append]
  rfl

theorem q73 (x : Int) : Pn 1 73 [i64 x] [] (bl false) [] := by
  refine playN 0 rfl rfl fun A call hA hcall => ?_
  obtain ⟨pl, mi, ml, nt, tn, ad, sb, K⟩ := kit hA
  obtain ⟨E, ix, sn, ll, cc, sg, D⟩ := lkit hA K (0 : Int) (fun z => [.int .i64 z]) 8
  refine wpV_ofH (by ((try (conv => lhs; cbv)); (repeat ((first | (rewrite [K.neF]; rotate_left; focus ((try simp only [K.df, D.df, true_and, and_true]) <;> omega))); (try (conv => lhs; cbv)))); (exact rfl))) ?_
  (show finV _ _ _ = some _; ((try (conv => lhs; cbv)); (try (with_reducible rfl))); (try rfl))
theorem q52 (x y : Int) : Pn 2 52 [i64 x, i64 y] [] (bl (decide (x < y))) [] := by
  refine playN 1 rfl rfl fun A call hA hcall => ?_
  obtain ⟨pl, mi, ml, nt, tn, ad, sb, K⟩ := kit hA
  obtain ⟨E, ix, sn, ll, cc, sg, D⟩ := lkit hA K (0 : Int) (fun z => [.int .i64 z]) 8
  have k1 := q73 x 1 (by omega)
  have k2 := q73 y 1 (by omega)
  rw [← hcall] at k1 k2
  by_cases h : x < y
  · rw [decide_eq_true h]
    refine wpV_ofH (by ((try (conv => lhs; cbv)); (repeat ((first | (rewrite [k1]) | (rewrite [K.ltT]; rotate_left; focus ((try simp only [K.df, D.df, true_and, and_true]) <;> omega))); (try (conv => lhs; cbv)))); (exact rfl))) ?_
    (show finV _ _ _ = some _; ((try (conv => lhs; cbv)); (try (with_reducible rfl))); (try rfl))
  · rw [decide_eq_false h]
    refine wpV_ofH (by ((try (conv => lhs; cbv)); (repeat ((first | (rewrite [k1]) | (rewrite [K.ltF]; rotate_left; focus ((try simp only [K.df, D.df, true_and, and_true]) <;> omega))); (try (conv => lhs; cbv)))); (exact rfl))) ?_
    (show finV _ _ _ = some _; ((try (conv => lhs; cbv)); (try (with_reducible rfl))); (try rfl))
theorem q21 (l : List Int) (t : Bool) (hl : l.length ≤ 1000) (hs : l.Pairwise fun a b => a ≤ b) : Pn 1102 21 [.one (.iv (.sl t 1 (l.map e1)))] [] (bl true) [] := by
  refine playN 1101 rfl rfl fun A call hA hcall => ?_
  obtain ⟨pl, mi, ml, nt, tn, ad, sb, K⟩ := kit hA
  obtain ⟨E, ix, sn, ll, cc, sg, D⟩ := lkit hA K (0 : Int) (fun z => [.int .i64 z]) 8
  have hE : l.map e1 = E l := by rw [D.E_]; rfl
  rw [hE]
  have k52 : ∀ x y, call 52 [i64 x, i64 y] [] = some (bl (decide (x < y)), []) := fun x y => by rw [hcall]; exact q52 x y 1101 (by omega)
  obtain ⟨M, hM⟩ : ∃ M : Int, M = nt (ll l) := ⟨_, rfl⟩
  have hMl : M = l.length := by rw [hM, K.nt_, D.ll_]
  have ln : A .len (E l) = M := by rw [D.len, hM]
  have srt : ∀ J : Int, 0 < J → J < l.length → ¬ ix l J < ix l (mi J 1) := fun J h1 h2 => by
    rw [D.ix_, D.ix_, K.mi_, List.getD_eq_getElem?_getD, List.getD_eq_getElem?_getD, List.getElem?_eq_getElem (by omega), List.getElem?_eq_getElem (by omega)]
    have := List.pairwise_iff_getElem.1 hs (J - 1).toNat J.toNat (by omega) (by omega) (by omega)
    simp only [Option.getD_some]
    omega
  apply wpV_seq; refine wpV_ofH (by ((try (conv => lhs; cbv)); (exact rfl))) ?_
  apply wpV_seq; apply wpV_seq; refine wpV_ofH (by ((try (conv => lhs; cbv)); (repeat ((first | (rewrite [ln]) | (rewrite [K.sub]; rotate_left; focus ((try simp only [K.df, D.df, true_and, and_true]) <;> omega))); (try (conv => lhs; cbv)))); (exact rfl))) ?_
  apply wpV_block
  refine wpV_loop l.length (fun i st => ∃ J : Int, st = ⟨0, [.one (.iv (.sl t 1 (E l))), u, u, i64 J, u, u, u, u, u, u, u, u, u, u, u, u, u, u, u, u, u], []⟩ ∧ J = (l.length : Int) - 1 - i) (by omega) (by ((try (conv => lhs; cbv)); (try (with_reducible rfl)))) ⟨mi M 1, rfl, by rw [K.mi_]; omega⟩ ?_
  rintro i hi st ⟨J, rfl, hJ⟩
  by_cases h : 0 < J
  · have g1 := D.get (l := l) (J := J) (by omega)
    have g2 := D.get (l := l) (J := mi J 1) (by rw [K.mi_]; omega)
    have hs2 := srt J h (by omega)
    have kk := k52 (ix l J) (ix l (mi J 1))
    rw [decide_eq_false hs2] at kk
    generalize ix l J = x at *
    generalize ix l (mi J 1) = y at *
    refine wpV_ofH (by ((try (conv => lhs; cbv)); (repeat ((first | (rewrite [g1]) | (rewrite [g2]) | (rewrite [kk]) | (rewrite [K.sub]; rotate_left; focus ((try simp only [K.df, D.df, true_and, and_true]) <;> omega)) | (rewrite [K.gtT]; rotate_left; focus ((try simp only [K.df, D.df, true_and, and_true]) <;> omega))); (try (conv => lhs; cbv)))); (exact rfl))) ?_
    refine headQ_ofH (by ((try (conv => lhs; cbv)); (exact rfl))) ?_
    refine ⟨by omega, _, rfl, ?_⟩
    rw [K.mi_]; omega
  · refine wpV_ofH (by ((try (conv => lhs; cbv)); (repeat ((first | (rewrite [K.gtF]; rotate_left; focus ((try simp only [K.df, D.df, true_and, and_true]) <;> omega))); (try (conv => lhs; cbv)))); (exact rfl))) ?_
    show wpV _ _ _ _ _ _
    refine wpV_ofH (by ((try (conv => lhs; cbv)); (exact rfl))) ?_
    (show finV _ _ _ = some _; ((try (conv => lhs; cbv)); (try (with_reducible rfl))); (try rfl))
theorem q37 : Pn 1 37 [.one (.iv (.fn 12))] [] (.one (.ptr 0 0)) [.var false [.slo 1 0 0, .iv (.fn 12)], .arr false false 1 []] := by
  refine playN 0 rfl rfl fun A call hA hcall => ?_
  obtain ⟨pl, mi, ml, nt, tn, ad, sb, K⟩ := kit hA
  obtain ⟨E, ix, sn, ll, cc, sg, D⟩ := lkit hA K (0 : Int) (fun z => [.int .i64 z]) 8
  refine wpV_ofH (by ((try (conv => lhs; cbv)); (exact rfl))) ?_
  (show finV _ _ _ = some _; ((try (conv => lhs; cbv)); (try (with_reducible rfl))); (try rfl))
end Go.Proofs.Ytlbmknejhmmjnaa
