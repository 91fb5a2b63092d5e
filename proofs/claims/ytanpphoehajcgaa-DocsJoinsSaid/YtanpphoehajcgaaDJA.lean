/- The sort of writes, laid at this program; and the small machine with it. -/
import Derived.Test.YtanpphoehajcgaaEVB
import Derived.Test.YtanpphoehajcgaaDAA
import Derived.Test.YtanpphoehajcgaaDJL
import Derived.Test.YtanpphoehajcgaaDJS
import Derived.Test.YtanpphoehajcgaaVBH
import Derived.Test.YtanpphoehajcgaaVBI
import Derived.Shelf.SlLaysF0
import Derived.Shelf.Lays8
set_option linter.unusedSimpArgs false
set_option linter.unusedVariables false
set_option maxRecDepth 100000
set_option maxHeartbeats 1000000
set_option cbv.maxSteps 10000000
namespace Go.Proofs.Ytanpphoehajcgaa
open Go GoV
def sortWr_ren : Go.Shelf.Ren := ⟨fun | 6 => 76 | 15 => 106 | 14 => 105 | 28 => 130 | 29 => 119 | 20 => 122 | 21 => 123 | 22 => 124 | 23 => 125 | 24 => 126 | 25 => 127 | 26 => 128 | 27 => 129 | 46 => 136 | 47 => 137 | 48 => 138 | 49 => 139 | 50 => 140 | 57 => 142 | n => n, fun | 22 => 37 | 24 => 74 | 25 => 86 | 3 => 3 | 39 => 91 | 0 => 0 | 53 => 156 | 55 => 124 | 4 => 4 | 46 => 150 | 45 => 149 | 50 => 83 | 5 => 5 | 9 => 9 | 66 => 159 | 70 => 163 | 76 => 165 | 77 => 113 | n => n, fun | n => n⟩
theorem sortWr : Go.Proofs.SlLaysF0.n6 Try.prog sortWr_ren := {
  mixed := by kernel_rfl
  f6 := ⟨Try.f76.name, by decide, Try.func76.trans (congrArg some (by kernel_rfl))⟩
  f14 := ⟨Try.f105.name, by decide, Try.func105.trans (congrArg some (by kernel_rfl))⟩
  f15 := Try.func106.trans (congrArg some (by kernel_rfl))
  f20 := ⟨Try.f122.name, by decide, Try.func122.trans (congrArg some (by kernel_rfl))⟩
  f21 := ⟨Try.f123.name, by decide, Try.func123.trans (congrArg some (by kernel_rfl))⟩
  f22 := ⟨Try.f124.name, by decide, Try.func124.trans (congrArg some (by kernel_rfl))⟩
  f23 := ⟨Try.f125.name, by decide, Try.func125.trans (congrArg some (by kernel_rfl))⟩
  f24 := ⟨Try.f126.name, by decide, Try.func126.trans (congrArg some (by kernel_rfl))⟩
  f25 := ⟨Try.f127.name, by decide, Try.func127.trans (congrArg some (by kernel_rfl))⟩
  f26 := ⟨Try.f128.name, by decide, Try.func128.trans (congrArg some (by kernel_rfl))⟩
  f27 := ⟨Try.f129.name, by decide, Try.func129.trans (congrArg some (by kernel_rfl))⟩
  f28 := Try.func130.trans (congrArg some (by kernel_rfl))
  f29 := Try.func119.trans (congrArg some (by kernel_rfl))
  f46 := ⟨Try.f136.name, by decide, Try.func136.trans (congrArg some (by kernel_rfl))⟩
  f47 := Try.func137.trans (congrArg some (by kernel_rfl))
  f48 := Try.func138.trans (congrArg some (by kernel_rfl))
  f49 := ⟨Try.f139.name, by decide, Try.func139.trans (congrArg some (by kernel_rfl))⟩
  f50 := ⟨Try.f140.name, by decide, Try.func140.trans (congrArg some (by kernel_rfl))⟩
  f57 := ⟨Try.f142.name, by decide, Try.func142.trans (congrArg some (by kernel_rfl))⟩
  t0 := Try.underlying0
  a0 := Try.isAgg0
  z0 := Try.sizeOf0
  v0 := Try.zeroValue0
  t3 := Try.underlying3
  a3 := Try.isAgg3
  z3 := Try.sizeOf3
  v3 := Try.zeroValue3
  t4 := Try.underlying4
  a4 := Try.isAgg4
  z4 := Try.sizeOf4
  v4 := Try.zeroValue4
  t5 := Try.underlying5
  a5 := Try.isAgg5
  z5 := Try.sizeOf5
  v5 := Try.zeroValue5
  t9 := Try.underlying9
  a9 := Try.isAgg9
  z9 := Try.sizeOf9
  v9 := Try.zeroValue9
  t22 := Try.underlying37
  a22 := Try.isAgg37
  z22 := Try.sizeOf37
  v22 := Try.zeroValue37
  t25 := Try.underlying86
  a25 := Try.isAgg86
  z25 := Try.sizeOf86
  v25 := Try.zeroValue86
  t39 := Try.underlying91
  a39 := Try.isAgg91
  z39 := Try.sizeOf91
  v39 := Try.zeroValue91
  t45 := Try.underlying149
  a45 := Try.isAgg149
  z45 := Try.sizeOf149
  v45 := Try.zeroValue149
  t46 := Try.underlying150
  a46 := Try.isAgg150
  z46 := Try.sizeOf150
  v46 := Try.zeroValue150
  t50 := Try.underlying83
  a50 := Try.isAgg83
  z50 := Try.sizeOf83
  v50 := Try.zeroValue83
  t53 := Try.underlying156
  a53 := Try.isAgg156
  z53 := Try.sizeOf156
  v53 := Try.zeroValue156
  t55 := Try.underlying124
  a55 := Try.isAgg124
  z55 := Try.sizeOf124
  v55 := Try.zeroValue124
  t66 := Try.underlying159
  a66 := Try.isAgg159
  z66 := Try.sizeOf159
  v66 := Try.zeroValue159
  t70 := Try.underlying163
  a70 := Try.isAgg163
  z70 := Try.sizeOf163
  v70 := Try.zeroValue163
  t76 := Try.underlying165
  a76 := Try.isAgg165
  z76 := Try.sizeOf165
  v76 := Try.zeroValue165
  t77 := Try.underlying113
  a77 := Try.isAgg113
  z77 := Try.sizeOf113
  v77 := Try.zeroValue113 }
def growWr_ren : Go.Shelf.Ren := ⟨fun | 4 => 103 | n => n, fun | 22 => 37 | 25 => 74 | 3 => 3 | 4 => 4 | 9 => 9 | 20 => 20 | 0 => 0 | n => n, fun | n => n⟩
theorem growWr : Go.Proofs.Lays8.n4 Try.prog growWr_ren := {
  mixed := by kernel_rfl
  f4 := ⟨Try.f103.name, by decide, Try.func103.trans (congrArg some (by kernel_rfl))⟩
  t0 := Try.underlying0
  a0 := Try.isAgg0
  z0 := Try.sizeOf0
  v0 := Try.zeroValue0
  t3 := Try.underlying3
  a3 := Try.isAgg3
  z3 := Try.sizeOf3
  v3 := Try.zeroValue3
  t4 := Try.underlying4
  a4 := Try.isAgg4
  z4 := Try.sizeOf4
  v4 := Try.zeroValue4
  t9 := Try.underlying9
  a9 := Try.isAgg9
  z9 := Try.sizeOf9
  v9 := Try.zeroValue9
  t20 := Try.underlying20
  a20 := Try.isAgg20
  z20 := Try.sizeOf20
  v20 := Try.zeroValue20
  t22 := Try.underlying37
  a22 := Try.isAgg37
  z22 := Try.sizeOf37
  v22 := Try.zeroValue37 }
theorem cmp54 : CmpOK Try.prog 54 sgW' cfW := cmpOK_of fun x y => by
  obtain ⟨a, h1, h2⟩ := nrm_wD x
  obtain ⟨b, h3, h4⟩ := nrm_wD y
  refine ⟨play real (lookT tab) (fun _ => clonePr clones) 1004, (play_ok mixed tab_ok pr_ok 1004).1, ?_⟩
  unfold cfW
  rw [h1, h2, h3, h4]
  exact n54 a b 1004 (Nat.le_refl _)
abbrev prE : CallT := growPr 103 sgW' (sortPr 76 sgW' 54 cfW clones)
abbrev prD : CallT → CallT := fun _ => prE
theorem prD_ok : PrOK Try.prog prD :=
  growPr_ok (i0 := (Try.prog.info? 74).getD default) (z := ((Try.prog.info? 74).getD default).zero.getD default) growWr rfl (by kernel_rfl) (by kernel_rfl) (by kernel_rfl) (by kernel_rfl) (by decide) (of_decide_eq_true (by kernel_rfl)) ⟨Try.f103, _, Try.func103, rfl, by kernel_rfl⟩
    (sortPr_ok mixed sortWr rfl Try.isAgg74 Try.sizeOf74 swoW ⟨Try.f76, _, Try.func76, rfl, by kernel_rfl⟩ (chkFn_has c54) cmp54 clones_ok)
theorem prD_mono : PrMono prD := const_mono
abbrev Qn (n f : Nat) (vs : List FV) (bs : List Blk) (v : FV) (os : List Blk) : Prop := ∀ m, n ≤ m → play real (lookT tab) prD m f vs bs = some (v, os)
theorem playQ {f : Nat} {vf : VFn} {vs : List FV} {bs : List Blk} {v : FV} {os : List Blk} (n : Nat) (hT : lookT tab f = some vf) (hlen : Nat.beq (lenF vs) vf.np = true)
    (h : ∀ A call, A = real → call = play real (lookT tab) prD n → wpV A call (iterN n) vf.body ⟨lenH bs, padE vf.nt vs, bs⟩ (finQ A vf (v, os))) : Qn (n + 1) f vs bs v os := by
  obtain ⟨ex, s, h1, h2⟩ := h real _ rfl rfl
  have h0 : play real (lookT tab) prD (n + 1) f vs bs = some (v, os) := by
    simp only [play, hT, bodyV, hlen, cond_true, h1, Option.bind_some]; exact h2
  exact fun m hm => play_mono prD_mono hm _ _ _ _ h0
theorem play_le {pr pr' : CallT} (hp : Le pr pr') : ∀ n, Le (play real (lookT tab) (fun _ => pr) n) (play real (lookT tab) (fun _ => pr') n)
  | 0 => fun f vs bs r h => by simp [play] at h
  | n + 1 => fun f vs bs r h => by
    have ih := play_le hp n
    simp only [play] at h ⊢
    split at h
    · exact bodyV_mono ih (iterN_mono (Nat.le_refl _)) h
    · exact hp _ _ _ _ h
theorem cl_le : Le (clonePr clones) prE := fun f vs bs r h => by
  unfold prE growPr
  cases hg : Nat.beq f 103 with
  | true =>
    have := Nat.eq_of_beq_eq_true hg
    subst this
    have h0 : clonePr clones 103 vs bs = none := rfl
    rw [h0] at h; cases h
  | false =>
  show sortPr 76 sgW' 54 cfW clones f vs bs = some r
  unfold sortPr
  cases hf : Nat.beq f 76 with
  | false => exact h
  | true =>
    have := Nat.eq_of_beq_eq_true hf
    subst this
    have h0 : clonePr clones 76 vs bs = none := rfl
    rw [h0] at h; cases h
theorem lift {n f : Nat} {vs : List FV} {bs : List Blk} {v : FV} {os : List Blk} (h : Pn n f vs bs v os) : Qn n f vs bs v os := fun m hm => play_le cl_le m _ _ _ _ (h m hm)
theorem q76 (l : List Wr) (n : Nat) (hn : n ≤ l.length) (hb : n ≤ 1000000000000) (g : Bool) : Qn 1 76 [.one (.slo 0 0 n), .one (.iv (.fn 54))] [.arr false g 6 (eWs l)] (.tup []) [.arr false g 6 (eWs (srtW (l.take n) ++ l.drop n))] := by
  intro m hm
  obtain ⟨m, rfl⟩ : ∃ k, m = k + 1 := ⟨m - 1, by omega⟩
  have hT : lookT tab 76 = none := rfl
  simp only [play, hT]
  have hl : (eWs l).length = l.length := by simp [eWs]
  have h1 : eWs (srtW (l.take n) ++ l.drop n) = pdqL cfW ((eWs l).take n) ++ (eWs l).drop n := by
    have := srtW_e (l.take n)
    unfold eWs at this ⊢
    rw [List.map_append, this, List.map_take, List.map_drop]
  rw [h1]
  show growPr 103 sgW' (sortPr 76 sgW' 54 cfW clones) 76 _ _ = _
  unfold growPr
  rw [show Nat.beq 76 103 = false from rfl, cond_false]
  unfold sortPr
  rw [show Nat.beq 76 76 = true from rfl, cond_true]
  show (if (54 : Nat) = 54 ∧ n ≤ (eWs l).length ∧ ((6 : Nat) = sgW'.length ∨ eWs l = []) ∧ n ≤ 1000000000000 ∧ (eWs l).all (fitsC sgW') = true then some (FV.tup [], [Blk.arr false g 6 (pdqL cfW (List.take n (eWs l)) ++ List.drop n (eWs l))]) else none) = _
  rw [if_pos ⟨rfl, by omega, .inl rfl, hb, fits_eW l⟩]
theorem qGROW (n : Nat) (hn : n ≤ 1000000000000) : Qn 1 103 [.one (.iv (.sl true 0 [])), i64 n] [] (.one (.slo 0 0 0)) [.arr false false 6 (eWs (List.replicate n zeroWr))] := by
  intro m hm
  obtain ⟨m, rfl⟩ : ∃ k, m = k + 1 := ⟨m - 1, by omega⟩
  have hT : lookT tab 103 = none := rfl
  simp only [play, hT]
  show growPr 103 sgW' (sortPr 76 sgW' 54 cfW clones) 103 _ _ = _
  unfold growPr
  rw [show Nat.beq 103 103 = true from rfl, cond_true]
  have e : eWs (List.replicate n zeroWr) = List.replicate (n : Int).toNat (nrmC sgW' []) := by
    unfold eWs
    rw [List.map_replicate, Int.toNat_natCast]; rfl
  rw [e]
  show (if 0 ≤ (n : Int) ∧ (n : Int) ≤ 1000000000000 then some (FV.one (LV.slo 0 0 0), [Blk.arr false false 6 (List.replicate (n : Int).toNat (nrmC sgW' []))]) else none) = _
  rw [if_pos ⟨by omega, by omega⟩]
end Go.Proofs.Ytanpphoehajcgaa
