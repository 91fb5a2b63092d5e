/- The sort of dots, laid at this program; what it makes; and the small machine with it. -/
import Derived.Test.YtomchclmnmhjaaaEVB
import Derived.Test.YtomchclmnmhjaaaDSL
set_option linter.unusedSimpArgs false
set_option linter.unusedVariables false
set_option maxRecDepth 100000
set_option maxHeartbeats 1000000
set_option cbv.maxSteps 10000000
namespace Go.Proofs.Ytomchclmnmhjaaa
open Go GoV
def sortDot_ren : Go.Shelf.Ren := ⟨fun | 6 => 85 | 15 => 118 | 14 => 117 | 28 => 147 | 29 => 148 | 20 => 139 | 21 => 140 | 22 => 141 | 23 => 142 | 24 => 143 | 25 => 144 | 26 => 145 | 27 => 146 | 46 => 153 | 47 => 154 | 48 => 155 | 49 => 156 | 50 => 157 | 57 => 161 | n => n, fun | 22 => 37 | 24 => 23 | 25 => 26 | 3 => 3 | 39 => 127 | 0 => 0 | 53 => 156 | 55 => 131 | 4 => 4 | 46 => 149 | 45 => 148 | 50 => 153 | 5 => 5 | 9 => 9 | 66 => 158 | 70 => 161 | 76 => 165 | 77 => 163 | n => n, fun | n => n⟩
theorem sortDot : Go.Proofs.SlLaysF0.n6 Try.prog sortDot_ren := {
  mixed := by kernel_rfl
  f6 := ⟨Try.f85.name, by decide, Try.func85.trans (congrArg some (by kernel_rfl))⟩
  f14 := ⟨Try.f117.name, by decide, Try.func117.trans (congrArg some (by kernel_rfl))⟩
  f15 := Try.func118.trans (congrArg some (by kernel_rfl))
  f20 := ⟨Try.f139.name, by decide, Try.func139.trans (congrArg some (by kernel_rfl))⟩
  f21 := ⟨Try.f140.name, by decide, Try.func140.trans (congrArg some (by kernel_rfl))⟩
  f22 := ⟨Try.f141.name, by decide, Try.func141.trans (congrArg some (by kernel_rfl))⟩
  f23 := ⟨Try.f142.name, by decide, Try.func142.trans (congrArg some (by kernel_rfl))⟩
  f24 := ⟨Try.f143.name, by decide, Try.func143.trans (congrArg some (by kernel_rfl))⟩
  f25 := ⟨Try.f144.name, by decide, Try.func144.trans (congrArg some (by kernel_rfl))⟩
  f26 := ⟨Try.f145.name, by decide, Try.func145.trans (congrArg some (by kernel_rfl))⟩
  f27 := ⟨Try.f146.name, by decide, Try.func146.trans (congrArg some (by kernel_rfl))⟩
  f28 := Try.func147.trans (congrArg some (by kernel_rfl))
  f29 := Try.func148.trans (congrArg some (by kernel_rfl))
  f46 := ⟨Try.f153.name, by decide, Try.func153.trans (congrArg some (by kernel_rfl))⟩
  f47 := Try.func154.trans (congrArg some (by kernel_rfl))
  f48 := Try.func155.trans (congrArg some (by kernel_rfl))
  f49 := ⟨Try.f156.name, by decide, Try.func156.trans (congrArg some (by kernel_rfl))⟩
  f50 := ⟨Try.f157.name, by decide, Try.func157.trans (congrArg some (by kernel_rfl))⟩
  f57 := ⟨Try.f161.name, by decide, Try.func161.trans (congrArg some (by kernel_rfl))⟩
  t0 := Try.underlying0
  a0 := Try.isAgg0
  z0 := Try.sizeOf0
  v0 := Try.zeroValue0
  t3 := Try.underlying3
  a3 := Try.isAgg3
  z3 := Try.sizeOf3
  v3 := Try.zeroValue3
  t4 := Try.underlying4
  a4 := Try.isAgg4
  z4 := Try.sizeOf4
  v4 := Try.zeroValue4
  t5 := Try.underlying5
  a5 := Try.isAgg5
  z5 := Try.sizeOf5
  v5 := Try.zeroValue5
  t9 := Try.underlying9
  a9 := Try.isAgg9
  z9 := Try.sizeOf9
  v9 := Try.zeroValue9
  t22 := Try.underlying37
  a22 := Try.isAgg37
  z22 := Try.sizeOf37
  v22 := Try.zeroValue37
  t25 := Try.underlying26
  a25 := Try.isAgg26
  z25 := Try.sizeOf26
  v25 := Try.zeroValue26
  t39 := Try.underlying127
  a39 := Try.isAgg127
  z39 := Try.sizeOf127
  v39 := Try.zeroValue127
  t45 := Try.underlying148
  a45 := Try.isAgg148
  z45 := Try.sizeOf148
  v45 := Try.zeroValue148
  t46 := Try.underlying149
  a46 := Try.isAgg149
  z46 := Try.sizeOf149
  v46 := Try.zeroValue149
  t50 := Try.underlying153
  a50 := Try.isAgg153
  z50 := Try.sizeOf153
  v50 := Try.zeroValue153
  t53 := Try.underlying156
  a53 := Try.isAgg156
  z53 := Try.sizeOf156
  v53 := Try.zeroValue156
  t55 := Try.underlying131
  a55 := Try.isAgg131
  z55 := Try.sizeOf131
  v55 := Try.zeroValue131
  t66 := Try.underlying158
  a66 := Try.isAgg158
  z66 := Try.sizeOf158
  v66 := Try.zeroValue158
  t70 := Try.underlying161
  a70 := Try.isAgg161
  z70 := Try.sizeOf161
  v70 := Try.zeroValue161
  t76 := Try.underlying165
  a76 := Try.isAgg165
  z76 := Try.sizeOf165
  v76 := Try.zeroValue165
  t77 := Try.underlying163
  a77 := Try.isAgg163
  z77 := Try.sizeOf163
  v77 := Try.zeroValue163 }
def growDot_ren : Go.Shelf.Ren := ⟨fun | 4 => 120 | n => n, fun | 22 => 37 | 25 => 23 | 3 => 3 | 4 => 4 | 9 => 9 | 20 => 20 | 0 => 0 | 2 => 3 | n => n, fun | n => n⟩
theorem growDot : Go.Proofs.Lays8.n4 Try.prog growDot_ren := {
  mixed := by kernel_rfl
  f4 := ⟨Try.f120.name, by decide, Try.func120.trans (congrArg some (by kernel_rfl))⟩
  t0 := Try.underlying0
  a0 := Try.isAgg0
  z0 := Try.sizeOf0
  v0 := Try.zeroValue0
  t3 := Try.underlying3
  a3 := Try.isAgg3
  z3 := Try.sizeOf3
  v3 := Try.zeroValue3
  t4 := Try.underlying4
  a4 := Try.isAgg4
  z4 := Try.sizeOf4
  v4 := Try.zeroValue4
  t9 := Try.underlying9
  a9 := Try.isAgg9
  z9 := Try.sizeOf9
  v9 := Try.zeroValue9
  t20 := Try.underlying20
  a20 := Try.isAgg20
  z20 := Try.sizeOf20
  v20 := Try.zeroValue20
  t22 := Try.underlying37
  a22 := Try.isAgg37
  z22 := Try.sizeOf37
  v22 := Try.zeroValue37 }
def eDs (l : List Dt) : List (List IV) := l.map fun p => [.int .i64 p.1, .int .i64 p.2]
def dD (x : List IV) : Dt := match nrmC [true, true] x with
  | [.int _ a, .int _ b] => (a, b)
  | _ => (0, 0)
def cfD (x y : List IV) : Int := cmpN (dD x) (dD y)
theorem nrm_dD (x : List IV) : ∃ a b, nrmC [true, true] x = [.int .i64 a, .int .i64 b] ∧ dD x = (a, b) := by
  have hl := nrmC_len [true, true] x
  have : ∀ c, c ∈ nrmC [true, true] x → ∃ n, c = .int .i64 n := by
    intro c hc
    cases x with
    | nil => simp [nrmC] at hc; rcases hc with rfl | rfl <;> exact ⟨_, rfl⟩
    | cons y r =>
      have h2 : ∀ r : List IV, ∀ c, c ∈ nrmC [true] r → ∃ n, c = .int .i64 n := by
        intro r c hc
        cases r with
        | nil => simp [nrmC] at hc; exact ⟨_, hc⟩
        | cons y r => cases y <;> simp [nrmC] at hc <;> exact ⟨_, hc⟩
      cases y <;> simp only [nrmC, List.mem_cons] at hc <;> (rcases hc with rfl | hc; exact ⟨_, rfl⟩; exact h2 _ _ hc)
  unfold dD
  generalize nrmC [true, true] x = l at *
  match l, hl with
  | [a, b], _ =>
    obtain ⟨m, rfl⟩ := this a (by simp)
    obtain ⟨n, rfl⟩ := this b (by simp)
    exact ⟨m, n, rfl, rfl⟩
theorem ltD_cf (x y : List IV) : Go.Proofs.ltOf cfD x y = ltD (dD x) (dD y) := by
  rw [Bool.eq_iff_iff]
  unfold Go.Proofs.ltOf cfD
  rw [decide_eq_true_eq]
  exact cmpN_lt _ _
theorem swoD : Go.Sort.SWO (Go.Proofs.ltOf cfD) := by
  refine ⟨fun x => ?_, fun x y z h1 h2 => ?_, fun x y z h1 h2 => ?_⟩
  · rw [ltD_cf]; unfold ltD; rw [decide_eq_false_iff_not]; omega
  · rw [ltD_cf] at *; unfold ltD at *; rw [decide_eq_true_eq] at *; omega
  · rw [ltD_cf] at *; unfold ltD at *; rw [decide_eq_false_iff_not] at *; omega
theorem cmp17 : CmpOK Try.prog 17 [true, true] cfD := cmpOK_of fun x y => by
  obtain ⟨a, b, h1, h2⟩ := nrm_dD x
  obtain ⟨c, d, h3, h4⟩ := nrm_dD y
  refine ⟨play real (lookT tab) (fun _ => clonePr clones) 1003, (play_ok mixed tab_ok pr_ok 1003).1, ?_⟩
  unfold cfD
  rw [h1, h2, h3, h4]
  exact n17 a b c d 1003 (Nat.le_refl _)
abbrev prE : CallT := growPr 120 [true, true] (sortPr 85 [true, true] 17 cfD clones)
abbrev prD : CallT → CallT := fun _ => prE
theorem prD_ok : PrOK Try.prog prD :=
  growPr_ok (i0 := (Try.prog.info? 23).getD default) (z := .agg #[.int .i64 0, .int .i64 0]) growDot rfl (by kernel_rfl) (by kernel_rfl) (by kernel_rfl) (by kernel_rfl) (by decide) (of_decide_eq_true (by kernel_rfl)) ⟨Try.f120, _, Try.func120, rfl, by kernel_rfl⟩
    (sortPr_ok mixed sortDot rfl Try.isAgg23 Try.sizeOf23 swoD ⟨Try.f85, _, Try.func85, rfl, by kernel_rfl⟩ (chkFn_has c17) cmp17 clones_ok)
theorem prD_mono : PrMono prD := const_mono
abbrev Qn (n f : Nat) (vs : List FV) (bs : List Blk) (v : FV) (os : List Blk) : Prop := ∀ m, n ≤ m → play real (lookT tab) prD m f vs bs = some (v, os)
theorem playQ {f : Nat} {vf : VFn} {vs : List FV} {bs : List Blk} {v : FV} {os : List Blk} (n : Nat) (hT : lookT tab f = some vf) (hlen : Nat.beq (lenF vs) vf.np = true)
    (h : ∀ A call, A = real → call = play real (lookT tab) prD n → wpV A call (iterN n) vf.body ⟨lenH bs, padE vf.nt vs, bs⟩ (finQ A vf (v, os))) : Qn (n + 1) f vs bs v os := by
  obtain ⟨ex, s, h1, h2⟩ := h real _ rfl rfl
  have h0 : play real (lookT tab) prD (n + 1) f vs bs = some (v, os) := by
    simp only [play, hT, bodyV, hlen, cond_true, h1, Option.bind_some]; exact h2
  exact fun m hm => play_mono prD_mono hm _ _ _ _ h0
theorem play_le {pr pr' : CallT} (hp : Le pr pr') : ∀ n, Le (play real (lookT tab) (fun _ => pr) n) (play real (lookT tab) (fun _ => pr') n)
  | 0 => fun f vs bs r h => by simp [play] at h
  | n + 1 => fun f vs bs r h => by
    have ih := play_le hp n
    simp only [play] at h ⊢
    split at h
    · exact bodyV_mono ih (iterN_mono (Nat.le_refl _)) h
    · exact hp _ _ _ _ h
theorem cl_le : Le (clonePr clones) prE := fun f vs bs r h => by
  unfold prE growPr
  cases hg : Nat.beq f 120 with
  | true =>
    have := Nat.eq_of_beq_eq_true hg
    subst this
    have h0 : clonePr clones 120 vs bs = none := rfl
    rw [h0] at h; cases h
  | false =>
  show sortPr 85 [true, true] 17 cfD clones f vs bs = some r
  unfold sortPr
  cases hf : Nat.beq f 85 with
  | false => exact h
  | true =>
    have := Nat.eq_of_beq_eq_true hf
    subst this
    have h0 : clonePr clones 85 vs bs = none := rfl
    rw [h0] at h; cases h
theorem lift {n f : Nat} {vs : List FV} {bs : List Blk} {v : FV} {os : List Blk} (h : Pn n f vs bs v os) : Qn n f vs bs v os := fun m hm => play_le cl_le m _ _ _ _ (h m hm)
/-! ### The dots, sorted -/
def srtD (l : List Dt) : List Dt := (pdqL cfD (eDs l)).map dD
theorem srtD_e (l : List Dt) : eDs (srtD l) = pdqL cfD (eDs l) := by
  obtain ⟨hp, _⟩ := pdqL_facts swoD (eDs l)
  unfold srtD
  have : ∀ es : List (List IV), (∀ x, x ∈ es → x ∈ eDs l) → eDs (es.map dD) = es := by
    intro es
    induction es with
    | nil => intro _; rfl
    | cons x r ih =>
      intro h
      obtain ⟨p, _, hx⟩ := List.mem_map.1 (h x (by simp))
      have ih := ih fun y hy => h y (by simp [hy])
      unfold eDs at ih ⊢
      rw [List.map_cons, List.map_cons, ih, ← hx]
      rfl
  exact this _ fun x hx => hp.subset hx
theorem srtD_perm (l : List Dt) : (srtD l).Perm l := by
  obtain ⟨hp, _⟩ := pdqL_facts swoD (eDs l)
  have := hp.map dD
  have e : (eDs l).map dD = l := by
    unfold eDs
    rw [List.map_map]
    conv => rhs; rw [← List.map_id l]
    exact List.map_congr_left fun p _ => rfl
  rw [e] at this
  exact this
theorem srtD_srt (l : List Dt) : (srtD l).Pairwise (fun a b => a = b ∨ LD a b) := by
  obtain ⟨hp, hs⟩ := pdqL_facts swoD (eDs l)
  rw [List.pairwise_iff_getElem]
  intro i j hi hj hij
  have hl : (srtD l).length = (pdqL cfD (eDs l)).length := by simp [srtD]
  have hj' : j < (eDs l).length := by rw [← hp.length_eq]; omega
  have := hs i j hij hj'
  rw [ltD_cf, List.getD_eq_getElem?_getD, List.getD_eq_getElem?_getD, List.getElem?_eq_getElem (by omega), List.getElem?_eq_getElem (by omega), Option.getD_some, Option.getD_some] at this
  have e : ∀ k (h : k < (srtD l).length), (srtD l)[k] = dD ((pdqL cfD (eDs l))[k]'(by omega)) := fun k h => by simp [srtD]
  rw [e i hi, e j hj]
  generalize dD _ = a at *
  generalize dD _ = b at *
  obtain ⟨a1, a2⟩ := a
  obtain ⟨b1, b2⟩ := b
  unfold ltD at this
  rw [decide_eq_false_iff_not] at this
  unfold LD
  dsimp only at *
  by_cases h : a1 = b1 ∧ a2 = b2
  · left; rw [h.1, h.2]
  · right; omega
theorem fits_e (l : List Dt) : (eDs l).all (fitsC [true, true]) = true := by
  rw [List.all_eq_true]
  intro x hx
  obtain ⟨p, _, rfl⟩ := List.mem_map.1 hx
  rfl
theorem q85 (l : List Dt) (n : Nat) (hn : n ≤ l.length) (hb : n ≤ 1000000000000) (g : Bool) : Qn 1 85 [.one (.slo 0 0 n), .one (.iv (.fn 17))] [.arr false g 2 (eDs l)] (.tup []) [.arr false g 2 (eDs (srtD (l.take n) ++ l.drop n))] := by
  intro m hm
  obtain ⟨m, rfl⟩ : ∃ k, m = k + 1 := ⟨m - 1, by omega⟩
  have hT : lookT tab 85 = none := rfl
  simp only [play, hT]
  have hl : (eDs l).length = l.length := by simp [eDs]
  have h1 : eDs (srtD (l.take n) ++ l.drop n) = pdqL cfD ((eDs l).take n) ++ (eDs l).drop n := by
    have := srtD_e (l.take n)
    unfold eDs at this ⊢
    rw [List.map_append, this, List.map_take, List.map_drop]
  rw [h1]
  show growPr 120 [true, true] (sortPr 85 [true, true] 17 cfD clones) 85 _ _ = _
  unfold growPr
  rw [show Nat.beq 85 120 = false from rfl, cond_false]
  unfold sortPr
  rw [show Nat.beq 85 85 = true from rfl, cond_true]
  show (if (17 : Nat) = 17 ∧ n ≤ (eDs l).length ∧ ((2 : Nat) = [true, true].length ∨ eDs l = []) ∧ n ≤ 1000000000000 ∧ (eDs l).all (fitsC [true, true]) = true then some (FV.tup [], [Blk.arr false g 2 (pdqL cfD (List.take n (eDs l)) ++ List.drop n (eDs l))]) else none) = _
  rw [if_pos ⟨rfl, by omega, .inl rfl, hb, fits_e l⟩]
theorem q120 (n : Nat) (hn : n ≤ 1000000000000) : Qn 1 120 [.one (.iv (.sl true 0 [])), i64 n] [] (.one (.slo 0 0 0)) [.arr false false 2 (eDs (List.replicate n (0, 0)))] := by
  intro m hm
  obtain ⟨m, rfl⟩ : ∃ k, m = k + 1 := ⟨m - 1, by omega⟩
  have hT : lookT tab 120 = none := rfl
  simp only [play, hT]
  show growPr 120 [true, true] (sortPr 85 [true, true] 17 cfD clones) 120 _ _ = _
  unfold growPr
  rw [show Nat.beq 120 120 = true from rfl, cond_true]
  have e : eDs (List.replicate n (0, 0)) = List.replicate (n : Int).toNat (nrmC [true, true] []) := by
    unfold eDs
    rw [List.map_replicate, Int.toNat_natCast]; rfl
  rw [e]
  show (if 0 ≤ (n : Int) ∧ (n : Int) ≤ 1000000000000 then some (FV.one (LV.slo 0 0 0), [Blk.arr false false 2 (List.replicate (n : Int).toNat (nrmC [true, true] []))]) else none) = _
  rw [if_pos ⟨by omega, by omega⟩]
end Go.Proofs.Ytomchclmnmhjaaa
