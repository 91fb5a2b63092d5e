/- Tables by texts: the order of texts, a sorted list split at a key; slices.Insert laid at this program. -/
import Derived.Test.YtlbmknejhmmjnaaCGCode
import Derived.Test.YtlbmknejhmmjnaaVBK
set_option linter.unusedSimpArgs false
set_option linter.unusedVariables false
set_option maxRecDepth 100000
set_option maxHeartbeats 1000000
set_option cbv.maxSteps 10000000
namespace Go.Proofs.Ytlbmknejhmmjnaa
open Go GoV
/-! ### The order of texts -/
theorem bl_irr : ∀ l : List UInt8, Op.bytesLess l l = false
  | [] => rfl
  | x :: r => by simp [Op.bytesLess, bl_irr r]
theorem bl_tri : ∀ l m : List UInt8, Op.bytesLess l m = true ∨ l = m ∨ Op.bytesLess m l = true
  | [], [] => .inr (.inl rfl)
  | [], _ :: _ => .inl (by simp [Op.bytesLess])
  | _ :: _, [] => .inr (.inr (by simp [Op.bytesLess]))
  | x :: r, y :: s => by
    have ih := bl_tri r s
    simp only [Op.bytesLess, Bool.or_eq_true, Bool.and_eq_true, decide_eq_true_eq, beq_iff_eq, List.cons.injEq]
    rcases Nat.lt_trichotomy x.toNat y.toNat with h | h | h
    · exact .inl (.inl (UInt8.lt_iff_toNat_lt.2 h))
    · have e : x = y := UInt8.toNat_inj.1 h
      subst e
      rcases ih with h | h | h
      · exact .inl (.inr ⟨rfl, h⟩)
      · exact .inr (.inl ⟨rfl, h⟩)
      · exact .inr (.inr (.inr ⟨rfl, h⟩))
    · exact .inr (.inr (.inl (UInt8.lt_iff_toNat_lt.2 h)))
theorem bl_trans : ∀ {l m k : List UInt8}, Op.bytesLess l m = true → Op.bytesLess m k = true → Op.bytesLess l k = true
  | [], [], _, h, _ => by simp [Op.bytesLess] at h
  | [], _ :: _, [], _, h => by simp [Op.bytesLess] at h
  | [], _ :: _, _ :: _, _, _ => by simp [Op.bytesLess]
  | _ :: _, [], _, h, _ => by simp [Op.bytesLess] at h
  | _ :: _, _ :: _, [], _, h => by simp [Op.bytesLess] at h
  | x :: r, y :: s, z :: t, h, g => by
    have ih := @bl_trans r s t
    simp only [Op.bytesLess, Bool.or_eq_true, Bool.and_eq_true, decide_eq_true_eq, beq_iff_eq] at h g ⊢
    rcases h with h | ⟨rfl, h⟩ <;> rcases g with g | ⟨rfl, g⟩
    · exact .inl (UInt8.lt_trans h g)
    · exact .inl h
    · exact .inl g
    · exact .inr ⟨rfl, ih h g⟩
theorem toList_inj {a b : ByteArray} (h : a.toList = b.toList) : a = b := by
  rcases a with ⟨a⟩; rcases b with ⟨b⟩
  have h1 : ∀ c : Array UInt8, (ByteArray.mk c).toList = c.toList := fun c => by
    rw [ByteArray.toList_eq]
  rw [h1, h1] at h
  rw [Array.toList_inj.1 h]
def ltS (a b : ByteArray) : Bool := Op.bytesLess a.toList b.toList
theorem ltS_irr (a : ByteArray) : ltS a a = false := bl_irr _
theorem ltS_trans {a b c : ByteArray} (h : ltS a b = true) (g : ltS b c = true) : ltS a c = true := bl_trans h g
theorem ltS_asym {a b : ByteArray} (h : ltS a b = true) : ltS b a = false := by
  cases g : ltS b a with
  | false => rfl
  | true => have := ltS_trans h g; rw [ltS_irr] at this; cases this
theorem ltS_tri (a b : ByteArray) : ltS a b = true ∨ a = b ∨ ltS b a = true := by
  rcases bl_tri a.toList b.toList with h | h | h
  · exact .inl h
  · exact .inr (.inl (toList_inj h))
  · exact .inr (.inr h)
theorem ltS_ne {a b : ByteArray} (h : ltS a b = true) : a ≠ b := fun e => by rw [e, ltS_irr] at h; cases h
theorem beqT (a b : ByteArray) : (a.toList == b.toList) = decide (a = b) := by
  by_cases h : a = b
  · subst h; simp
  · rw [decide_eq_false h, beq_eq_false_iff_ne]; exact fun e => h (toList_inj e)
theorem sc_lt {A : Ar} (hA : A = real) (a b : ByteArray) : A .scmp .lss a b = ltS a b := by rw [hA]; rfl
theorem sc_eq {A : Ar} (hA : A = real) (a b : ByteArray) : A .scmp .eql a b = decide (a = b) := by rw [hA, ← beqT]; rfl
theorem sc_ne {A : Ar} (hA : A = real) (a b : ByteArray) : A .scmp .neq a b = !decide (a = b) := by rw [hA, ← beqT]; rfl
theorem sc_gt {A : Ar} (hA : A = real) (a b : ByteArray) : A .scmp .gtr a b = ltS b a := by
  rw [hA]
  show (!(Op.bytesLess a.toList b.toList || a.toList == b.toList)) = _
  rw [beqT]
  rcases ltS_tri a b with h | h | h
  · rw [ltS_asym h]
    have h' : Op.bytesLess a.toList b.toList = true := h
    rw [h']; rfl
  · subst h
    rw [ltS_irr]
    simp
  · rw [h]
    have h' : Op.bytesLess a.toList b.toList = false := ltS_asym h
    rw [h', decide_eq_false (fun e => ltS_ne h e.symm)]; rfl
/-! ### Rows, split at a key -/
abbrev Rw := ByteArray × Int
def eRs (l : List Rw) : List (List IV) := l.map fun p => [.str p.1, .int .i64 p.2]
def Srt (l : List Rw) : Prop := l.Pairwise fun x y => ltS x.1 y.1 = true
structure Spl (l : List Rw) (k : ByteArray) (a m b : List Rw) : Prop where
  eq : l = a ++ m ++ b
  lo : ∀ x, x ∈ a → ltS x.1 k = true
  mid : m = [] ∨ ∃ v, m = [(k, v)]
  hi : ∀ x, x ∈ b → ltS k x.1 = true
theorem split_at {l : List Rw} (h : Srt l) (k : ByteArray) : ∃ a m b, Spl l k a m b := by
  induction l with
  | nil => exact ⟨[], [], [], rfl, by simp, .inl rfl, by simp⟩
  | cons x r ih =>
    obtain ⟨h1, h2⟩ := List.pairwise_cons.1 h
    rcases ltS_tri x.1 k with g | g | g
    · obtain ⟨a, m, b, e, g1, g2, g3⟩ := ih h2
      refine ⟨x :: a, m, b, by rw [e]; rfl, fun y hy => ?_, g2, g3⟩
      rcases List.mem_cons.1 hy with rfl | hy
      · exact g
      · exact g1 y hy
    · refine ⟨[], [x], r, rfl, by simp, .inr ⟨x.2, by rw [← g]⟩, fun y hy => ?_⟩
      rw [← g]; exact h1 y hy
    · refine ⟨[], [], x :: r, rfl, by simp, .inl rfl, fun y hy => ?_⟩
      rcases List.mem_cons.1 hy with rfl | hy
      · exact g
      · exact ltS_trans g (h1 y hy)
theorem Spl.put {l a m b : List Rw} {k : ByteArray} (s : Spl l k a m b) (h : Srt l) (v : Int) : Srt (a ++ [(k, v)] ++ b) := by
  unfold Srt at h ⊢
  rw [s.eq] at h
  obtain ⟨h1, h2, h3⟩ := List.pairwise_append.1 h
  obtain ⟨h4, h5, h6⟩ := List.pairwise_append.1 h1
  refine List.pairwise_append.2 ⟨List.pairwise_append.2 ⟨h4, by simp, fun x hx y hy => ?_⟩, h2, fun x hx y hy => ?_⟩
  · rw [List.mem_singleton] at hy; subst hy; exact s.lo x hx
  · rcases List.mem_append.1 hx with hx | hx
    · exact h3 x (List.mem_append_left _ hx) y hy
    · rw [List.mem_singleton] at hx; subst hx; exact s.hi y hy
theorem Spl.cut {l a m b : List Rw} {k : ByteArray} (s : Spl l k a m b) (h : Srt l) : Srt (a ++ b) := by
  unfold Srt at h ⊢
  rw [s.eq] at h
  refine h.sublist ?_
  rw [List.append_assoc]
  exact (List.Sublist.refl a).append (List.sublist_append_right m b)
theorem Spl.get {l a m b : List Rw} {k : ByteArray} (s : Spl l k a m b) {i : Nat} (hi : i < l.length) : (ltS (l.getD i (⟨#[]⟩, 0)).1 k = decide (i < a.length)) ∧ (decide ((l.getD i (⟨#[]⟩, 0)).1 = k) = (decide (i = a.length) && !m.isEmpty)) := by
  have hl : l.length = a.length + m.length + b.length := by rw [s.eq]; simp only [List.length_append]
  have hml : m.length ≤ 1 := by rcases s.mid with h | ⟨v, h⟩ <;> rw [h] <;> simp
  have hg : l.getD i (⟨#[]⟩, 0) = (a ++ m ++ b).getD i (⟨#[]⟩, 0) := by rw [← s.eq]
  rw [hg, List.getD_eq_getElem?_getD]
  by_cases c1 : i < a.length
  · rw [List.append_assoc, List.getElem?_append_left c1, List.getElem?_eq_getElem c1, Option.getD_some]
    have hlt := s.lo _ (List.getElem_mem c1)
    rw [hlt, decide_eq_true c1, decide_eq_false (ltS_ne hlt), decide_eq_false (by omega : ¬ i = a.length)]
    exact ⟨rfl, rfl⟩
  · rw [decide_eq_false c1]
    by_cases c2 : i < a.length + m.length
    · rcases s.mid with h | ⟨v, h⟩
      · rw [h] at c2; simp at c2; omega
      · have hi0 : i = a.length := by rw [h] at c2; simp at c2; omega
        subst hi0
        rw [h, List.getElem?_append_left (by simp), List.getElem?_append_right (Nat.le_refl _), Nat.sub_self]
        simp only [List.getElem?_cons_zero, Option.getD_some, ltS_irr, decide_true, List.isEmpty_cons]
        exact ⟨trivial, rfl⟩
    · rw [List.getElem?_append_right (by simp; omega)]
      have hb : i - (a ++ m).length < b.length := by rw [List.length_append]; omega
      rw [List.getElem?_eq_getElem hb, Option.getD_some]
      have hgt := s.hi _ (List.getElem_mem hb)
      rw [ltS_asym hgt, decide_eq_false (fun e => ltS_ne hgt e.symm)]
      refine ⟨rfl, ?_⟩
      rcases s.mid with h | ⟨v, h⟩
      · rw [h]; simp
      · rw [h] at c2
        rw [decide_eq_false (by simp at c2; omega)]; rfl
/-! ### slices.Insert at this program -/
def insP_ren : Go.Shelf.Ren := ⟨fun | 22 => 56 | 29 => 75 | 30 => 76 | n => n, fun | 24 => 45 | 9 => 94 | 3 => 3 | 4 => 4 | 0 => 0 | n => n, fun | n => n⟩
theorem insP : Go.Proofs.InsLay Try.prog insP_ren 2 24 (((Try.prog.info? 94).getD default).zero.getD default) := {
  mixed := by kernel_rfl
  f22 := ⟨Try.f56.name, by decide, Try.func56.trans (congrArg some (by kernel_rfl))⟩
  ov := fun x y w b h => by
    show (callFunc 75 #[x, y]).run Try.prog w = _
    rw [run_callFunc_extern Try.func75 (by kernel_rfl) (by kernel_rfl) (by kernel_rfl) (e := Extern.SlicesOverlaps.overlaps #[(insP_ren.t 24), (insP_ren.t 24)] #[(insP_ren.t 4)]) (by kernel_rfl), h]
    rfl
  t0 := Try.underlying0
  a0 := Try.isAgg0
  z0 := Try.sizeOf0
  v0 := Try.zeroValue0
  t3 := Try.underlying3
  a3 := Try.isAgg3
  z3 := Try.sizeOf3
  v3 := Try.zeroValue3
  t4 := Try.underlying4
  a4 := Try.isAgg4
  z4 := Try.sizeOf4
  v4 := Try.zeroValue4
  t24 := Try.underlying45
  a24 := Try.isAgg45
  z24 := Try.sizeOf45
  v24 := Try.zeroValue45
  z9 := Try.sizeOf94
  i9 := by kernel_rfl }
abbrev prI : CallT := insPr 56 2 24 (clonePr clones)
abbrev prJ : CallT → CallT := fun _ => prI
theorem prJ_ok : PrOK Try.prog prJ := insPr_ok insP rfl (by kernel_rfl) (by decide) (by decide) (by decide) (by decide) ⟨Try.f56, _, Try.func56, rfl, by kernel_rfl⟩ pr_ok
theorem prJ_mono : PrMono prJ := const_mono
abbrev Qn (n f : Nat) (vs : List FV) (bs : List Blk) (v : FV) (os : List Blk) : Prop := ∀ m, n ≤ m → play real (lookT tab) prJ m f vs bs = some (v, os)
theorem playQ {f : Nat} {vf : VFn} {vs : List FV} {bs : List Blk} {v : FV} {os : List Blk} (n : Nat) (hT : lookT tab f = some vf) (hlen : Nat.beq (lenF vs) vf.np = true)
    (h : ∀ A call, A = real → call = play real (lookT tab) prJ n → wpV A call (iterN n) vf.body ⟨lenH bs, padE vf.nt vs, bs⟩ (finQ A vf (v, os))) : Qn (n + 1) f vs bs v os := by
  obtain ⟨ex, s, h1, h2⟩ := h real _ rfl rfl
  have h0 : play real (lookT tab) prJ (n + 1) f vs bs = some (v, os) := by
    simp only [play, hT, bodyV, hlen, cond_true, h1, Option.bind_some]; exact h2
  exact fun m hm => play_mono prJ_mono hm _ _ _ _ h0
theorem awk : ∃ k, Qn k 13 [] [] (bl true) [] := by
  have h : play real (lookT tab) prJ 200 13 [] [] = some (bl true, []) := by kernel_rfl
  exact ⟨200, fun m hm => play_mono prJ_mono hm _ _ _ _ h⟩
theorem insF_e (a zs : List Rw) (i : Nat) (w : Rw) (hi : i ≤ a.length) : insF (eRs (a ++ zs)) a.length i [.str w.1, .int .i64 w.2] = eRs ((a.take i ++ w :: a.drop i) ++ zs.drop 1) := by
  unfold insF rSeg eRs
  rw [List.map_append, List.map_append, List.map_append, List.map_cons, List.map_take, List.map_drop, List.map_drop, List.drop_zero]
  generalize hw : (fun p : Rw => [IV.str p.1, IV.int IntKind.i64 p.2]) = f
  have hfw : f w = [IV.str w.1, IV.int IntKind.i64 w.2] := by rw [← hw]
  have hl : (a.map f).length = a.length := by simp
  have t1 : List.take (a.length - i) (List.drop i (List.map f a)) = List.drop i (List.map f a) := List.take_of_length_le (by simp)
  have t2 : List.drop (a.length + 1) (List.map f a) = [] := List.drop_of_length_le (by simp)
  rw [List.take_append_of_le_length (by omega), List.drop_append_of_le_length (by omega), List.take_append_of_le_length (by rw [List.length_drop]; omega), t1, List.drop_append, t2, hl, ← hfw]
  simp
theorem q56 (a zs : List Rw) (i : Nat) (w : Rw) (t g : Bool) (hi : i ≤ a.length) (ha : a.length ≤ 1000000) : Qn 1 56 [.one (.slo 0 0 a.length), .one (.iv (.int .i64 (i : Nat))), .one (.iv (.sl t 2 [[.str w.1, .int .i64 w.2]]))] [.arr false g 2 (eRs (a ++ zs))] (.one (.slo 0 0 (a.length + 1))) [.arr false true 2 (eRs ((a.take i ++ w :: a.drop i) ++ zs.drop 1))] := by
  intro m hm
  obtain ⟨m, rfl⟩ : ∃ k, m = k + 1 := ⟨m - 1, by omega⟩
  have hT : lookT tab 56 = none := rfl
  simp only [play, hT]
  rw [← insF_e a zs i w hi]
  show insPr 56 2 24 (clonePr clones) 56 _ _ = _
  unfold insPr
  rw [show Nat.beq 56 56 = true from rfl, cond_true]
  show (if okE 2 2 = true ∧ okE 2 2 = true ∧ 0 ≤ ((i : Nat) : Int) ∧ ((i : Nat) : Int) ≤ (a.length : Int) ∧ a.length ≤ (eRs (a ++ zs)).length ∧ (a.length + 1) * 24 ≤ 140737488355328 then some (FV.one (.slo 0 0 (a.length + 1)), [Blk.arr false true 2 (insF (eRs (a ++ zs)) a.length ((i : Nat) : Int).toNat [.str w.1, .int .i64 w.2])]) else none) = _
  rw [if_pos ⟨rfl, rfl, by omega, by omega, by simp [eRs], by omega⟩, Int.toNat_natCast]
end Go.Proofs.Ytlbmknejhmmjnaa
