/- What data is, that a past is read as; going through two lists. -/
import Derived.Test.YtomchclmnmhjaaaPXI
set_option linter.unusedSimpArgs false
set_option linter.unusedVariables false
set_option maxRecDepth 100000
set_option maxHeartbeats 1000000
namespace Go.Proofs.Ytomchclmnmhjaaa
open Go GoV

def iSh : Sh := .int .i64
def dotSh : Sh := .pair iSh (.pair iSh .unit)
def evSh : Sh := .pair dotSh (.pair iSh (.pair iSh (.pair .str (.pair iSh (.pair .str (.pair (.sl dotSh 16) .unit))))))
def vecSh : Sh := .row 64 iSh
def pastSh : Sh := .pair (.sl evSh 96) (.pair vecSh .unit)
theorem ty_int {xs : List IV} (h : TyI iSh xs) : ∃ n, xs = [.int .i64 n] := by
  obtain ⟨n, h, _⟩ := h; exact ⟨n, h⟩
theorem ty_dot {c : List IV} (h : TyI dotSh c) : c = dotC (dR c) (dN c) := by
  obtain ⟨a1, b1, rfl, ⟨r, rfl, _⟩, ⟨a2, b2, rfl, ⟨n, rfl, _⟩, rfl⟩⟩ := h
  rfl
theorem ty_ev {c : List IV} (h : TyI evSh c) : ∃ e : Ev, c = encEv e ∧ (EvOK e ∧ e.b = false) := by
  obtain ⟨y1, z1, rfl, ⟨a1, b1, rfl, ⟨r, rfl, _⟩, ⟨a2, b2, rfl, ⟨n, rfl, _⟩, rfl⟩⟩, ⟨y2, z2, rfl, ⟨t, rfl, _⟩, ⟨y3, z3, rfl, ⟨k, rfl, _⟩, ⟨y4, z4, rfl, ⟨d, rfl, _⟩, ⟨y5, z5, rfl, ⟨f, rfl, _⟩, ⟨y6, z6, rfl, ⟨x, rfl, _⟩, ⟨y7, z7, rfl, ⟨g, rfl, hg, hd⟩, rfl⟩⟩⟩⟩⟩⟩⟩ := h
  exact ⟨⟨r, n, t, k, d, f, x, false, g⟩, rfl, ⟨hg, fun c hc => ty_dot (hd c hc)⟩, rfl⟩
theorem ty_list {α : Type} {enc : α → List IV} {Q : α → Prop} : ∀ {es : List (List IV)}, (∀ c, c ∈ es → ∃ a, c = enc a ∧ Q a) → ∃ l : List α, es = l.map enc ∧ ∀ a, a ∈ l → Q a
  | [], _ => ⟨[], rfl, by simp⟩
  | c :: r, h => by
    obtain ⟨a, rfl, ha⟩ := h c (by simp)
    obtain ⟨l, rfl, hl⟩ := ty_list (es := r) (enc := enc) (Q := Q) fun c hc => h c (by simp [hc])
    exact ⟨a :: l, rfl, by simpa using ⟨ha, hl⟩⟩
theorem ty_vec {xs : List IV} (h : TyI vecSh xs) : ∃ v : List Int, xs = [.arr 64 (vec v)] ∧ v.length = 64 := by
  obtain ⟨ys, rfl, hl, hy⟩ := h
  have : ∃ v : List Int, ys = vec v := by
    clear hl
    induction ys with
    | nil => exact ⟨[], rfl⟩
    | cons y r ih =>
      obtain ⟨n, hn⟩ := ty_int (hy y (by simp))
      obtain ⟨v, rfl⟩ := ih fun z hz => hy z (by simp [hz])
      simp only [List.cons.injEq, and_true] at hn
      subst hn
      exact ⟨n :: v, rfl⟩
  obtain ⟨v, rfl⟩ := this
  exact ⟨v, rfl, by simpa [vec] using hl⟩
theorem ty_evs {xs : List IV} (h : TyI (.sl evSh 96) xs) : ∃ l : List Ev, xs = [.sl false 8 (l.map encEv)] ∧ l.length * 96 ≤ reachBytes ∧ ∀ e, e ∈ l → EvOK e := by
  obtain ⟨es, rfl, he, hes⟩ := h
  obtain ⟨l, rfl, hl⟩ := ty_list (enc := encEv) (fun c hc => ty_ev (hes c hc))
  exact ⟨l, rfl, by simpa using he, fun e he => (hl e he).1⟩
theorem ty_past {xs : List IV} (h : TyI pastSh xs) : ∃ (l : List Ev) (v : List Int), xs = [.sl false 8 (l.map encEv), .arr 64 (vec v)] ∧ v.length = 64 ∧ l.length * 96 ≤ reachBytes ∧ ∀ e, e ∈ l → EvOK e := by
  obtain ⟨y1, z1, rfl, h1, ⟨y2, z2, rfl, hv, rfl⟩⟩ := h
  obtain ⟨v, rfl, hvl⟩ := ty_vec hv
  obtain ⟨l, rfl, hl⟩ := ty_evs h1
  exact ⟨l, v, rfl, hvl, hl⟩

theorem p53b (f1 f2 : Bool) (l k : List Ev) (hl : l.length ≤ 100000000000000000) (hk : k.length ≤ 100000000000000000) : ∃ b, Pl 53 [.one (.iv (.sl true 1 [[.sl f1 8 (l.map encEv)], [.sl f2 8 (k.map encEv)]]))] (bl b) [] := by
  have : ∃ r, (∃ b, r = (bl b, ([] : List Blk))) ∧ Plays (lookT tab) (fun _ => clonePr clones) 53 [.one (.iv (.sl true 1 [[.sl f1 8 (l.map encEv)], [.sl f2 8 (k.map encEv)]]))] [] r := by
    refine Plays.wpE (vf := v53) rfl rfl ⟨l.length + k.length + 3, fun A call hA _ => ?_⟩
    subst hA
    have c2 : ∀ i, i < 2 → i = 0 ∨ i = 1 := fun i h => by omega
    refine w53 real call (l.length + k.length + 3) (l.length + k.length) 2 (by omega) (by omega) [[.sl f1 8 (l.map encEv)], [.sl f2 8 (k.map encEv)]] (fun i => if i = 0 then l.map encEv else k.map encEv) (fun i => if i = 0 then f1 else f2) (fun i => if i = 0 then l.length else k.length) (fun i hi => ?_)
      (fun i j => if i = 0 then l.getD j d0 else k.getD j d0) (fun i => (i : Int)) rfl (fun i hi => ?_) ?_ (fun i hi => ?_) (fun i hi j hj => ?_) (fun i hi => ?_) (fun i hi j hj => ?_) (fun i hi => inc_real (by omega))
    · rcases c2 i hi with rfl | rfl <;> simp
    · rw [lss_real, len_real]; simp; omega
    · rw [lss_real, len_real]; simp
    · rcases c2 i hi with rfl | rfl <;> rfl
    · rw [lss_real, len_real]
      rcases c2 i hi with rfl | rfl
      · simpa using hj
      · simpa using hj
    · rw [lss_real, len_real]
      rcases c2 i hi with rfl | rfl <;> simp
    · rcases c2 i hi with rfl | rfl
      · simp only [if_true] at hj ⊢
        rw [get_ev hj, getD_ev hj]
      · simp only [Nat.one_ne_zero, if_false] at hj ⊢
        rw [get_ev hj, getD_ev hj]
  obtain ⟨r, ⟨b, rfl⟩, h⟩ := this
  exact ⟨b, h⟩
end Go.Proofs.Ytomchclmnmhjaaa
