/- Lists of events, written and read: the law of lists. (Begun, not tried.) -/
import Derived.Test.YtomchclmnmhjaaaELHG
set_option linter.unusedSimpArgs false
set_option linter.unusedVariables false
set_option maxRecDepth 100000
set_option maxHeartbeats 1000000
set_option cbv.maxSteps 10000000
namespace Go.Proofs.Ytomchclmnmhjaaa
open Go GoV

theorem q54 : ∃ k, Pn k 54 [] [] (bl true) [] := by
  have h : Pl 54 [] (bl true) [] := ⟨100, by kernel_rfl⟩
  exact h.at pr_mono
theorem evS_gone (bs : List Nat) (s : RS) : (evS bs s).1.gone.length ≤ 1000 := by
  have h : (r8 bs s).1.length ≤ 1000 := by
    have := gonGo_len (bs := bs) (n := (r7 bs s).1) (l := []) (s := (r7 bs s).2)
    have h7 : (r7 bs s).1 = 0 ∨ ((r7 bs s).1 : Int) ≤ 120 := (numS_lt bs 120 (r6 bs s).2).2
    simp only [List.length_nil] at this
    show (gonGo bs (r7 bs s).1 [] (r7 bs s).2).1.length ≤ 1000
    omega
  unfold evS
  split
  · exact Nat.zero_le _
  · split
    · exact Nat.zero_le _
    · exact h
theorem evN_gone (bs : List Nat) (s : RS) : ∀ m e, e ∈ (evN bs s m).1 → e.gone.length ≤ 1000
  | 0, e, he => by simp [evN] at he
  | m + 1, e, he => by
    simp only [evN, List.mem_append, List.mem_cons, List.not_mem_nil, or_false] at he
    rcases he with h | rfl
    · exact evN_gone bs s m e h
    · exact evS_gone bs _
theorem okL_gone {l : List Ev} (h : ∀ e, e ∈ l → e.gone.length ≤ 1000) : ∀ x, x ∈ okL l → x.2.2 = 2 ∧ x.1.gone.length ≤ 1000 := by
  intro x hx
  obtain ⟨e, he, rfl⟩ := List.mem_map.1 hx
  exact ⟨rfl, h e he⟩
theorem law16 (B C : List Nat) (l : List Ev) (most : Int) (hB : B.length ≤ 140737488351232) (hC : C.length ≤ 140737488351232) (hC8 : ∀ b, b ∈ C → b < 256) (hd : ∀ e, e ∈ l → e.doc.size ≤ 1000000000000000) :
    ∃ n, play real (lookT tab) (fun _ => clonePr clones) n 16 [.one (.iv (.sl false 1 (by8 B))), .one (.iv (.sl false 8 (l.map evE))), .one (.iv (.sl false 1 (by8 C))), i64 most] [] = some (bl true, []) := by
  obtain ⟨ka, ha⟩ := q54
  by_cases hf : fewB l = true ∧ C.length ≤ 4096
  · obtain ⟨hfew, hcl⟩ := hf
    have hl : l.length ≤ 80 := by
      unfold fewB at hfew
      simp only [Bool.and_eq_true, decide_eq_true_eq] at hfew
      exact hfew.1
    have hg : ∀ e, e ∈ l → e.doc.size ≤ 1000000000000000 ∧ e.gone.length ≤ 1000 := fun e he => by
      unfold fewB at hfew
      simp only [Bool.and_eq_true] at hfew
      have := fewGo_all hfew.2 e he
      exact ⟨hd e he, by omega⟩
    obtain ⟨c, S0, h0⟩ : ∃ c S0, numS C most (.ok false 0 C.length) = (c, S0) := ⟨_, _, rfl⟩
    obtain ⟨m, m1, m2, m3⟩ := rounds C S0 c
    have hm : m ≤ C.length + 1 := by
      have := numS_fits (bs := C) (most := most) (s := .ok false 0 C.length) (Nat.zero_add _)
      rw [h0] at this
      cases S0 with
      | ok f o n => have : o + n = C.length := this; simp only [RS.left] at m1; omega
      | er f e => simp only [RS.left] at m1; omega
    obtain ⟨k2, h2⟩ := n72 B false false 1 (.inr rfl) l (by omega) hg (by omega)
    obtain ⟨k3, h3⟩ := n73 B false false 1 (.inr rfl) l (by omega) hg (by omega)
    obtain ⟨k6, h6⟩ := n73 B true false 1 (.inr rfl) l (by omega) hg (by omega)
    obtain ⟨k4, h4⟩ := n74 C hC8 (by omega) most false 0 C.length (Nat.zero_add _) c S0 h0 m hm m2 m3
    obtain ⟨k5, h5⟩ := n75 C hC8 (by omega) most false 0 C.length (Nat.zero_add _) c S0 h0 m hm m2 m3
    obtain ⟨n, hn⟩ : ∃ n, n = ka + k2 + k3 + k4 + k5 + k6 + 20000 := ⟨_, rfl⟩
    refine ⟨n + 1, playN n rfl rfl (fun A call hA hcall => ?_) (n + 1) (Nat.le_refl _)⟩
    obtain ⟨pl, mi, ml, nt, tn, ad, sb, K⟩ := kit hA
    obtain ⟨E, ix, sn, ll, cc, sg, D⟩ := lkit hA K ((0, 0) : Int × Int) (fun p => [.int .i64 p.1, .int .i64 p.2]) 16
    have r53 : ∀ t, call 53 [.one (.iv (.sl true 1 [[.sl t 8 (l.map evE)]]))] [] = some (bl (fewB l), []) := fun t => by rw [hcall]; exact n53 l t n (by omega)
    rw [hfew] at r53
    have r54 : call 54 [] [] = some (bl true, []) := by rw [hcall]; exact ha n (by omega)
    have rB : call 49 [.one (.iv (.sl false 1 (by8 B)))] [] = some (.one (.slo 0 0 B.length), [.arr false false 1 (by8 B)]) := by rw [hcall]; exact n49 B false 1 (.inr rfl) (by omega) n (by omega)
    have rC : call 49 [.one (.iv (.sl false 1 (by8 C)))] [] = some (.one (.slo 0 0 C.length), [.arr false false 1 (by8 C)]) := by rw [hcall]; exact n49 C false 1 (.inr rfl) (by omega) n (by omega)
    have r72 := h2 n (by omega)
    have r73 : ∀ t, call 73 [.one (.iv (.sl t 1 (by8 B))), .one (.iv (.sl false 8 (l.map evE)))] [] = some (.one (.slo 0 0 (B ++ evsA l).length), [.arr false false 1 (by8 (B ++ evsA l))]) := fun t => by rw [hcall]; cases t; exact h3 n (by omega); exact h6 n (by omega)
    have r74 := h4 n (by omega)
    have r75 := h5 n (by omega)
    rw [← hcall] at r72 r74 r75
    have r50 : ∀ (a : List Nat) (t t2 : Bool), call 50 [.one (.iv (.sl t 1 (by8 a))), .one (.iv (.sl t2 1 (by8 a)))] [] = some (bl true, []) := fun a t t2 => by rw [hcall]; exact n50 a t t2 1 1 (.inr rfl) (.inr rfl) n (by omega)
    have r50x := r50 (B ++ evsA l)
    have r50b := r50 B
    have r45 : call 45 [.one (.iv (.sl false 1 (by8 C)))] [] = some (rp, rdS true (by8 C) (.ok false 0 C.length)) := by
      rw [hcall]
      have := n45 (by8 C) false 1 (.inr rfl) (by rw [by8_len]; omega) n (by omega)
      rw [by8_len] at this
      exact this
    have r47 : ∀ s : RS, call 47 [rp] (rdS s.isOk (by8 C) s) = some (i64 s.err, rdS s.isOk (by8 C) s) := fun s => by rw [hcall]; exact n47 _ s n (by omega)
    have r48 : ∀ s : RS, call 48 [rp] (rdS s.isOk (by8 C) s) = some (i64 s.left, rdS s.isOk (by8 C) s) := fun s => by rw [hcall]; exact n48 _ s n (by omega)
    have hml : (evN C S0 m).1.length = m := evN_len C S0 m
    have r65 : ∀ t t2, call 65 [.one (.iv (.sl t 8 ((okL (evN C S0 m).1).map exI))), .one (.iv (.sl t2 8 ((okL (evN C S0 m).1).map exI)))] [] = some (bl true, []) := fun t t2 => by
      rw [hcall]
      exact n65 _ t t2 8 8 (.inl rfl) (.inl rfl) (by rw [okL, List.length_map, hml]; omega) (okL_gone (evN_gone C S0 m)) n (by omega)
    have r65b : ∀ t z t2 z2, (z = 8 ∨ z = 0) → (z2 = 8 ∨ z2 = 0) → call 65 [.one (.iv (.sl t z [])), .one (.iv (.sl t2 z2 []))] [] = some (bl true, []) := fun t z t2 z2 hz hz2 => by
      rw [hcall]
      exact n65 [] t t2 z z2 (hz.imp_right fun h => ⟨h, rfl⟩) (hz2.imp_right fun h => ⟨h, rfl⟩) (by simp) (fun x hx => by simp at hx) n (by omega)
    have lC : A .len (by8 C) = (C.length : Int) := by rw [hA, real_len, by8_len]
    have sB := seg8 hA B
    have sC := seg8 hA C
    have sX := seg8 hA (B ++ evsA l)
    have hC0 : (C.length : Int) ≤ 4096 := by omega
    have hst := evN_fits (bs := C) (s := S0) (by have := numS_fits (bs := C) (most := most) (s := .ok false 0 C.length) (Nat.zero_add _); rw [h0] at this; exact this) m
    generalize hp : evN C S0 m = p at *
    obtain ⟨pl0, ps⟩ := p
    dsimp only at hml r65 hst
    cases ps with
    | ok f o nn =>
      rw [show lsF 2 (pl0, .ok f o nn) = .one (.slo 2 0 pl0.length) from rfl, show lsK (pl0, .ok f o nn) = [.arr false false 8 ((okL pl0).map exI)] from rfl] at r74
      rw [show lsG 2 (pl0, .ok f o nn) = .one (.slo 2 0 pl0.length) from rfl, show lsH (pl0, .ok f o nn) = [.arr false false 8 ((okL pl0).map exI)] from rfl] at r75
      have q47 := r47 (.ok f o nn)
      have q48 := r48 (.ok f o nn)
      have sL : A .seg ((okL pl0).map exI) 0 pl0.length = (okL pl0).map exI := seg0 hA (by rw [List.length_map, okL, List.length_map])
      have lo : A .ofN nn = (nn : Int) := by rw [hA]; rfl
      dsimp only [rdS, rdR, RS.isOk, RS.err, RS.left, cond_true, List.append, by8_app] at *
      generalize (okL pl0).map exI = L at *
      generalize pl0.length = pn at *
      generalize (nn : Int) = NN at *
      generalize (C.length : Int) = CL at *
      generalize C.length = cl at *
      generalize by8 C = cs at *
      generalize by8 (B ++ evsA l) = xs at *
      generalize (B ++ evsA l).length = xl at *
      generalize by8 B = bs at *
      generalize B.length = bln at *
      generalize l.map evE = le at *
      apply wpV_seq; refine wpV_ofH (by ((try (conv => lhs; cbv)); (exact rfl))) ?_
      apply wpV_seq; refine wpV_ofH (by ((try (conv => lhs; cbv)); (repeat ((first | (rewrite [r53]) | (rewrite [lC]) | (rewrite [K.gtF]; rotate_left; focus ((try simp only [K.df, D.df, true_and, and_true]) <;> omega))); (try (conv => lhs; cbv)))); (exact rfl))) ?_
      apply wpV_seq; refine wpV_ofH (by ((try (conv => lhs; cbv)); (repeat ((first | (rewrite [rB])); (try (conv => lhs; cbv)))); (exact rfl))) ?_
      apply wpV_seq; refine wpV_ofH (by ((try (conv => lhs; cbv)); (repeat ((first | (rewrite [r45]) | (rewrite [rC])); (try (conv => lhs; cbv)))); (exact rfl))) ?_
      apply wpV_seq; refine wpV_ofH (by ((try (conv => lhs; cbv)); (repeat ((first | (rewrite [r72]) | (rewrite [r73]) | (rewrite [r50x]) | (rewrite [r50b]) | (rewrite [sB]) | (rewrite [sX]) | (rewrite [r74]) | (rewrite [r75]) | (rewrite [sL]) | (rewrite [r65]) | (rewrite [q47]) | (rewrite [q48]) | (rewrite [lo]) | (rewrite [r54]) | (rewrite [K.eqT]; rotate_left; focus ((try simp only [K.df, D.df, true_and, and_true]) <;> omega))); (try (conv => lhs; cbv)))); (exact rfl))) ?_
      refine wpV_ofH (by ((try (conv => lhs; cbv)); (exact rfl))) ?_
      (show finV _ _ _ = some _; ((try (conv => lhs; cbv)); (try (with_reducible rfl))); (try rfl))
    | er f e =>
      have hez : e ≠ 0 := hst
      have q47 := r47 (.er f e)
      have q48 := r48 (.er f e)
      have l0 : A .len [] = 0 := by rw [hA]; rfl
      have cz : A .cmp .eql (Int.ofNat 0) 0 = true := by rw [hA]; rfl
      rw [show lsF 2 (pl0, .er f e) = .one (.iv (.sl true 0 [])) from rfl, show lsK (pl0, .er f e) = [] from rfl, List.append_nil] at r74
      by_cases hz : pl0.length = 0
      · obtain rfl : pl0 = [] := by cases pl0 with | nil => rfl | cons _ _ => simp at hz
        rw [show lsG 2 ([], .er f e) = .one (.slo 2 0 0) from rfl, show lsH ([], .er f e) = [.arr false false 8 []] from rfl] at r75
        have q65 : ∀ t2, call 65 [.one (.iv (.sl true 0 [])), .one (.iv (.sl t2 8 []))] [] = some (bl true, []) := fun t2 => r65b true 0 t2 8 (.inr rfl) (.inl rfl)
        have s0 : A .seg [] 0 0 = [] := by rw [hA]; rfl
        dsimp only [rdS, rdR, RS.isOk, RS.err, RS.left, cond_true, cond_false, List.append, by8_app] at *
        generalize (C.length : Int) = CL at *
        generalize C.length = cl at *
        generalize by8 C = cs at *
        generalize by8 (B ++ evsA l) = xs at *
        generalize (B ++ evsA l).length = xl at *
        generalize by8 B = bs at *
        generalize B.length = bln at *
        generalize l.map evE = le at *
        apply wpV_seq; refine wpV_ofH (by ((try (conv => lhs; cbv)); (exact rfl))) ?_
        apply wpV_seq; refine wpV_ofH (by ((try (conv => lhs; cbv)); (repeat ((first | (rewrite [r53]) | (rewrite [lC]) | (rewrite [K.gtF]; rotate_left; focus ((try simp only [K.df, D.df, true_and, and_true]) <;> omega))); (try (conv => lhs; cbv)))); (exact rfl))) ?_
        apply wpV_seq; refine wpV_ofH (by ((try (conv => lhs; cbv)); (repeat ((first | (rewrite [rB])); (try (conv => lhs; cbv)))); (exact rfl))) ?_
        apply wpV_seq; refine wpV_ofH (by ((try (conv => lhs; cbv)); (repeat ((first | (rewrite [r45]) | (rewrite [rC])); (try (conv => lhs; cbv)))); (exact rfl))) ?_
        apply wpV_seq; refine wpV_ofH (by ((try (conv => lhs; cbv)); (repeat ((first | (rewrite [r72]) | (rewrite [r73]) | (rewrite [r50x]) | (rewrite [r50b]) | (rewrite [sB]) | (rewrite [sX]) | (rewrite [r74]) | (rewrite [r75]) | (rewrite [s0]) | (rewrite [q65]) | (rewrite [q47]) | (rewrite [q48]) | (rewrite [l0]) | (rewrite [cz]) | (rewrite [r54]) | (rewrite [K.eqT]; rotate_left; focus ((try simp only [K.df, D.df, true_and, and_true]) <;> omega))); (try (conv => lhs; cbv)))); (exact rfl))) ?_
        refine wpV_ofH (by ((try (conv => lhs; cbv)); (exact rfl))) ?_
        (show finV _ _ _ = some _; ((try (conv => lhs; cbv)); (try (with_reducible rfl))); (try rfl))
      · have hnz : ¬ ((RS.er f e).isOk = true ∨ pl0.length = 0) := by simp [RS.isOk, hz]
        rw [show lsG 2 (pl0, .er f e) = .one (.iv (.sl true 0 [])) from if_neg hnz, show lsH (pl0, .er f e) = [] from if_neg hnz, List.append_nil] at r75
        have q65 : call 65 [.one (.iv (.sl true 0 [])), .one (.iv (.sl true 0 []))] [] = some (bl true, []) := r65b true 0 true 0 (.inr rfl) (.inr rfl)
        dsimp only [rdS, rdR, RS.isOk, RS.err, RS.left, cond_true, cond_false, List.append, by8_app] at *
        generalize (C.length : Int) = CL at *
        generalize C.length = cl at *
        generalize by8 C = cs at *
        generalize by8 (B ++ evsA l) = xs at *
        generalize (B ++ evsA l).length = xl at *
        generalize by8 B = bs at *
        generalize B.length = bln at *
        generalize l.map evE = le at *
        apply wpV_seq; refine wpV_ofH (by ((try (conv => lhs; cbv)); (exact rfl))) ?_
        apply wpV_seq; refine wpV_ofH (by ((try (conv => lhs; cbv)); (repeat ((first | (rewrite [r53]) | (rewrite [lC]) | (rewrite [K.gtF]; rotate_left; focus ((try simp only [K.df, D.df, true_and, and_true]) <;> omega))); (try (conv => lhs; cbv)))); (exact rfl))) ?_
        apply wpV_seq; refine wpV_ofH (by ((try (conv => lhs; cbv)); (repeat ((first | (rewrite [rB])); (try (conv => lhs; cbv)))); (exact rfl))) ?_
        apply wpV_seq; refine wpV_ofH (by ((try (conv => lhs; cbv)); (repeat ((first | (rewrite [r45]) | (rewrite [rC])); (try (conv => lhs; cbv)))); (exact rfl))) ?_
        apply wpV_seq; refine wpV_ofH (by ((try (conv => lhs; cbv)); (repeat ((first | (rewrite [r72]) | (rewrite [r73]) | (rewrite [r50x]) | (rewrite [r50b]) | (rewrite [sB]) | (rewrite [sX]) | (rewrite [r74]) | (rewrite [r75]) | (rewrite [q65]) | (rewrite [q47]) | (rewrite [q48]) | (rewrite [l0]) | (rewrite [cz]) | (rewrite [r54]) | (rewrite [K.eqT]; rotate_left; focus ((try simp only [K.df, D.df, true_and, and_true]) <;> omega))); (try (conv => lhs; cbv)))); (exact rfl))) ?_
        refine wpV_ofH (by ((try (conv => lhs; cbv)); (exact rfl))) ?_
        (show finV _ _ _ = some _; ((try (conv => lhs; cbv)); (try (with_reducible rfl))); (try rfl))
  · obtain ⟨n, hn⟩ : ∃ n, n = ka + 20000 := ⟨_, rfl⟩
    refine ⟨n + 1, playN n rfl rfl (fun A call hA hcall => ?_) (n + 1) (Nat.le_refl _)⟩
    obtain ⟨pl, mi, ml, nt, tn, ad, sb, K⟩ := kit hA
    have r53 : ∀ t, call 53 [.one (.iv (.sl true 1 [[.sl t 8 (l.map evE)]]))] [] = some (bl (fewB l), []) := fun t => by rw [hcall]; exact n53 l t n (by omega)
    have r54 : call 54 [] [] = some (bl true, []) := by rw [hcall]; exact ha n (by omega)
    have lC : A .len (by8 C) = (C.length : Int) := by rw [hA, real_len, by8_len]
    cases hw : fewB l with
    | false =>
      rw [hw] at r53
      generalize l.map evE = le at *
      generalize by8 C = cs at *
      generalize by8 B = bs at *
      clear lC
      refine wpV_ofH (by ((try (conv => lhs; cbv)); (repeat ((first | (rewrite [r53]) | (rewrite [r54])); (try (conv => lhs; cbv)))); (exact rfl))) ?_
      (show finV _ _ _ = some _; ((try (conv => lhs; cbv)); (try (with_reducible rfl))); (try rfl))
    | true =>
      rw [hw] at r53
      have hC0 : (4096 : Int) < C.length := by
        have : ¬ C.length ≤ 4096 := fun h => hf ⟨hw, h⟩
        omega
      generalize (C.length : Int) = CL at *
      generalize l.map evE = le at *
      generalize by8 C = cs at *
      generalize by8 B = bs at *
      refine wpV_ofH (by ((try (conv => lhs; cbv)); (repeat ((first | (rewrite [r53]) | (rewrite [lC]) | (rewrite [r54]) | (rewrite [K.gtT]; rotate_left; focus ((try simp only [K.df, D.df, true_and, and_true]) <;> omega))); (try (conv => lhs; cbv)))); (exact rfl))) ?_
      (show finV _ _ _ = some _; ((try (conv => lhs; cbv)); (try (with_reducible rfl))); (try rfl))
/-! ### Shapes -/
def iSh : Sh := .int .i64
def dotSh : Sh := .pair iSh (.pair iSh .unit)
def evSh : Sh := .pair dotSh (.pair iSh (.pair iSh (.pair .str (.pair iSh (.pair .str (.pair (.sl dotSh 16) .unit))))))
def evsSh : Sh := .sl evSh 96
def byteSh : Sh := .sl (.int .u8) 1
theorem ty_dots : ∀ {es : List (List IV)}, (∀ c, c ∈ es → TyI dotSh c) → ∃ l : List (Int × Int), es = eDs l
  | [], _ => ⟨[], rfl⟩
  | c :: r, h => by
    obtain ⟨l, rfl⟩ := ty_dots (es := r) fun c hc => h c (by simp [hc])
    obtain ⟨a1, b1, rfl, ⟨x, rfl, _⟩, ⟨a2, b2, rfl, ⟨y, rfl, _⟩, rfl⟩⟩ := h c (by simp)
    exact ⟨(x, y) :: l, rfl⟩
theorem ty_ev {c : List IV} (h : TyI evSh c) : ∃ e : Ev, c = evA e ∧ e.doc.size ≤ 1000000000000000 := by
  obtain ⟨y1, z1, rfl, ⟨a1, b1, rfl, ⟨r, rfl, _⟩, ⟨a2, b2, rfl, ⟨n, rfl, _⟩, rfl⟩⟩, ⟨y2, z2, rfl, ⟨t, rfl, _⟩, ⟨y3, z3, rfl, ⟨k, rfl, _⟩, ⟨y4, z4, rfl, ⟨d, rfl, hds⟩, ⟨y5, z5, rfl, ⟨f, rfl, _⟩, ⟨y6, z6, rfl, ⟨x, rfl, _⟩, ⟨y7, z7, rfl, ⟨g, rfl, hg, hd⟩, rfl⟩⟩⟩⟩⟩⟩⟩ := h
  obtain ⟨l, rfl⟩ := ty_dots hd
  exact ⟨⟨(r, n), t, k, d, f, x, l⟩, rfl, by unfold reachBytes at hds; dsimp only; omega⟩
theorem ty_evs : ∀ {es : List (List IV)}, (∀ c, c ∈ es → TyI evSh c) → ∃ l : List Ev, es = l.map evE ∧ ∀ e, e ∈ l → e.doc.size ≤ 1000000000000000
  | [], _ => ⟨[], rfl, fun e he => by simp at he⟩
  | c :: r, h => by
    obtain ⟨l, rfl, hl⟩ := ty_evs (es := r) fun c hc => h c (by simp [hc])
    obtain ⟨e, rfl, he⟩ := ty_ev (h c (by simp))
    exact ⟨e :: l, rfl, fun x hx => by
      rcases List.mem_cons.1 hx with rfl | hx
      · exact he
      · exact hl x hx⟩
theorem ty_bytes {xs : List IV} (h : TyI byteSh xs) : ∃ W : List Nat, xs = [.sl false 1 (by8 W)] ∧ W.length ≤ 140737488351232 ∧ ∀ b, b ∈ W → b < 256 := by
  obtain ⟨es, rfl, hl, he⟩ := h
  have : ∃ W : List Nat, es = by8 W ∧ ∀ b, b ∈ W → b < 256 := by
    clear hl
    induction es with
    | nil => exact ⟨[], rfl, fun b hb => by simp at hb⟩
    | cons y r ih =>
      obtain ⟨W, rfl, h8⟩ := ih fun z hz => he z (by simp [hz])
      obtain ⟨n, hn, hw⟩ := he y (by simp)
      have h2 : 0 ≤ n ∧ n < 256 := by
        simp [Lit.wf, IntKind.min, IntKind.max, IntKind.signed, IntKind.bits] at hw
        omega
      refine ⟨n.toNat :: W, ?_, fun b hb => ?_⟩
      · rw [hn]
        simp only [by8, List.map_cons, Int.toNat_of_nonneg h2.1]
      · rcases List.mem_cons.1 hb with rfl | h
        · omega
        · exact h8 b h
  obtain ⟨W, rfl, h8⟩ := this
  rw [by8_len] at hl
  exact ⟨W, rfl, by unfold reachBytes at hl; omega, h8⟩
theorem lawV : ∀ xss, TyA [byteSh, evsSh, byteSh, iSh] xss → ∃ n, play real (lookT tab) (fun _ => clonePr clones) n 16 (argsF [byteSh, evsSh, byteSh, iSh] xss) [] = some (.one (.iv (.bool true)), []) := by
  intro xss h
  rcases xss with _ | ⟨a, _ | ⟨b, _ | ⟨c, _ | ⟨d, _ | ⟨e, r⟩⟩⟩⟩⟩
  · exact h.elim
  · exact h.2.elim
  · exact h.2.2.elim
  · exact h.2.2.2.elim
  · obtain ⟨h1, h2, h3, h4, _⟩ := h
    obtain ⟨B, rfl, hB, _⟩ := ty_bytes h1
    obtain ⟨es, rfl, _, he⟩ := h2
    obtain ⟨l, rfl, hl⟩ := ty_evs he
    obtain ⟨C, rfl, hC, hC8⟩ := ty_bytes h3
    obtain ⟨n, rfl, _⟩ := h4
    exact law16 B C l n hB hC hC8 hl
  · exact h.2.2.2.2.elim
end Go.Proofs.Ytomchclmnmhjaaa
