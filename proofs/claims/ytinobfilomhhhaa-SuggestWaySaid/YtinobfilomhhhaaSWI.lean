/- 'SuggestWay': the statement's own code; the statement of all data. -/
import Derived.Test.YtinobfilomhhhaaSWH
set_option linter.unusedSimpArgs false
set_option linter.unusedVariables false
set_option maxRecDepth 100000
set_option maxHeartbeats 8000000
set_option cbv.maxSteps 10000000
namespace Go.Proofs.Ytinobfilomhhhaa
open Go GoV

theorem p10 : Pl 10 [] (bl true) [] := ⟨100, by kernel_rfl⟩
theorem p9 (fa fb : Bool) (al bs : List Int) (hla : al.length ≤ 1000000000) (hlb : bs.length ≤ 1000000000) : Pl 9 [slI fa al, slI fb bs] (bl (decide (al = bs))) [] := by
  by_cases hll : al.length = bs.length
  · obtain ⟨d, hd1, hd2, hd3⟩ := first_fail (p := fun i => gD al i = gD bs i) al.length
    refine Plays.wp (vf := v9) rfl rfl ⟨al.length + 1, fun A call hA hcall => ?_⟩
    obtain ⟨es, hes⟩ : ∃ es, es = encI al := ⟨_, rfl⟩
    obtain ⟨fs, hfs⟩ : ∃ fs, fs = encI bs := ⟨_, rfl⟩
    obtain ⟨ix, hix⟩ : ∃ ix : Nat → Int, ∀ i, ix i = i := ⟨_, fun _ => rfl⟩
    obtain ⟨L, hL⟩ : ∃ L : Int, L = al.length := ⟨_, rfl⟩
    have l1 : A .len es = L := by rw [hA, hes, hL, real_len, encI_len]
    have l2 : A .len fs = L := by rw [hA, hfs, hL, real_len, encI_len, hll]
    have ne : A .cmp .neq L L = false := neF hA rfl
    obtain ⟨r, hr⟩ : ∃ r, r = decide (al = bs) := ⟨_, rfl⟩
    have hr1 : d < al.length → r = false := fun h => by
      rw [hr]
      refine decide_eq_false fun e => ?_
      rcases hd3 with h' | h'
      · omega
      · exact h' (by rw [e])
    have hr2 : d = al.length → r = true := fun h => by
      rw [hr]
      refine decide_eq_true (List.ext_getElem hll fun j h1 h2 => ?_)
      have := hd2 j (by omega)
      simpa [gD, h1, h2] using this
    dsimp only [slI]
    rw [← hr, ← hes, ← hfs]
    clear hr
    apply wpV_seq; refine wpV_of (by ((conv => lhs; cbv); (try (with_reducible rfl)))) ?_
    apply wpV_seq; refine wpV_of (by ((conv => lhs; cbv); (repeat ((first | rewrite [l1] | rewrite [l2] | rewrite [ne]); (try (conv => lhs; cbv)))); (try (with_reducible rfl)))) ?_
    apply wpV_seq; apply wpV_seq; refine wpV_of (by ((conv => lhs; cbv); (try (with_reducible rfl)))) ?_
    apply wpV_block
    refine wpV_loop al.length (fun i st => i ≤ d ∧ st = ⟨0, [.one (.iv (.sl fa 1 es)), .one (.iv (.sl fb 1 fs)), u, u, u, u, u, u, u, u, u, u, i64 L, i64 (ix i), u, u, u, u, u, u, u, u, u, u, u, u], []⟩) (by omega) (by ((conv => lhs; cbv); (repeat ((first | rewrite [l1]); (try (conv => lhs; cbv)))); (try (with_reducible rfl)))) ⟨Nat.zero_le _, by rw [hix, l1]; rfl⟩ ?_
    rintro i hi st ⟨hid, rfl⟩
    by_cases him : i < al.length
    · have c1 : A .cmp .lss (ix i) L = true := ltT hA (by rw [hix]; omega)
      have g1 := getI hA hes (hix i) him
      have g2 := getI hA hfs (hix i) (by omega)
      have inc : A .ar .add .i64 (ix i) 1 = ix (i + 1) := addR hA (by rw [hix, hix]; omega) (by rw [hix]; omega)
      by_cases hd : i = d
      · obtain rfl := hr1 (by omega)
        have n1 : A .cmp .neq (gD al i) (gD bs i) = true := neT hA (by rcases hd3 with h | h
                                                                       · omega
                                                                       · rw [hd]; exact h)
        generalize gD al i = x1 at *
        generalize gD bs i = y1 at *
        (refine wpV_of (by ((conv => lhs; cbv); (repeat ((first | rewrite [c1] | rewrite [g1] | rewrite [g2] | rewrite [n1]); (try (conv => lhs; cbv)))); (try (with_reducible rfl)))) ?_; (show finV _ _ _ = some _; ((conv => lhs; cbv); (repeat ((first | rewrite [c1] | rewrite [g1] | rewrite [g2] | rewrite [n1]); (try (conv => lhs; cbv)))); (try (with_reducible rfl))); (try rfl)))
      · have n1 : A .cmp .neq (gD al i) (gD bs i) = false := neF hA (hd2 i (by omega))
        generalize gD al i = x1 at *
        generalize gD bs i = y1 at *
        refine wpV_of (by ((conv => lhs; cbv); (repeat ((first | rewrite [c1] | rewrite [g1] | rewrite [g2] | rewrite [n1]); (try (conv => lhs; cbv)))); (try (with_reducible rfl)))) ?_
        refine headQ_of (by ((conv => lhs; cbv); (try (with_reducible rfl)))) ?_
        exact ⟨him, by omega, (by ((repeat (first | rewrite [inc])); (try rfl)))⟩
    · obtain rfl : i = al.length := by omega
      obtain rfl := hr2 (by omega)
      have c1 : A .cmp .lss (ix al.length) L = false := ltF hA (by rw [hix]; omega)
      refine wpV_of (by ((conv => lhs; cbv); (repeat ((first | rewrite [c1]); (try (conv => lhs; cbv)))); (try (with_reducible rfl)))) ?_
      show wpV _ _ _ _ _ _
      (refine wpV_of (by ((conv => lhs; cbv); (try (with_reducible rfl)))) ?_; (show finV _ _ _ = some _; ((conv => lhs; cbv); (try (with_reducible rfl))); (try rfl)))
  · rw [decide_eq_false (fun e => hll (by rw [e]))]
    refine Plays.wp (vf := v9) rfl rfl ⟨0, fun A call hA hcall => ?_⟩
    obtain ⟨es, hes⟩ : ∃ es, es = encI al := ⟨_, rfl⟩
    obtain ⟨fs, hfs⟩ : ∃ fs, fs = encI bs := ⟨_, rfl⟩
    have ne : A .cmp .neq (A .len es) (A .len fs) = true := neT hA (by rw [hA, hes, hfs, real_len, real_len, encI_len, encI_len]; omega)
    dsimp only [slI]
    rw [← hes, ← hfs]
    apply wpV_seq; refine wpV_of (by ((conv => lhs; cbv); (try (with_reducible rfl)))) ?_
    (refine wpV_of (by ((conv => lhs; cbv); (repeat ((first | rewrite [ne]); (try (conv => lhs; cbv)))); (try (with_reducible rfl)))) ?_; (show finV _ _ _ = some _; ((conv => lhs; cbv); (repeat ((first | rewrite [ne]); (try (conv => lhs; cbv)))); (try (with_reducible rfl))); (try rfl)))
theorem dist_symm (al bs : List Int) : dist al bs = dist bs al := tb_symm _ _ _ _
theorem dist_zero (al bs : List Int) : dist al bs = 0 ↔ al = bs := by
  rw [dist, tb_zero]
  constructor
  · rintro ⟨h1, h2⟩
    refine List.ext_getElem h1 fun j g1 g2 => ?_
    have := h2 j g1
    simpa [gD, g1, g2] using this
  · rintro rfl; exact ⟨rfl, fun _ _ => rfl⟩
theorem law3 (s t : ByteArray) : Pl 3 [.one (.iv (.str s)), .one (.iv (.str t))] (bl true) [] := by
  obtain ⟨cs, hcs⟩ : ∃ c, c = min s.size 60 := ⟨_, rfl⟩
  obtain ⟨ct, hct⟩ : ∃ c, c = min t.size 60 := ⟨_, rfl⟩
  obtain ⟨s', hs'⟩ : ∃ x, x = sx s 0 cs := ⟨_, rfl⟩
  obtain ⟨t', ht'⟩ : ∃ x, x = sx t 0 ct := ⟨_, rfl⟩
  have hsz : s'.size ≤ 60 := by rw [hs', sx_size s 0 cs (by omega) (by omega)]; omega
  have htz : t'.size ≤ 60 := by rw [ht', sx_size t 0 ct (by omega) (by omega)]; omega
  obtain ⟨m, hm, hme, hml⟩ := pos_end s'
  obtain ⟨n, hn, hne, hnl⟩ := pos_end t'
  obtain ⟨k1, h1⟩ := (p7 s' (by omega) hm hme hml).at pr_mono
  obtain ⟨k2, h2⟩ := (p7 t' (by omega) hn hne hnl).at pr_mono
  obtain ⟨k3, h3⟩ := (p8 s' t' (by omega) (by omega) hm hme hml hn hne hnl).at pr_mono
  obtain ⟨k4, h4⟩ := (p8 t' s' (by omega) (by omega) hn hne hnl hm hme hml).at pr_mono
  obtain ⟨al, hal⟩ : ∃ al, al = sgN s' m := ⟨_, rfl⟩
  obtain ⟨bs, hbs⟩ : ∃ bs, bs = sgN t' n := ⟨_, rfl⟩
  have hma : al.length = m := by rw [hal, sgN_len]
  have hnb : bs.length = n := by rw [hbs, sgN_len]
  rw [← hal] at h1
  rw [← hbs] at h2
  rw [← hal, ← hbs] at h3 h4
  rw [dist_symm bs al] at h4
  have dz := dist_zero al bs
  have dl := tb_low (gD al) (gD bs) al.length bs.length
  have dh := tb_high (gD al) (gD bs) al.length bs.length
  rw [← dist] at dl dh
  rw [hma, hnb] at dl dh
  generalize dist al bs = D at *
  obtain ⟨k5, h5⟩ := (p9 (isE (encI al)) (isE (encI bs)) al bs (by omega) (by omega)).at pr_mono
  obtain ⟨k6, h6⟩ := p10.at pr_mono
  obtain ⟨e, he⟩ : ∃ e, e = decide (al = bs) := ⟨_, rfl⟩
  rw [← he] at h5
  obtain ⟨es, hes⟩ : ∃ es, es = encI al := ⟨_, rfl⟩
  obtain ⟨fs, hfs⟩ : ∃ fs, fs = encI bs := ⟨_, rfl⟩
  dsimp only [slI] at h5
  rw [← hes] at h1 h5
  rw [← hfs] at h2 h5
  obtain ⟨N, hN⟩ : ∃ N, N = k1 + k2 + k3 + k4 + k5 + k6 := ⟨_, rfl⟩
  refine Plays.wp (vf := v3) rfl rfl ⟨N, fun A call hA hcall => ?_⟩
  have h1 := h1 N (by omega)
  have h2 := h2 N (by omega)
  have h3 := h3 N (by omega)
  have h4 := h4 N (by omega)
  have h5 := h5 N (by omega)
  have h6 := h6 N (by omega)
  rw [← hcall] at h1 h2 h3 h4 h5 h6
  have hE : ∀ l, A .isE l = isE l := fun l => by rw [hA]; rfl
  rw [← hE, ← hE] at h5
  obtain ⟨CS, hCS⟩ : ∃ v : Int, v = cs := ⟨_, rfl⟩
  obtain ⟨CT, hCT⟩ : ∃ v : Int, v = ct := ⟨_, rfl⟩
  have a1 : A .mi (A .slen s) 60 = CS := miR hA (by rw [hA, real_slen]; omega)
  have a2 : A .mi (A .slen t) 60 = CT := miR hA (by rw [hA, real_slen]; omega)
  have a3 : A .sext s none (some CS) = some s' := by rw [hA, hCS, sext_hi (by omega), hs']
  have a4 : A .sext t none (some CT) = some t' := by rw [hA, hCT, sext_hi (by omega), ht']
  obtain ⟨M, hM⟩ : ∃ v : Int, v = m := ⟨_, rfl⟩
  obtain ⟨NN, hNN⟩ : ∃ v : Int, v = n := ⟨_, rfl⟩
  have o1 : A .ofN m = M := by rw [hA, hM]; rfl
  have o2 : A .ofN n = NN := by rw [hA, hNN]; rfl
  obtain ⟨lg, hlg⟩ : ∃ v, v = max M NN := ⟨_, rfl⟩
  obtain ⟨sh, hsh⟩ : ∃ v, v = min M NN := ⟨_, rfl⟩
  obtain ⟨df, hdf⟩ : ∃ v, v = lg - sh := ⟨_, rfl⟩
  have b1 := mxR hA hlg
  have b2 := miR hA hsh
  have b3 := subR hA hdf (by omega)
  have z1 : A .cmp .eql D 0 = e := by rw [hA, eql_real, he, decide_eq_decide]; exact dz
  have z2 : A .bq e e = true := by rw [hA, real_bq]; simp
  have z3 : A .cmp .eql D D = true := eqT hA rfl
  have z4 : A .cmp .geq D df = true := geT hA (by omega)
  have z5 : A .cmp .leq D lg = true := leT hA (by omega)
  have s1 : A .seg es 0 m = es := by rw [hA, hes, ← hma]; exact seg_I al
  have s2 : A .seg fs 0 n = fs := by rw [hA, hfs, ← hnb]; exact seg_I bs
  apply wpV_seq; refine wpV_of (by ((conv => lhs; cbv); (try (with_reducible rfl)))) ?_
  apply wpV_seq; refine wpV_of (by ((conv => lhs; cbv); (repeat ((first | rewrite [a1] | rewrite [a3] | rewrite [h1] | rewrite [a2] | rewrite [a4] | rewrite [h2]); (try (conv => lhs; cbv)))); (try (with_reducible rfl)))) ?_
  apply wpV_seq; refine wpV_of (by ((conv => lhs; cbv); (repeat ((first | rewrite [a1] | rewrite [a3] | rewrite [a2] | rewrite [a4]); (try (conv => lhs; cbv)))); (try (with_reducible rfl)))) ?_
  apply wpV_seq; refine wpV_of (by ((conv => lhs; cbv); (repeat ((first | rewrite [h3]); (try (conv => lhs; cbv)))); (try (with_reducible rfl)))) ?_
  apply wpV_seq; refine wpV_of (by ((conv => lhs; cbv); (repeat ((first | rewrite [o1] | rewrite [o2] | rewrite [b1] | rewrite [b2]); (try (conv => lhs; cbv)))); (try (with_reducible rfl)))) ?_
  apply wpV_seq; refine wpV_of (by ((conv => lhs; cbv); (repeat ((first | rewrite [z1] | rewrite [s1] | rewrite [s2] | rewrite [h5] | rewrite [z2] | rewrite [h4] | rewrite [z3] | rewrite [o1] | rewrite [o2] | rewrite [b1] | rewrite [b2] | rewrite [b3] | rewrite [z4] | rewrite [z5] | rewrite [h6]); (try (conv => lhs; cbv)))); (try (with_reducible rfl)))) ?_
  (refine wpV_of (by ((conv => lhs; cbv); (try (with_reducible rfl)))) ?_; (show finV _ _ _ = some _; ((conv => lhs; cbv); (try (with_reducible rfl))); (try rfl)))

theorem lawV : ∀ xss, TyA [.str, .str] xss → ∃ n, play real (lookT tab) (fun _ => clonePr clones) n 3 (argsF [.str, .str] xss) [] = some (.one (.iv (.bool true)), []) := by
  intro xss h
  rcases xss with _ | ⟨a, _ | ⟨b, _ | ⟨c, r⟩⟩⟩
  · exact h.elim
  · exact h.2.elim
  · obtain ⟨h1, h2, _⟩ := h
    obtain ⟨s, rfl, _⟩ := h1
    obtain ⟨t, rfl, _⟩ := h2
    exact law3 s t
  · exact h.2.2.elim
end Go.Proofs.Ytinobfilomhhhaa
