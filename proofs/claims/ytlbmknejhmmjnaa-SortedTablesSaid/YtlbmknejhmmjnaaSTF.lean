/- Tables by texts: the law. -/
import Derived.Test.YtlbmknejhmmjnaaSTE
set_option linter.unusedSimpArgs false
set_option linter.unusedVariables false
set_option maxRecDepth 100000
set_option maxHeartbeats 4000000
set_option cbv.maxSteps 10000000
namespace Go.Proofs.Ytlbmknejhmmjnaa
open Go GoV

structure Dw where
  op : Int
  val : Int
  key : ByteArray
def zDw : Dw := ⟨0, 0, ⟨#[]⟩⟩
def eDo (l : List Dw) : List (List IV) := l.map fun d => [.int .i64 d.op, .int .i64 d.val, .str d.key]
theorem segR {A : Ar} (hA : A = real) (p q : List Rw) {n : Nat} (h : n = p.length) : A .seg (eRs (p ++ q)) 0 n = eRs p := by
  rw [hA, real_seg]; unfold rSeg; rw [eRs_app, List.drop_zero, List.take_left' (by simp [eRs, h])]
theorem segS {A : Ar} (hA : A = real) (p : List ByteArray) {n : Nat} (h : n = p.length) : A .seg (eSs p) 0 n = eSs p := by
  rw [hA, real_seg]; unfold rSeg; rw [List.drop_zero, List.take_of_length_le (by simp [eSs, h])]
theorem law6 (l : List Dw) (key : ByteArray) : ∃ n, play real (lookT tab) prJ n 6 [.one (.iv (.sl false 3 (eDo l))), .one (.iv (.str key))] [] = some (bl true, []) := by
  obtain ⟨kw, hw⟩ := awk
  obtain ⟨n, hn⟩ : ∃ n, n = kw + l.length + 7000 := ⟨_, rfl⟩
  refine ⟨n + 1, playQ n rfl rfl (fun A call hA hcall => ?_) (n + 1) (Nat.le_refl _)⟩
  obtain ⟨pl, mi, ml, nt, tn, ad, sb, K⟩ := kit hA
  obtain ⟨E, ix, sn, ll, cc, sg, D⟩ := lkit hA K zDw (fun d => [.int .i64 d.op, .int .i64 d.val, .str d.key]) 32
  have hE : ∀ l, eDo l = E l := fun l => by rw [D.E_]; rfl
  obtain ⟨E2, ix2, sn2, ll2, cc2, sg2, D2⟩ := lkit hA K (⟨#[]⟩ : ByteArray) (fun s => [.str s]) 16
  obtain ⟨E3, ix3, sn3, ll3, cc3, sg3, D3⟩ := lkit hA K z0 (fun p => [.str p.1, .int .i64 p.2]) 24
  have hE3 : ∀ l, eRs l = E3 l := fun l => by rw [D3.E_]; rfl
  have hE2 : ∀ l, eSs l = E2 l := fun l => by rw [D2.E_]; rfl
  have hE20 : E2 [] = [] := by rw [D2.E_]; rfl
  have hE30 : E3 [] = [] := by rw [D3.E_]; rfl
  have k13 : call 13 [] [] = some (bl true, []) := by rw [hcall]; exact hw n (by omega)
  obtain ⟨M, hM⟩ : ∃ M : Int, M = nt (ll l) := ⟨_, rfl⟩
  have hMl : M = l.length := by rw [hM, K.nt_, D.ll_]
  have ln : A .len (E l) = M := by rw [D.len, hM]
  have bq : ∀ b, A .bq b b = true := fun b => by rw [hA, real_bq]; simp
  have fin : ∀ (R zs : List Rw), Srt R → R.length ≤ 200 → ∀ (NI : Int) (hNI : NI = (R.length : Nat)) st0, headV false [1, 5, 16, 129, 130, 131] st0 = some ⟨0, (u :: .one (.iv (.str key)) :: u :: u :: u :: .one (.ptr 0 0) :: u :: u :: u :: u :: u :: u :: u :: u :: u :: u :: .one (.slo 1 0 0) :: u :: u :: u :: u :: u :: u :: u :: u :: u :: u :: u :: u :: u :: u :: u :: u :: u :: u :: u :: u :: u :: u :: u :: u :: u :: u :: u :: u :: u :: u :: u :: u :: u :: u :: u :: u :: u :: u :: u :: u :: u :: u :: u :: u :: u :: u :: u :: u :: u :: u :: u :: u :: u :: u :: u :: u :: u :: u :: u :: u :: u :: u :: u :: u :: u :: u :: u :: u :: u :: u :: u :: u :: u :: u :: u :: u :: u :: u :: u :: u :: u :: u :: u :: u :: u :: u :: u :: u :: u :: u :: u :: u :: u :: u :: u :: u :: u :: u :: u :: u :: u :: u :: u :: u :: u :: u :: u :: u :: u :: u :: u :: u :: .one (.slo 2 0 R.length) :: i64 NI :: i64 0 :: u :: u :: u :: u :: u :: u :: u :: u :: u :: u :: u :: u :: u :: u :: u :: u :: u :: u :: u :: u :: u :: u :: u :: u :: u :: u :: u :: []), [.var false [.slo 3 0 R.length], .arr false false 1 [], .arr false false 2 (eRs R), .arr false false 2 (eRs (R ++ zs))]⟩ →
      wpV A call (iterN n) (.block 3 (.loop false [1, 5, 16, 129, 130, 131] l6_1)) st0 (seqQ A call (iterN n) (.seq (.region false [oM 142 1, o1 143 (.call 25 [(false, .t 5), (false, .t 142)]), oM 141 143, o1 144 (.ext 0 (.t 141)), o1 145 (.ext 1 (.t 141)), oM 19 144, oM 20 145]) (.seq (.region false [o1 146 (.call 33 [(false, .t 5)]), oM 147 16, o1 148 (.call 32 [(false, .t 146), (false, .t 147)]), oM 149 148, oG 150 (.mov none (.t 20)) 149 true, oG 151 (.mov none (.t 16)) 149 true, oG 152 (.mov none (.t 1)) 149 true, oG 153 (.call 34 [(false, .t 151), (false, .t 152)]) 149 true, oG 154 (.eqs .eql .bool (.t 150) (.t 153)) 149 true, o1 155 (.pick (.t 149) (.t 154) (kB false)), oM 156 155, oG 157 (.call 13 []) 156 true, o1 158 (.pick (.t 156) (.t 157) (kB false)), oM 4 158]) (.ret))) (finQ A v6 (bl true, []))) := by
    intro R zs hs hR NI hNI st0 hst
    obtain ⟨a, m, b, s⟩ := split_at hs key
    have k25 := q25 s zs (by omega) false n (by omega)
    have k33 := q33 R zs (by omega) false n (by omega)
    have k32 := fun t t2 => q32 (R.map (·.1)) t t2 (by rw [List.length_map]; omega) n (by omega)
    have k34 := fun t => q34 (R.map (·.1)) key t (by rw [List.length_map]; omega) n (by omega)
    rw [← hcall] at k25 k33
    simp only [← hcall] at k32 k34
    simp only [s.mem] at k34
    have sK := segS hA (R.map (·.1)) (n := R.length) (by rw [List.length_map])
    have hks : eSs (R.map (·.1)) = E2 (R.map (·.1)) := hE2 _
    rw [hE3 R] at hst
    obtain ⟨zes, hzes⟩ : ∃ e, e = eRs (R ++ zs) := ⟨_, rfl⟩
    rw [← hzes] at hst k25 k33
    generalize (!m.isEmpty) = B at *
    generalize ((a.length : Nat) : Int) = P at *
    obtain ⟨N, hN⟩ : ∃ N, N = R.length := ⟨_, rfl⟩
    rw [← hN] at hst k25 k33 sK
    rw [← hN] at hNI
    apply wpV_block
    refine wpV_loop N (fun i st => ∃ (J : Int) (c : Nat) (m' : List ByteArray), st = ⟨0, (u :: .one (.iv (.str key)) :: u :: u :: u :: .one (.ptr 0 0) :: u :: u :: u :: u :: u :: u :: u :: u :: u :: u :: .one (.slo 1 0 c) :: u :: u :: u :: u :: u :: u :: u :: u :: u :: u :: u :: u :: u :: u :: u :: u :: u :: u :: u :: u :: u :: u :: u :: u :: u :: u :: u :: u :: u :: u :: u :: u :: u :: u :: u :: u :: u :: u :: u :: u :: u :: u :: u :: u :: u :: u :: u :: u :: u :: u :: u :: u :: u :: u :: u :: u :: u :: u :: u :: u :: u :: u :: u :: u :: u :: u :: u :: u :: u :: u :: u :: u :: u :: u :: u :: u :: u :: u :: u :: u :: u :: u :: u :: u :: u :: u :: u :: u :: u :: u :: u :: u :: u :: u :: u :: u :: u :: u :: u :: u :: u :: u :: u :: u :: u :: u :: u :: u :: u :: u :: u :: u :: .one (.slo 2 0 N) :: i64 NI :: i64 J :: u :: u :: u :: u :: u :: u :: u :: u :: u :: u :: u :: u :: u :: u :: u :: u :: u :: u :: u :: u :: u :: u :: u :: u :: u :: u :: u :: []), [.var false [.slo 3 0 N], .arr false false 1 (E2 m'), .arr false false 2 (E3 R), .arr false false 2 zes]⟩ ∧ J = i ∧ m' = (R.take i).map (·.1) ∧ c = m'.length) (by omega) hst ⟨0, 0, [], by rw [hE20], rfl, rfl, rfl⟩ ?_
    rintro i hi st ⟨J, c, m', rfl, hJ, hm, hc⟩
    have hml : m'.length ≤ i := by rw [hm, List.length_map, List.length_take]; omega
    by_cases him : i < N
    · have gN := D3.getN (l := R) (J := J) (by omega)
      have hk2 : (R.take (i + 1)).map (·.1) = m' ++ [(R.getD i z0).1] := by
        rw [List.take_succ_eq_append_getElem (by omega), List.getD_eq_getElem?_getD, List.getElem?_eq_getElem (by omega), List.map_append, ← hm]; rfl
      have hx : ix3 R J = R.getD i z0 := by rw [D3.ix_, hJ]; rfl
      rw [← hx] at hk2
      generalize ix3 R J = x at *
      obtain ⟨y, v⟩ := x
      have ap := D2.apo (l := m') (x := y) (b := 16) (n := c) ⟨hc, by omega⟩
      have at1 : A .at_ J N = some (tn J) := K.at_ (by omega)
      dsimp only at gN ap hk2
      refine wpV_ofH (by ((try (conv => lhs; cbv)); (repeat ((first | (rewrite [at1]) | (rewrite [gN]) | (rewrite [ap]) | (rewrite [K.add]; rotate_left; focus ((try simp only [K.df, D.df, D2.df, D3.df, true_and, and_true]) <;> omega)) | (rewrite [D2.ln]) | (rewrite [K.ltT]; rotate_left; focus ((try simp only [K.df, D.df, D2.df, D3.df, true_and, and_true]) <;> omega))); (try (conv => lhs; cbv)))); (exact rfl))) ?_
      refine headQ_ofH (by ((try (conv => lhs; cbv)); (exact rfl))) ?_
      refine ⟨him, _, _, _, rfl, ?_, ?_, ?_⟩
      · rw [K.pl_]; omega
      · rw [hk2, D2.sn_]
      · rw [D2.ll_]
    · obtain rfl : i = N := by omega
      rw [List.take_of_length_le (by omega)] at hm
      subst hm
      rw [List.length_map, ← hN] at hc
      subst hc
      rw [hks] at k33 k32 k34 sK
      generalize E2 (R.map (·.1)) = ks at *
      refine wpV_ofH (by ((try (conv => lhs; cbv)); (repeat ((first | (rewrite [K.ltF]; rotate_left; focus ((try simp only [K.df, D.df, D2.df, D3.df, true_and, and_true]) <;> omega))); (try (conv => lhs; cbv)))); (exact rfl))) ?_
      show wpV _ _ _ _ _ _
      apply wpV_seq; refine wpV_ofH (by ((try (conv => lhs; cbv)); (repeat ((first | (rewrite [k25])); (try (conv => lhs; cbv)))); (exact rfl))) ?_
      apply wpV_seq; refine wpV_ofH (by ((try (conv => lhs; cbv)); (repeat ((first | (rewrite [k33]) | (rewrite [sK]) | (rewrite [k32]) | (rewrite [k34]) | (rewrite [bq]) | (rewrite [k13])); (try (conv => lhs; cbv)))); (exact rfl))) ?_
      refine wpV_ofH (by ((try (conv => lhs; cbv)); (exact rfl))) ?_
      (show finV _ _ _ = some _; ((try (conv => lhs; cbv)); (try (with_reducible rfl))); (try rfl))
  rw [hE]
  apply wpV_seq; refine wpV_ofH (by ((try (conv => lhs; cbv)); (exact rfl))) ?_
  apply wpV_seq; refine wpV_ofH (by ((try (conv => lhs; cbv)); (exact rfl))) ?_
  apply wpV_seq; refine wpV_ofH (by ((try (conv => lhs; cbv)); (exact rfl))) ?_
  apply wpV_seq; apply wpV_seq; refine wpV_ofH (by ((try (conv => lhs; cbv)); (repeat ((first | (rewrite [ln])); (try (conv => lhs; cbv)))); (exact rfl))) ?_
  apply wpV_block
  refine wpV_loop l.length (fun i st => ∃ (J : Int) (c : Nat) (es ts : List (List IV)), st = ⟨0, (u :: .one (.iv (.str key)) :: u :: u :: u :: .one (.ptr 0 0) :: .one (.slo 1 0 c) :: u :: u :: u :: u :: u :: u :: u :: u :: u :: u :: u :: u :: u :: u :: .one (.iv (.sl false 3 (E l))) :: i64 M :: i64 J :: u :: u :: u :: u :: u :: u :: u :: u :: u :: u :: u :: u :: u :: u :: u :: u :: u :: u :: u :: u :: u :: u :: u :: u :: u :: u :: u :: u :: u :: u :: u :: u :: u :: u :: u :: u :: u :: u :: u :: u :: u :: u :: u :: u :: u :: u :: u :: u :: u :: u :: u :: u :: u :: u :: u :: u :: u :: u :: u :: u :: u :: u :: u :: u :: u :: u :: u :: u :: u :: u :: u :: u :: u :: u :: u :: u :: u :: u :: u :: u :: u :: u :: u :: u :: u :: u :: u :: u :: u :: u :: u :: u :: u :: u :: u :: u :: u :: u :: u :: u :: u :: u :: u :: u :: u :: u :: u :: u :: u :: u :: u :: u :: u :: u :: u :: u :: u :: u :: u :: u :: u :: u :: u :: u :: u :: u :: u :: u :: u :: u :: u :: u :: u :: u :: u :: []), [.var false [.slo 2 0 c], .arr false false 2 es, .arr false false 2 ts]⟩ ∧ J = i ∧ ∃ R zs : List Rw, es = eRs R ∧ ts = eRs (R ++ zs) ∧ c = R.length ∧ Srt R ∧ R.length ≤ i ∧ R.length ≤ 200) (by omega) (by ((try (conv => lhs; cbv)); (try (with_reducible rfl)))) ⟨0, 0, [], [], rfl, rfl, [], [], rfl, rfl, rfl, List.Pairwise.nil, by simp, by simp⟩ ?_
  rintro i hi st ⟨J, c, es, ts, rfl, hJ, R, zs, hes, hts, hc, hs, hRi, hR⟩
  obtain ⟨CI, hCI⟩ : ∃ x : Int, x = (c : Nat) := ⟨_, rfl⟩
  have ofN : A .ofN c = CI := by rw [K.ofN, K.nt_, hCI]
  by_cases him : i < l.length
  · by_cases h200 : i < 200
    · have g := D.get (l := l) (J := J) (by omega)
      generalize ix l J = x at *
      obtain ⟨op, val, k⟩ := x
      dsimp only at g
      obtain ⟨a, m, b, s⟩ := split_at hs k
      obtain ⟨hll, hml⟩ := s.lens
      have k24 := fun t => q24 s (by omega) t n (by omega)
      have k25 := q25 s zs (by omega) false n (by omega)
      have sR : A .seg es 0 c = es := by
        have := segR hA R [] (n := c) hc
        rwa [List.append_nil, ← hes] at this
      have kL : ∀ (m : Nat) (X : Int) es, X = (m : Int) → call 31 [.one (.ptr 0 0)] [tbV m, .arr false false 2 es] = some (i64 X, [tbV m, .arr false false 2 es]) := fun m X es h => by rw [hcall, h]; exact q31 m es false n (by omega)
      rw [← hts, ← hc, ← hcall] at k25
      simp only [← hcall, ← hes] at k24
      obtain ⟨rr, sr⟩ : ∃ rr, A .ar .rem .u64 (A .ck .u64 op) 3 = rr := ⟨_, rfl⟩
      rcases s.mid with hm | ⟨v0, hm⟩
      · subst hm
        have hm0 : ([] : List Rw).length = 0 := rfl
        rw [show (!([] : List Rw).isEmpty) = false from rfl] at k25
        simp only [show (!([] : List Rw).isEmpty) = false from rfl] at k24
        generalize ((a.length : Nat) : Int) = P at *
        by_cases h0 : rr = 0
        · subst h0
          have kP := q26n s zs (by omega) false val n (by omega)
          rw [← hts, ← hc, ← hcall] at kP
          have kR := fun t => q27 s (by omega) t val n (by omega)
          simp only [← hcall, ← hes] at kR
          have hlen : (a ++ [(k, val)] ++ b).length = c + 1 := by simp only [List.length_append, List.length_singleton]; omega
          have hR' : Srt (a ++ [(k, val)] ++ b) := s.put hs val
          obtain ⟨c1, hc1⟩ : ∃ c1, c1 = (a ++ [(k, val)] ++ b).length := ⟨_, rfl⟩
          rw [← hlen, ← hc1] at kP
          simp only [← hc1] at kR
          obtain ⟨es', hes'⟩ : ∃ e, e = eRs (a ++ [(k, val)] ++ b) := ⟨_, rfl⟩
          obtain ⟨ts', hts'⟩ : ∃ e, e = eRs ((a ++ [(k, val)] ++ b) ++ zs.drop 1) := ⟨_, rfl⟩
          simp only [← hes'] at kR
          rw [← hts'] at kP
          obtain ⟨C1, hC1⟩ : ∃ x : Int, x = (c1 : Nat) := ⟨_, rfl⟩
          have k31 := fun es => kL c1 C1 es hC1
          have ofN1 : A .ofN c1 = C1 := by rw [K.ofN, K.nt_, hC1]
          refine wpV_ofH (by ((try (conv => lhs; cbv)); (repeat ((first | (rewrite [g]) | (rewrite [k24]) | (rewrite [sR]) | (rewrite [k25]) | (rewrite [bq]) | (rewrite [sr]) | (rewrite [kP]) | (rewrite [kR]) | (rewrite [k31]) | (rewrite [ofN1]) | (rewrite [K.add]; rotate_left; focus ((try simp only [K.df, D.df, D2.df, D3.df, true_and, and_true]) <;> omega)) | (rewrite [K.nz]; rotate_left; focus ((try simp only [K.df, D.df, D2.df, D3.df, true_and, and_true]) <;> omega)) | (rewrite [K.ltT]; rotate_left; focus ((try simp only [K.df, D.df, D2.df, D3.df, true_and, and_true]) <;> omega)) | (rewrite [K.eqT]; rotate_left; focus ((try simp only [K.df, D.df, D2.df, D3.df, true_and, and_true]) <;> omega)) | (rewrite [K.geF]; rotate_left; focus ((try simp only [K.df, D.df, D2.df, D3.df, true_and, and_true]) <;> omega)) | (rewrite [K.neF]; rotate_left; focus ((try simp only [K.df, D.df, D2.df, D3.df, true_and, and_true]) <;> omega))); (try (conv => lhs; cbv)))); (exact rfl))) ?_
          refine headQ_ofH (by ((try (conv => lhs; cbv)); (exact rfl))) ?_
          refine ⟨him, _, _, _, _, rfl, ?_, a ++ [(k, val)] ++ b, zs.drop 1, hes', hts', hc1, hR', by omega, by omega⟩
          rw [K.pl_]; omega
        · by_cases h1 : rr = 1
          · subst h1
            have kP := q28n s zs (by omega) false n (by omega)
            rw [← hts, ← hc, ← hcall] at kP
            refine wpV_ofH (by ((try (conv => lhs; cbv)); (repeat ((first | (rewrite [g]) | (rewrite [k24]) | (rewrite [sR]) | (rewrite [k25]) | (rewrite [bq]) | (rewrite [sr]) | (rewrite [kP]) | (rewrite [kL c CI ts hCI]) | (rewrite [ofN]) | (rewrite [K.add]; rotate_left; focus ((try simp only [K.df, D.df, D2.df, D3.df, true_and, and_true]) <;> omega)) | (rewrite [K.nz]; rotate_left; focus ((try simp only [K.df, D.df, D2.df, D3.df, true_and, and_true]) <;> omega)) | (rewrite [K.ltT]; rotate_left; focus ((try simp only [K.df, D.df, D2.df, D3.df, true_and, and_true]) <;> omega)) | (rewrite [K.eqT]; rotate_left; focus ((try simp only [K.df, D.df, D2.df, D3.df, true_and, and_true]) <;> omega)) | (rewrite [K.geF]; rotate_left; focus ((try simp only [K.df, D.df, D2.df, D3.df, true_and, and_true]) <;> omega)) | (rewrite [K.eqF]; rotate_left; focus ((try simp only [K.df, D.df, D2.df, D3.df, true_and, and_true]) <;> omega)) | (rewrite [K.neF]; rotate_left; focus ((try simp only [K.df, D.df, D2.df, D3.df, true_and, and_true]) <;> omega))); (try (conv => lhs; cbv)))); (exact rfl))) ?_
            refine headQ_ofH (by ((try (conv => lhs; cbv)); (exact rfl))) ?_
            refine ⟨him, _, _, _, _, rfl, ?_, R, zs, hes, hts, hc, hs, by omega, hR⟩
            rw [K.pl_]; omega
          · skip
            have kP := q29n s zs (by omega) false n (by omega)
            rw [← hts, ← hc, ← hcall] at kP
            have kR := fun t => q30 s (by omega) t n (by omega)
            simp only [← hcall, ← hes] at kR
            have hlen : (a ++ b).length = c := by simp only [List.length_append, List.length_singleton]; omega
            have hR' : Srt (a ++ b) := s.cut hs
            have hab : R = a ++ b := by rw [s.eq, List.append_nil]
            rw [hab] at hts
            obtain ⟨c1, hc1⟩ : ∃ c1, c1 = (a ++ b).length := ⟨_, rfl⟩
            simp only [← hc1] at kR
            obtain ⟨es', hes'⟩ : ∃ e, e = eRs (a ++ b) := ⟨_, rfl⟩
            obtain ⟨ts', hts'⟩ : ∃ e, e = eRs ((a ++ b) ++ zs) := ⟨_, rfl⟩
            simp only [← hes'] at kR
            obtain rfl : c1 = c := by omega
            obtain rfl : ts = ts' := by rw [hts, hts']
            obtain ⟨C1, hC1⟩ : ∃ x : Int, x = (c1 : Nat) := ⟨_, rfl⟩
            have k31 := fun es => kL c1 C1 es hC1
            have ofN1 : A .ofN c1 = C1 := by rw [K.ofN, K.nt_, hC1]
            refine wpV_ofH (by ((try (conv => lhs; cbv)); (repeat ((first | (rewrite [g]) | (rewrite [k24]) | (rewrite [sR]) | (rewrite [k25]) | (rewrite [bq]) | (rewrite [sr]) | (rewrite [kP]) | (rewrite [kR]) | (rewrite [k31]) | (rewrite [ofN]) | (rewrite [K.add]; rotate_left; focus ((try simp only [K.df, D.df, D2.df, D3.df, true_and, and_true]) <;> omega)) | (rewrite [K.nz]; rotate_left; focus ((try simp only [K.df, D.df, D2.df, D3.df, true_and, and_true]) <;> omega)) | (rewrite [K.ltT]; rotate_left; focus ((try simp only [K.df, D.df, D2.df, D3.df, true_and, and_true]) <;> omega)) | (rewrite [K.eqT]; rotate_left; focus ((try simp only [K.df, D.df, D2.df, D3.df, true_and, and_true]) <;> omega)) | (rewrite [K.geF]; rotate_left; focus ((try simp only [K.df, D.df, D2.df, D3.df, true_and, and_true]) <;> omega)) | (rewrite [K.eqF]; rotate_left; focus ((try simp only [K.df, D.df, D2.df, D3.df, true_and, and_true]) <;> omega)) | (rewrite [K.neF]; rotate_left; focus ((try simp only [K.df, D.df, D2.df, D3.df, true_and, and_true]) <;> omega))); (try (conv => lhs; cbv)))); (exact rfl))) ?_
            refine headQ_ofH (by ((try (conv => lhs; cbv)); (exact rfl))) ?_
            refine ⟨him, _, _, _, _, rfl, ?_, a ++ b, zs, hes', hts', hc1, hR', by omega, by omega⟩
            rw [K.pl_]; omega
      · subst hm
        have hm0 : [(k, v0)].length = 1 := rfl
        rw [show (![(k, v0)].isEmpty) = true from rfl] at k25
        simp only [show (![(k, v0)].isEmpty) = true from rfl] at k24
        obtain ⟨P, hP⟩ : ∃ P : Int, P = (a.length : Nat) := ⟨_, rfl⟩
        rw [← hP] at k25
        simp only [← hP] at k24
        by_cases h0 : rr = 0
        · subst h0
          have kP := q26 s zs (by omega) false val n (by omega)
          rw [← hts, ← hc, ← hcall] at kP
          have kR := fun t => q27 s (by omega) t val n (by omega)
          simp only [← hcall, ← hes] at kR
          have hlen : (a ++ [(k, val)] ++ b).length = c := by simp only [List.length_append, List.length_singleton]; omega
          have hR' : Srt (a ++ [(k, val)] ++ b) := s.put hs val
          obtain ⟨c1, hc1⟩ : ∃ c1, c1 = (a ++ [(k, val)] ++ b).length := ⟨_, rfl⟩
          simp only [← hc1] at kR
          obtain ⟨es', hes'⟩ : ∃ e, e = eRs (a ++ [(k, val)] ++ b) := ⟨_, rfl⟩
          obtain ⟨ts', hts'⟩ : ∃ e, e = eRs ((a ++ [(k, val)] ++ b) ++ zs) := ⟨_, rfl⟩
          simp only [← hes'] at kR
          rw [← hts'] at kP
          obtain rfl : c1 = c := by omega
          obtain ⟨C1, hC1⟩ : ∃ x : Int, x = (c1 : Nat) := ⟨_, rfl⟩
          have k31 := fun es => kL c1 C1 es hC1
          have ofN1 : A .ofN c1 = C1 := by rw [K.ofN, K.nt_, hC1]
          refine wpV_ofH (by ((try (conv => lhs; cbv)); (repeat ((first | (rewrite [g]) | (rewrite [k24]) | (rewrite [sR]) | (rewrite [k25]) | (rewrite [bq]) | (rewrite [sr]) | (rewrite [kP]) | (rewrite [kR]) | (rewrite [k31]) | (rewrite [ofN]) | (rewrite [K.add]; rotate_left; focus ((try simp only [K.df, D.df, D2.df, D3.df, true_and, and_true]) <;> omega)) | (rewrite [K.nz]; rotate_left; focus ((try simp only [K.df, D.df, D2.df, D3.df, true_and, and_true]) <;> omega)) | (rewrite [K.ltT]; rotate_left; focus ((try simp only [K.df, D.df, D2.df, D3.df, true_and, and_true]) <;> omega)) | (rewrite [K.eqT]; rotate_left; focus ((try simp only [K.df, D.df, D2.df, D3.df, true_and, and_true]) <;> omega)) | (rewrite [K.geF]; rotate_left; focus ((try simp only [K.df, D.df, D2.df, D3.df, true_and, and_true]) <;> omega)) | (rewrite [K.neF]; rotate_left; focus ((try simp only [K.df, D.df, D2.df, D3.df, true_and, and_true]) <;> omega))); (try (conv => lhs; cbv)))); (exact rfl))) ?_
          refine headQ_ofH (by ((try (conv => lhs; cbv)); (exact rfl))) ?_
          refine ⟨him, _, _, _, _, rfl, ?_, a ++ [(k, val)] ++ b, zs, hes', hts', hc1, hR', by omega, by omega⟩
          rw [K.pl_]; omega
        · by_cases h1 : rr = 1
          · subst h1
            have gR := D3.getN (l := R) (J := P) (by omega)
            have hx : ix3 R P = (k, v0) := by
              have := getMid s.eq []
              rw [List.append_nil] at this
              rw [D3.ix_, hP, Int.toNat_natCast]; exact this
            rw [hx, ← hE3, ← hes] at gR
            dsimp only at gR
            have at1 : A .at_ P c = some (tn P) := K.at_ (by omega)
            have kP := q28 s zs (by omega) false n (by omega)
            rw [← hts, ← hc, ← hcall] at kP
            refine wpV_ofH (by ((try (conv => lhs; cbv)); (repeat ((first | (rewrite [g]) | (rewrite [k24]) | (rewrite [sR]) | (rewrite [k25]) | (rewrite [bq]) | (rewrite [sr]) | (rewrite [kP]) | (rewrite [kL c CI ts hCI]) | (rewrite [ofN]) | (rewrite [gR]) | (rewrite [at1]) | (rewrite [K.add]; rotate_left; focus ((try simp only [K.df, D.df, D2.df, D3.df, true_and, and_true]) <;> omega)) | (rewrite [K.nz]; rotate_left; focus ((try simp only [K.df, D.df, D2.df, D3.df, true_and, and_true]) <;> omega)) | (rewrite [K.ltT]; rotate_left; focus ((try simp only [K.df, D.df, D2.df, D3.df, true_and, and_true]) <;> omega)) | (rewrite [K.eqT]; rotate_left; focus ((try simp only [K.df, D.df, D2.df, D3.df, true_and, and_true]) <;> omega)) | (rewrite [K.geF]; rotate_left; focus ((try simp only [K.df, D.df, D2.df, D3.df, true_and, and_true]) <;> omega)) | (rewrite [K.eqF]; rotate_left; focus ((try simp only [K.df, D.df, D2.df, D3.df, true_and, and_true]) <;> omega)) | (rewrite [K.neF]; rotate_left; focus ((try simp only [K.df, D.df, D2.df, D3.df, true_and, and_true]) <;> omega))); (try (conv => lhs; cbv)))); (exact rfl))) ?_
            refine headQ_ofH (by ((try (conv => lhs; cbv)); (exact rfl))) ?_
            refine ⟨him, _, _, _, _, rfl, ?_, R, zs, hes, hts, hc, hs, by omega, hR⟩
            rw [K.pl_]; omega
          · skip
            have kP := q29 s zs (by omega) false n (by omega)
            rw [← hts, ← hc, ← hcall] at kP
            have kR := fun t => q30 s (by omega) t n (by omega)
            simp only [← hcall, ← hes] at kR
            have hlen : (a ++ b).length = c - 1 := by simp only [List.length_append, List.length_singleton]; omega
            have hR' : Srt (a ++ b) := s.cut hs
            obtain ⟨c1, hc1⟩ : ∃ c1, c1 = (a ++ b).length := ⟨_, rfl⟩
            rw [← hc1] at kP
            simp only [← hc1] at kR
            obtain ⟨es', hes'⟩ : ∃ e, e = eRs (a ++ b) := ⟨_, rfl⟩
            obtain ⟨ts', hts'⟩ : ∃ e, e = eRs ((a ++ b) ++ z0 :: zs) := ⟨_, rfl⟩
            simp only [← hes'] at kR
            rw [← hts'] at kP
            obtain ⟨C1, hC1⟩ : ∃ x : Int, x = (c1 : Nat) := ⟨_, rfl⟩
            have k31 := fun es => kL c1 C1 es hC1
            have ofN1 : A .ofN c1 = C1 := by rw [K.ofN, K.nt_, hC1]
            refine wpV_ofH (by ((try (conv => lhs; cbv)); (repeat ((first | (rewrite [g]) | (rewrite [k24]) | (rewrite [sR]) | (rewrite [k25]) | (rewrite [bq]) | (rewrite [sr]) | (rewrite [kP]) | (rewrite [kR]) | (rewrite [k31]) | (rewrite [ofN1]) | (rewrite [K.add]; rotate_left; focus ((try simp only [K.df, D.df, D2.df, D3.df, true_and, and_true]) <;> omega)) | (rewrite [K.nz]; rotate_left; focus ((try simp only [K.df, D.df, D2.df, D3.df, true_and, and_true]) <;> omega)) | (rewrite [K.ltT]; rotate_left; focus ((try simp only [K.df, D.df, D2.df, D3.df, true_and, and_true]) <;> omega)) | (rewrite [K.eqT]; rotate_left; focus ((try simp only [K.df, D.df, D2.df, D3.df, true_and, and_true]) <;> omega)) | (rewrite [K.geF]; rotate_left; focus ((try simp only [K.df, D.df, D2.df, D3.df, true_and, and_true]) <;> omega)) | (rewrite [K.eqF]; rotate_left; focus ((try simp only [K.df, D.df, D2.df, D3.df, true_and, and_true]) <;> omega)) | (rewrite [K.neF]; rotate_left; focus ((try simp only [K.df, D.df, D2.df, D3.df, true_and, and_true]) <;> omega))); (try (conv => lhs; cbv)))); (exact rfl))) ?_
            refine headQ_ofH (by ((try (conv => lhs; cbv)); (exact rfl))) ?_
            refine ⟨him, _, _, _, _, rfl, ?_, a ++ b, z0 :: zs, hes', hts', hc1, hR', by omega, by omega⟩
            rw [K.pl_]; omega
    · have g := D.get (l := l) (J := J) (by omega)
      generalize ix l J = x at *
      obtain ⟨op, val, k⟩ := x
      dsimp only at g
      refine wpV_ofH (by ((try (conv => lhs; cbv)); (repeat ((first | (rewrite [g]) | (rewrite [K.ltT]; rotate_left; focus ((try simp only [K.df, D.df, D2.df, D3.df, true_and, and_true]) <;> omega)) | (rewrite [K.geT]; rotate_left; focus ((try simp only [K.df, D.df, D2.df, D3.df, true_and, and_true]) <;> omega))); (try (conv => lhs; cbv)))); (exact rfl))) ?_
      show wpV _ _ _ _ _ _
      apply wpV_seq; refine wpV_ofH (by ((try (conv => lhs; cbv)); (exact rfl))) ?_
      apply wpV_seq; apply wpV_seq; refine wpV_ofH (by ((try (conv => lhs; cbv)); (repeat ((first | (rewrite [ofN])); (try (conv => lhs; cbv)))); (exact rfl))) ?_
      refine fin R zs hs hR CI (by rw [hCI, hc]) _ ?_
      rw [← hes, ← hts, ← hc]
      ((try (conv => lhs; cbv)); (try (with_reducible rfl)))
  · obtain rfl : i = l.length := by omega
    refine wpV_ofH (by ((try (conv => lhs; cbv)); (repeat ((first | (rewrite [K.ltF]; rotate_left; focus ((try simp only [K.df, D.df, D2.df, D3.df, true_and, and_true]) <;> omega))); (try (conv => lhs; cbv)))); (exact rfl))) ?_
    show wpV _ _ _ _ _ _
    apply wpV_seq; refine wpV_ofH (by ((try (conv => lhs; cbv)); (exact rfl))) ?_
    apply wpV_seq; apply wpV_seq; refine wpV_ofH (by ((try (conv => lhs; cbv)); (repeat ((first | (rewrite [ofN])); (try (conv => lhs; cbv)))); (exact rfl))) ?_
    refine fin R zs hs hR CI (by rw [hCI, hc]) _ ?_
    rw [← hes, ← hts, ← hc]
    ((try (conv => lhs; cbv)); (try (with_reducible rfl)))
def iSh : Sh := .int .i64
def doSh : Sh := .pair iSh (.pair iSh (.pair .str .unit))
def dosSh : Sh := .sl doSh 32
theorem ty_dos : ∀ {es : List (List IV)}, (∀ c, c ∈ es → TyI doSh c) → ∃ l : List Dw, es = eDo l
  | [], _ => ⟨[], rfl⟩
  | c :: r, h => by
    obtain ⟨l, rfl⟩ := ty_dos (es := r) fun c hc => h c (by simp [hc])
    obtain ⟨a1, b1, rfl, ⟨x, rfl, _⟩, ⟨a2, b2, rfl, ⟨y, rfl, _⟩, ⟨a3, b3, rfl, ⟨k, rfl, _⟩, rfl⟩⟩⟩ := h c (by simp)
    exact ⟨⟨x, y, k⟩ :: l, rfl⟩
theorem lawT : ∀ xss, TyA [dosSh, .str] xss → ∃ n, play real (lookT tab) prJ n 6 (argsF [dosSh, .str] xss) [] = some (.one (.iv (.bool true)), []) := by
  intro xss h
  rcases xss with _ | ⟨a, _ | ⟨b, _ | ⟨c, r⟩⟩⟩
  · exact h.elim
  · exact h.2.elim
  · obtain ⟨h1, h2, _⟩ := h
    obtain ⟨es, rfl, _, he⟩ := h1
    obtain ⟨l, rfl⟩ := ty_dos he
    obtain ⟨s, rfl, _⟩ := h2
    exact law6 l s
  · exact h.2.2.elim
end Go.Proofs.Ytlbmknejhmmjnaa
