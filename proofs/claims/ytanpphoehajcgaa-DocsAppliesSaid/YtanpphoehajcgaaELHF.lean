/- Few events: gone through (the second part of EVH). -/
import Derived.Test.YtanpphoehajcgaaELA
set_option linter.unusedSimpArgs false
set_option linter.unusedVariables false
set_option maxRecDepth 100000
set_option maxHeartbeats 1000000
set_option cbv.maxSteps 10000000
namespace Go.Proofs.Ytanpphoehajcgaa
open Go GoV

def evA (e : Ev) : List IV := evI false 2 e
def fewGo : List Ev → Nat → Bool
  | [], _ => true
  | e :: r, b => if 130 < e.gone.length then false else if 8192 < b + (min e.doc.size 8192 + min e.txt.size 8192) then false else fewGo r (b + (min e.doc.size 8192 + min e.txt.size 8192))
def fewB (l : List Ev) : Bool := decide (l.length ≤ 80) && fewGo l 0
theorem fewGo_all : ∀ {l : List Ev} {b : Nat}, fewGo l b = true → ∀ e, e ∈ l → e.gone.length ≤ 130
  | [], _, _, e, he => by simp at he
  | x :: r, b, h, e, he => by
    unfold fewGo at h
    split at h
    · cases h
    · split at h
      · cases h
      · rcases List.mem_cons.1 he with rfl | he
        · omega
        · exact fewGo_all h e he
theorem n9 (l : List Ev) (t : Bool) : Pn 301 9 [.one (.iv (.sl true 1 [[.sl t 8 (l.map evA)]]))] [] (bl (fewB l)) [] := by
  refine playN 300 rfl rfl fun A call hA hcall => ?_
  obtain ⟨pl, mi, ml, nt, tn, ad, sb, K⟩ := kit hA
  obtain ⟨E, ix0, sn0, ll0, cc0, sg0, D⟩ := lkit hA K ((0, 0) : Int × Int) (fun p => [.int .i64 p.1, .int .i64 p.2]) 16
  obtain ⟨EX, ix, sn, ll, cc, sg, X⟩ := lkit hA K zeroEv (fun x => [.int .i64 x.d.1, .int .i64 x.d.2, .int .i64 x.t, .int .i64 x.k, .str x.doc, .int .i64 x.f, .str x.txt, .sl false 2 (E x.gone)]) 96
  have hEX : l.map evA = EX l := by
    rw [X.E_]
    exact List.map_congr_left fun x _ => by rw [D.E_]; rfl
  rw [hEX]
  obtain ⟨zs, hzs⟩ : ∃ zs : ByteArray → Nat, ∀ s, zs s = s.size := ⟨_, fun _ => rfl⟩
  have sl : ∀ s, A .slen s = nt (zs s) := fun s => by rw [hA, real_slen, K.nt_, hzs]
  obtain ⟨M, hM⟩ : ∃ M : Int, M = nt (ll l) := ⟨_, rfl⟩
  have hMl : M = l.length := by rw [hM, K.nt_, X.ll_]
  have ln : A .len (EX l) = M := by rw [X.len, hM]
  have l1 : A .len [[IV.sl t 8 (EX l)]] = 1 := by rw [hA]; rfl
  have g1 : A .get [[IV.sl t 8 (EX l)]] 0 = some [.sl t 8 (EX l)] := by rw [hA]; rfl
  unfold fewB
  apply wpV_seq; refine wpV_ofH (by ((try (conv => lhs; cbv)); (exact rfl))) ?_
  apply wpV_seq; refine wpV_ofH (by ((try (conv => lhs; cbv)); (exact rfl))) ?_
  apply wpV_seq; apply wpV_seq; refine wpV_ofH (by ((try (conv => lhs; cbv)); (repeat ((first | (rewrite [l1])); (try (conv => lhs; cbv)))); (exact rfl))) ?_
  apply wpV_block
  refine wpV_loop 1 (fun i st => (i = 0 ∧ st = ⟨0, (u :: u :: u :: i64 0 :: i64 0 :: u :: u :: u :: u :: .one (.iv (.sl true 1 [[.sl t 8 (EX l)]])) :: i64 1 :: i64 0 :: u :: u :: u :: u :: u :: u :: u :: u :: u :: u :: u :: u :: u :: u :: u :: u :: u :: u :: u :: u :: u :: u :: u :: u :: u :: u :: u :: u :: u :: u :: u :: u :: u :: u :: u :: []), []⟩) ∨ (i = 1 ∧ fewGo l 0 = true ∧ l.length ≤ 80 ∧ ∃ N B : Int, st = ⟨0, (u :: u :: u :: i64 N :: i64 B :: u :: u :: u :: u :: .one (.iv (.sl true 1 [[.sl t 8 (EX l)]])) :: i64 1 :: i64 1 :: u :: u :: u :: u :: u :: u :: u :: u :: u :: u :: u :: u :: u :: u :: u :: u :: u :: u :: u :: u :: u :: u :: u :: u :: u :: u :: u :: u :: u :: u :: u :: u :: u :: u :: u :: []), []⟩)) (by omega) (by ((try (conv => lhs; cbv)); (try (with_reducible rfl)))) (.inl ⟨rfl, rfl⟩) ?_
  rintro i hi st (⟨rfl, rfl⟩ | ⟨rfl, hgo, hl80, N, B, rfl⟩)
  · by_cases h80 : l.length ≤ 80
    · rw [decide_eq_true h80, Bool.true_and]
      generalize hR : fewGo l 0 = R
      apply wpV_seq; refine wpV_ofH (by ((try (conv => lhs; cbv)); (repeat ((first | (rewrite [K.ltT]; rotate_left; focus ((try simp only [K.df, D.df, X.df, hzs, true_and, and_true]) <;> omega))); (try (conv => lhs; cbv)))); (exact rfl))) ?_
      apply wpV_seq; refine wpV_ofH (by ((try (conv => lhs; cbv)); (exact rfl))) ?_
      apply wpV_seq; apply wpV_block
      apply wpV_seq; refine wpV_ofH (by ((try (conv => lhs; cbv)); (repeat ((first | (rewrite [g1])); (try (conv => lhs; cbv)))); (exact rfl))) ?_
      apply wpV_seq; refine wpV_ofH (by ((try (conv => lhs; cbv)); (repeat ((first | (rewrite [ln]) | (rewrite [K.add]; rotate_left; focus ((try simp only [K.df, D.df, X.df, hzs, true_and, and_true]) <;> omega)) | (rewrite [K.miL]; rotate_left; focus ((try simp only [K.df, D.df, X.df, hzs, true_and, and_true]) <;> omega)) | (rewrite [K.gtF]; rotate_left; focus ((try simp only [K.df, D.df, X.df, hzs, true_and, and_true]) <;> omega))); (try (conv => lhs; cbv)))); (exact rfl))) ?_
      apply wpV_seq; refine wpV_ofH (by ((try (conv => lhs; cbv)); (repeat ((first | (rewrite [ln])); (try (conv => lhs; cbv)))); (exact rfl))) ?_
      apply wpV_block
      refine wpV_loop l.length (fun j st => ∃ (J B : Int) (b : Nat), st = ⟨0, (u :: u :: u :: i64 (pl 0 M) :: i64 B :: u :: u :: u :: u :: .one (.iv (.sl true 1 [[.sl t 8 (EX l)]])) :: i64 1 :: i64 0 :: u :: u :: u :: u :: u :: u :: u :: u :: u :: u :: .one (.iv (.sl t 8 (EX l))) :: i64 M :: i64 J :: u :: u :: u :: u :: u :: u :: u :: u :: u :: u :: u :: u :: u :: u :: u :: u :: u :: u :: u :: u :: u :: u :: []), []⟩ ∧ J = j ∧ B = b ∧ b ≤ 8192 ∧ fewGo (l.drop j) b = R) (by omega) (by ((try (conv => lhs; cbv)); (try (with_reducible rfl)))) ⟨0, 0, 0, rfl, rfl, rfl, by omega, hR⟩ ?_
      rintro j hj st ⟨J, B, b, rfl, hJ, hB, hb, hgo⟩
      by_cases hjl : j < l.length
      · have hd : l.drop j = ix l J :: l.drop (j + 1) := by
          rw [X.ix_, hJ, Int.toNat_natCast, List.drop_eq_getElem_cons (by omega), List.getD_eq_getElem?_getD, List.getElem?_eq_getElem (by omega)]; rfl
        rw [hd, fewGo] at hgo
        have gx := X.get (l := l) (J := J) (by omega)
        generalize ix l J = e at *
        obtain ⟨⟨r, n⟩, tt, kd, doc, f, txt, gone⟩ := e
        dsimp only at gx hgo
        by_cases h1 : 130 < gone.length
        · rw [if_pos h1] at hgo
          subst hgo
          refine wpV_ofH (by ((try (conv => lhs; cbv)); (repeat ((first | (rewrite [gx]) | (rewrite [D.len]) | (rewrite [K.ltT]; rotate_left; focus ((try simp only [K.df, D.df, X.df, hzs, true_and, and_true]) <;> omega)) | (rewrite [K.gtT]; rotate_left; focus ((try simp only [K.df, D.df, X.df, hzs, true_and, and_true]) <;> omega))); (try (conv => lhs; cbv)))); (exact rfl))) ?_
          show finQ _ _ _ _ _
          (show finV _ _ _ = some _; ((try (conv => lhs; cbv)); (try (with_reducible rfl))); (try rfl))
        · rw [if_neg h1] at hgo
          by_cases c1 : doc.size ≤ 8192 <;> by_cases c2 : txt.size ≤ 8192
          · rw [Nat.min_eq_left c1, Nat.min_eq_left c2] at hgo
            by_cases h2 : 8192 < b + (doc.size + txt.size)
            · rw [if_pos h2] at hgo
              subst hgo
              refine wpV_ofH (by ((try (conv => lhs; cbv)); (repeat ((first | (rewrite [gx]) | (rewrite [sl]) | (rewrite [K.addr]; rotate_left; focus ((try simp only [K.df, D.df, X.df, hzs, true_and, and_true]) <;> omega)) | (rewrite [K.add]; rotate_left; focus ((try simp only [K.df, D.df, X.df, hzs, true_and, and_true]) <;> omega)) | (rewrite [D.len]) | (rewrite [K.ltT]; rotate_left; focus ((try simp only [K.df, D.df, X.df, hzs, true_and, and_true]) <;> omega)) | (rewrite [K.gtT]; rotate_left; focus ((try simp only [K.df, D.df, X.df, hzs, true_and, and_true]) <;> omega)) | (rewrite [K.miL]; rotate_left; focus ((try simp only [K.df, D.df, X.df, hzs, true_and, and_true]) <;> omega)) | (rewrite [K.gtF]; rotate_left; focus ((try simp only [K.df, D.df, X.df, hzs, true_and, and_true]) <;> omega))); (try (conv => lhs; cbv)))); (exact rfl))) ?_
              show finQ _ _ _ _ _
              (show finV _ _ _ = some _; ((try (conv => lhs; cbv)); (try (with_reducible rfl))); (try rfl))
            · rw [if_neg h2] at hgo
              refine wpV_ofH (by ((try (conv => lhs; cbv)); (repeat ((first | (rewrite [gx]) | (rewrite [sl]) | (rewrite [K.addr]; rotate_left; focus ((try simp only [K.df, D.df, X.df, hzs, true_and, and_true]) <;> omega)) | (rewrite [K.add]; rotate_left; focus ((try simp only [K.df, D.df, X.df, hzs, true_and, and_true]) <;> omega)) | (rewrite [D.len]) | (rewrite [K.ltT]; rotate_left; focus ((try simp only [K.df, D.df, X.df, hzs, true_and, and_true]) <;> omega)) | (rewrite [K.miL]; rotate_left; focus ((try simp only [K.df, D.df, X.df, hzs, true_and, and_true]) <;> omega)) | (rewrite [K.gtF]; rotate_left; focus ((try simp only [K.df, D.df, X.df, hzs, true_and, and_true]) <;> omega))); (try (conv => lhs; cbv)))); (exact rfl))) ?_
              refine headQ_ofH (by ((try (conv => lhs; cbv)); (exact rfl))) ?_
              refine ⟨hjl, _, _, _, rfl, ?_, ?_, ?_, hgo⟩
              · rw [K.pl_]; omega
              · rw [K.pl_, K.pl_, K.nt_, K.nt_, hzs, hzs]; omega
              · omega
          · rw [Nat.min_eq_left c1, Nat.min_eq_right (by omega)] at hgo
            by_cases h2 : 8192 < b + (doc.size + 8192)
            · rw [if_pos h2] at hgo
              subst hgo
              refine wpV_ofH (by ((try (conv => lhs; cbv)); (repeat ((first | (rewrite [gx]) | (rewrite [sl]) | (rewrite [K.addr]; rotate_left; focus ((try simp only [K.df, D.df, X.df, hzs, true_and, and_true]) <;> omega)) | (rewrite [K.add]; rotate_left; focus ((try simp only [K.df, D.df, X.df, hzs, true_and, and_true]) <;> omega)) | (rewrite [D.len]) | (rewrite [K.ltT]; rotate_left; focus ((try simp only [K.df, D.df, X.df, hzs, true_and, and_true]) <;> omega)) | (rewrite [K.gtT]; rotate_left; focus ((try simp only [K.df, D.df, X.df, hzs, true_and, and_true]) <;> omega)) | (rewrite [K.miL]; rotate_left; focus ((try simp only [K.df, D.df, X.df, hzs, true_and, and_true]) <;> omega)) | (rewrite [K.gtF]; rotate_left; focus ((try simp only [K.df, D.df, X.df, hzs, true_and, and_true]) <;> omega)) | (rewrite [K.miR]; rotate_left; focus ((try simp only [K.df, D.df, X.df, hzs, true_and, and_true]) <;> omega))); (try (conv => lhs; cbv)))); (exact rfl))) ?_
              show finQ _ _ _ _ _
              (show finV _ _ _ = some _; ((try (conv => lhs; cbv)); (try (with_reducible rfl))); (try rfl))
            · rw [if_neg h2] at hgo
              refine wpV_ofH (by ((try (conv => lhs; cbv)); (repeat ((first | (rewrite [gx]) | (rewrite [sl]) | (rewrite [K.addr]; rotate_left; focus ((try simp only [K.df, D.df, X.df, hzs, true_and, and_true]) <;> omega)) | (rewrite [K.add]; rotate_left; focus ((try simp only [K.df, D.df, X.df, hzs, true_and, and_true]) <;> omega)) | (rewrite [D.len]) | (rewrite [K.ltT]; rotate_left; focus ((try simp only [K.df, D.df, X.df, hzs, true_and, and_true]) <;> omega)) | (rewrite [K.miL]; rotate_left; focus ((try simp only [K.df, D.df, X.df, hzs, true_and, and_true]) <;> omega)) | (rewrite [K.gtF]; rotate_left; focus ((try simp only [K.df, D.df, X.df, hzs, true_and, and_true]) <;> omega)) | (rewrite [K.miR]; rotate_left; focus ((try simp only [K.df, D.df, X.df, hzs, true_and, and_true]) <;> omega))); (try (conv => lhs; cbv)))); (exact rfl))) ?_
              refine headQ_ofH (by ((try (conv => lhs; cbv)); (exact rfl))) ?_
              refine ⟨hjl, _, _, _, rfl, ?_, ?_, ?_, hgo⟩
              · rw [K.pl_]; omega
              · rw [K.pl_, K.pl_, K.nt_, hzs]; omega
              · omega
          · rw [Nat.min_eq_right (by omega), Nat.min_eq_left c2] at hgo
            by_cases h2 : 8192 < b + (8192 + txt.size)
            · rw [if_pos h2] at hgo
              subst hgo
              refine wpV_ofH (by ((try (conv => lhs; cbv)); (repeat ((first | (rewrite [gx]) | (rewrite [sl]) | (rewrite [K.addr]; rotate_left; focus ((try simp only [K.df, D.df, X.df, hzs, true_and, and_true]) <;> omega)) | (rewrite [K.add]; rotate_left; focus ((try simp only [K.df, D.df, X.df, hzs, true_and, and_true]) <;> omega)) | (rewrite [D.len]) | (rewrite [K.ltT]; rotate_left; focus ((try simp only [K.df, D.df, X.df, hzs, true_and, and_true]) <;> omega)) | (rewrite [K.gtT]; rotate_left; focus ((try simp only [K.df, D.df, X.df, hzs, true_and, and_true]) <;> omega)) | (rewrite [K.miL]; rotate_left; focus ((try simp only [K.df, D.df, X.df, hzs, true_and, and_true]) <;> omega)) | (rewrite [K.gtF]; rotate_left; focus ((try simp only [K.df, D.df, X.df, hzs, true_and, and_true]) <;> omega)) | (rewrite [K.miR]; rotate_left; focus ((try simp only [K.df, D.df, X.df, hzs, true_and, and_true]) <;> omega))); (try (conv => lhs; cbv)))); (exact rfl))) ?_
              show finQ _ _ _ _ _
              (show finV _ _ _ = some _; ((try (conv => lhs; cbv)); (try (with_reducible rfl))); (try rfl))
            · rw [if_neg h2] at hgo
              refine wpV_ofH (by ((try (conv => lhs; cbv)); (repeat ((first | (rewrite [gx]) | (rewrite [sl]) | (rewrite [K.addr]; rotate_left; focus ((try simp only [K.df, D.df, X.df, hzs, true_and, and_true]) <;> omega)) | (rewrite [K.add]; rotate_left; focus ((try simp only [K.df, D.df, X.df, hzs, true_and, and_true]) <;> omega)) | (rewrite [D.len]) | (rewrite [K.ltT]; rotate_left; focus ((try simp only [K.df, D.df, X.df, hzs, true_and, and_true]) <;> omega)) | (rewrite [K.miL]; rotate_left; focus ((try simp only [K.df, D.df, X.df, hzs, true_and, and_true]) <;> omega)) | (rewrite [K.gtF]; rotate_left; focus ((try simp only [K.df, D.df, X.df, hzs, true_and, and_true]) <;> omega)) | (rewrite [K.miR]; rotate_left; focus ((try simp only [K.df, D.df, X.df, hzs, true_and, and_true]) <;> omega))); (try (conv => lhs; cbv)))); (exact rfl))) ?_
              refine headQ_ofH (by ((try (conv => lhs; cbv)); (exact rfl))) ?_
              refine ⟨hjl, _, _, _, rfl, ?_, ?_, ?_, hgo⟩
              · rw [K.pl_]; omega
              · rw [K.pl_, K.pl_, K.nt_, hzs]; omega
              · omega
          · rw [Nat.min_eq_right (by omega), Nat.min_eq_right (by omega)] at hgo
            rw [if_pos (by omega)] at hgo
            subst hgo
            refine wpV_ofH (by ((try (conv => lhs; cbv)); (repeat ((first | (rewrite [gx]) | (rewrite [sl]) | (rewrite [K.addr]; rotate_left; focus ((try simp only [K.df, D.df, X.df, hzs, true_and, and_true]) <;> omega)) | (rewrite [K.add]; rotate_left; focus ((try simp only [K.df, D.df, X.df, hzs, true_and, and_true]) <;> omega)) | (rewrite [D.len]) | (rewrite [K.ltT]; rotate_left; focus ((try simp only [K.df, D.df, X.df, hzs, true_and, and_true]) <;> omega)) | (rewrite [K.gtT]; rotate_left; focus ((try simp only [K.df, D.df, X.df, hzs, true_and, and_true]) <;> omega)) | (rewrite [K.gtF]; rotate_left; focus ((try simp only [K.df, D.df, X.df, hzs, true_and, and_true]) <;> omega)) | (rewrite [K.miR]; rotate_left; focus ((try simp only [K.df, D.df, X.df, hzs, true_and, and_true]) <;> omega))); (try (conv => lhs; cbv)))); (exact rfl))) ?_
            show finQ _ _ _ _ _
            (show finV _ _ _ = some _; ((try (conv => lhs; cbv)); (try (with_reducible rfl))); (try rfl))
      · obtain rfl : j = l.length := by omega
        rw [List.drop_of_length_le (Nat.le_refl _), fewGo] at hgo
        subst hgo
        refine wpV_ofH (by ((try (conv => lhs; cbv)); (repeat ((first | (rewrite [K.ltF]; rotate_left; focus ((try simp only [K.df, D.df, X.df, hzs, true_and, and_true]) <;> omega))); (try (conv => lhs; cbv)))); (exact rfl))) ?_
        show wpV _ _ _ _ _ _
        refine wpV_ofH (by ((try (conv => lhs; cbv)); (repeat ((first | (rewrite [K.add]; rotate_left; focus ((try simp only [K.df, D.df, X.df, hzs, true_and, and_true]) <;> omega))); (try (conv => lhs; cbv)))); (exact rfl))) ?_
        have p01 : pl 0 1 = 1 := by rw [K.pl_]; rfl
        refine headQ_ofH (by ((try (conv => lhs; cbv)); (repeat ((first | (rewrite [p01])); (try (conv => lhs; cbv)))); (exact rfl))) ?_
        exact ⟨by omega, .inr ⟨rfl, rfl, h80, _, _, rfl⟩⟩
    · rw [decide_eq_false h80, Bool.false_and]
      by_cases h100 : l.length ≤ 100
      · refine wpV_ofH (by ((try (conv => lhs; cbv)); (repeat ((first | (rewrite [g1]) | (rewrite [ln]) | (rewrite [K.add]; rotate_left; focus ((try simp only [K.df, D.df, X.df, hzs, true_and, and_true]) <;> omega)) | (rewrite [K.ltT]; rotate_left; focus ((try simp only [K.df, D.df, X.df, hzs, true_and, and_true]) <;> omega)) | (rewrite [K.gtT]; rotate_left; focus ((try simp only [K.df, D.df, X.df, hzs, true_and, and_true]) <;> omega)) | (rewrite [K.miL]; rotate_left; focus ((try simp only [K.df, D.df, X.df, hzs, true_and, and_true]) <;> omega))); (try (conv => lhs; cbv)))); (exact rfl))) ?_
        show finQ _ _ _ _ _
        (show finV _ _ _ = some _; ((try (conv => lhs; cbv)); (try (with_reducible rfl))); (try rfl))
      · refine wpV_ofH (by ((try (conv => lhs; cbv)); (repeat ((first | (rewrite [g1]) | (rewrite [ln]) | (rewrite [K.add]; rotate_left; focus ((try simp only [K.df, D.df, X.df, hzs, true_and, and_true]) <;> omega)) | (rewrite [K.ltT]; rotate_left; focus ((try simp only [K.df, D.df, X.df, hzs, true_and, and_true]) <;> omega)) | (rewrite [K.gtT]; rotate_left; focus ((try simp only [K.df, D.df, X.df, hzs, true_and, and_true]) <;> omega)) | (rewrite [K.miR]; rotate_left; focus ((try simp only [K.df, D.df, X.df, hzs, true_and, and_true]) <;> omega))); (try (conv => lhs; cbv)))); (exact rfl))) ?_
        show finQ _ _ _ _ _
        (show finV _ _ _ = some _; ((try (conv => lhs; cbv)); (try (with_reducible rfl))); (try rfl))
  · rw [hgo, decide_eq_true hl80]
    refine wpV_ofH (by ((try (conv => lhs; cbv)); (repeat ((first | (rewrite [K.ltF]; rotate_left; focus ((try simp only [K.df, D.df, X.df, hzs, true_and, and_true]) <;> omega))); (try (conv => lhs; cbv)))); (exact rfl))) ?_
    show wpV _ _ _ _ _ _
    refine wpV_ofH (by ((try (conv => lhs; cbv)); (exact rfl))) ?_
    (show finV _ _ _ = some _; ((try (conv => lhs; cbv)); (try (with_reducible rfl))); (try rfl))
end Go.Proofs.Ytanpphoehajcgaa
