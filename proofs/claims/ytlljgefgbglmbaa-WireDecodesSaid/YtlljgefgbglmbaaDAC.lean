/- What a reader makes of a state's bytes, and that what was written is read: in plain Lean. -/
import Derived.Test.YtlljgefgbglmbaaDAA
import Derived.Test.YtlljgefgbglmbaaCGL
set_option linter.unusedSimpArgs false
set_option linter.unusedVariables false
set_option maxRecDepth 100000
set_option maxHeartbeats 1000000
namespace Go.Proofs.Ytlljgefgbglmbaa
open Go GoV
/-! ### What a reader makes of bytes -/
def wr1 (bs:List Nat) (s:RS):=dotS bs s
def wr2 (bs:List Nat) (s:RS):=numS bs 1099511627776 (wr1 bs s).2
def wr3 (bs:List Nat) (s:RS):=textS bs 12 (wr2 bs s).2
def wr4 (bs:List Nat) (s:RS):=numS bs 4 (wr3 bs s).2
def wr5 (bs:List Nat) (s:RS):=textS bs 160 (wr4 bs s).2
/-- A write, read. -/
def wrRd (bs:List Nat) (s:RS):Wr × RS:=(⟨(wr1 bs s).1,(wr2 bs s).1,(wr3 bs s).1,(wr4 bs s).1,(wr5 bs s).1⟩,(wr5 bs s).2)
def wrGo (bs:List Nat):Nat→List Wr→RS→List Wr × RS
 | 0,l,s=>(l,s)
 | n+1,l,s=>if s.err=0 then wrGo bs n (l++[(wrRd bs s).1]) (wrRd bs s).2 else (l,s)
def st1 (bs:List Nat) (s:RS):=vecS bs s
def st2 (bs:List Nat) (s:RS):=numS bs 4096 (st1 bs s).2
def st3 (bs:List Nat) (s:RS):=wrGo bs (st2 bs s).1 [] (st2 bs s).2
/-- A state, read. -/
def stS (bs:List Nat) (s:RS):(List Int × List Wr) × RS:=if (st3 bs s).2.err≠0 then ((zeros,[]),(st3 bs s).2) else if canB (st1 bs s).1 (st3 bs s).1=false then ((zeros,[]),(st3 bs s).2.fail 3) else (((st1 bs s).1,(st3 bs s).1),(st3 bs s).2)
theorem wrRd_fits {bs:List Nat} {s:RS} (h:s.fits bs.length):(wrRd bs s).2.fits bs.length:=textS_fits (numS_fits (textS_fits (numS_fits (dotS_fits h))))
theorem wrGo_fits {bs:List Nat}:∀ {n:Nat} {l:List Wr} {s:RS},s.fits bs.length→(wrGo bs n l s).2.fits bs.length
 | 0,_,_,h=>h
 | n+1,l,s,h=>by
  unfold wrGo
  split
  ·exact wrGo_fits (wrRd_fits h)
  ·exact h
theorem wrGo_len {bs:List Nat}:∀ {n:Nat} {l:List Wr} {s:RS},(wrGo bs n l s).1.length≤l.length+n
 | 0,_,_=>Nat.le_refl _
 | n+1,l,s=>by
  unfold wrGo
  split
  ·have:=wrGo_len (bs:=bs) (n:=n) (l:=l++[(wrRd bs s).1]) (s:=(wrRd bs s).2)
   simp only[List.length_append,List.length_cons,List.length_nil] at this
   omega
  ·dsimp only;omega
theorem wrGo_doc {bs:List Nat}:∀ {n:Nat} {l:List Wr} {s:RS},(∀ w,w∈l→w.doc.size≤bs.length)→∀ w,w∈(wrGo bs n l s).1→w.doc.size≤bs.length
 | 0,_,_,h=>h
 | n+1,l,s,h=>by
  unfold wrGo
  split
  ·refine wrGo_doc fun w hw=>?_
   rcases List.mem_append.1 hw with h1|h1
   ·exact h w h1
   ·simp only[List.mem_singleton] at h1
    subst h1
    exact textS_size
  ·exact h
theorem st3_fits {bs:List Nat} {s:RS} (h:s.fits bs.length):(st3 bs s).2.fits bs.length:=wrGo_fits (numS_fits (vecS_fits h))
theorem stS_fits {bs:List Nat} {s:RS} (h:s.fits bs.length):(stS bs s).2.fits bs.length:=by
 have:=st3_fits h
 unfold stS
 split
 ·exact this
 ·split
  ·exact fail_fits (by decide) this
  ·exact this
theorem stS_er {bs:List Nat} {s:RS} {f:Bool} {e:Int} (h:(st3 bs s).2=.er f e) (he:e≠0):stS bs s=((zeros,[]),.er f e):=by
 unfold stS;rw[h];exact if_pos he
theorem stS_bad {bs:List Nat} {s:RS} {f:Bool} {o n:Nat} (h:(st3 bs s).2=.ok f o n) (he:canB (st1 bs s).1 (st3 bs s).1=false):stS bs s=((zeros,[]),.er f 3):=by
 unfold stS;rw[h,if_neg (by simp[RS.err]),if_pos he];rfl
theorem stS_ok {bs:List Nat} {s:RS} {f:Bool} {o n:Nat} (h:(st3 bs s).2=.ok f o n) (he:canB (st1 bs s).1 (st3 bs s).1=true):stS bs s=(((st1 bs s).1,(st3 bs s).1),.ok f o n):=by
 unfold stS;rw[h,if_neg (by simp[RS.err]),if_neg (by simp[he])]
end Go.Proofs.Ytlljgefgbglmbaa
