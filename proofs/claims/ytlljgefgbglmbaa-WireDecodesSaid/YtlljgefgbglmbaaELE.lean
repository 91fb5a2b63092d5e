/- Lists of events behind bytes: gone through, and the reference's. -/
import Derived.Test.YtlljgefgbglmbaaELC
set_option linter.unusedSimpArgs false
set_option linter.unusedVariables false
set_option maxRecDepth 100000
set_option maxHeartbeats 1000000
set_option cbv.maxSteps 10000000
namespace Go.Proofs.Ytlljgefgbglmbaa
open Go GoV

/-- For all at once. -/
theorem choose_le {P:Nat→Nat→Prop}:∀ (n:Nat),(∀ i,i<n→∃ k,∀ m,k≤m→P i m)→∃ k,∀ i,i<n→∀ m,k≤m→P i m
 | 0,_=>⟨0,fun i hi=>by omega⟩
 | n+1,h=>by
  obtain⟨k1,h1⟩:=choose_le n fun i hi=>h i (by omega)
  obtain⟨k2,h2⟩:=h n (by omega)
  refine⟨k1+k2,fun i hi m hm=>?_⟩
  by_cases e:i=n
  ·subst e;exact h2 m (by omega)
  ·exact h1 i (by omega) m (by omega)
/-- Where it may go on, it has as little left, or less. -/
def RS.le (s' s:RS):Prop:=s'.isOk=true→s.isOk=true∧s'.left≤s.left
def RS.lt (s' s:RS):Prop:=s'.isOk=true→s.isOk=true∧s'.left<s.left
theorem le_rfl (s:RS):RS.le s s:=fun h=>⟨h,Nat.le_refl _⟩
theorem lt_le {a b:RS} (h:RS.lt a b):RS.le a b:=fun x=>⟨(h x).1,Nat.le_of_lt (h x).2⟩
theorem le_trans {a b c:RS} (h:RS.le a b) (g:RS.le b c):RS.le a c:=fun x=>⟨(g (h x).1).1,Nat.le_trans (h x).2 (g (h x).1).2⟩
theorem lt_of_le {a b c:RS} (h:RS.le a b) (g:RS.lt b c):RS.lt a c:=fun x=>⟨(g (h x).1).1,Nat.lt_of_le_of_lt (h x).2 (g (h x).1).2⟩
theorem lt_of_lt {a b c:RS} (h:RS.lt a b) (g:RS.le b c):RS.lt a c:=fun x=>⟨(g (h x).1).1,Nat.lt_of_lt_of_le (h x).2 (g (h x).1).2⟩
theorem rawS_lt (bs:List Nat) (s:RS):RS.lt (rawS bs s).2 s:=by
 cases s with
 | er f e=>intro h;simp[rawS,RS.isOk] at h
 | ok f o n =>
  intro h
  simp only[rawS] at h ⊢
  repeat' split
  all_goals simp_all [RS.isOk,RS.left]
  all_goals omega
theorem numS_le (bs:List Nat) (most:Int) (s:RS):RS.lt (numS bs most s).2 s:=by
 have:=rawS_lt bs s
 unfold numS
 split
 ·rename_i heq;rw[heq] at this;exact this
 ·rename_i x s' heq;rw[heq] at this
  split
  ·intro h;cases s'<;>simp[RS.fail,RS.isOk] at h
  ·exact this
theorem takeS_le (j:Nat) (s:RS):RS.le (takeS j s).2 s:=by
 cases s with
 | er f e=>exact le_rfl _
 | ok f o n =>
  simp only[takeS]
  split
  ·intro h;simp[RS.isOk] at h
  ·intro _;exact⟨rfl,by simp[RS.left]⟩
theorem textS_le (bs:List Nat) (most:Int) (s:RS):RS.lt (textS bs most s).2 s:=by
 have:=lt_of_le (takeS_le (numS bs most s).1 (numS bs most s).2) (numS_le bs most s)
 unfold textS
 split
 ·rename_i heq;rw[heq] at this;exact this
 ·rename_i heq;rw[heq] at this;exact this
theorem dotS_le (bs:List Nat) (s:RS):RS.lt (dotS bs s).2 s:=lt_of_lt (numS_le _ _ _) (lt_le (numS_le _ _ _))
theorem gonGo_le (bs:List Nat):∀ (n:Nat) (l:List (Int × Int)) (s:RS),RS.le (gonGo bs n l s).2 s
 | 0,_,s=>le_rfl s
 | n+1,l,s=>by
  unfold gonGo
  split
  ·exact le_trans (gonGo_le bs n _ _) (lt_le (dotS_le bs s))
  ·exact le_rfl s
theorem r8_le (bs:List Nat) (s:RS):RS.lt (r8 bs s).2 s :=
 lt_of_le (gonGo_le bs _ _ _) (lt_of_lt (numS_le _ _ _) (lt_le (lt_of_lt (textS_le _ _ _) (lt_le (lt_of_lt (numS_le _ _ _) (lt_le (lt_of_lt (textS_le _ _ _) (lt_le (lt_of_lt (numS_le _ _ _) (lt_le (lt_of_lt (numS_le _ _ _) (lt_le (dotS_le bs s)))))))))))))
theorem evS_le (bs:List Nat) (s:RS):RS.lt (evS bs s).2 s:=by
 have:=r8_le bs s
 unfold evS
 split
 ·exact this
 ·split
  ·intro h;cases hh:(r8 bs s).2<;>rw[hh] at h<;>simp[RS.fail,RS.isOk] at h
  ·exact this
/-- So many events, read one behind the other. -/
def evN (bs:List Nat) (s:RS):Nat→List Ev × RS
 | 0=>([],s)
 | i+1=>((evN bs s i).1++[(evS bs (evN bs s i).2).1],(evS bs (evN bs s i).2).2)
theorem evN_len (bs:List Nat) (s:RS) (i:Nat):(evN bs s i).1.length=i:=by
 induction i with
 | zero=>rfl
 | succ i ih=>simp[evN,ih]
theorem evN_fits {bs:List Nat} {s:RS} (h:s.fits bs.length):∀ i,(evN bs s i).2.fits bs.length
 | 0=>h
 | i+1=>evS_fits (evN_fits h i)
theorem rounds (bs:List Nat) (s:RS) (n:Nat):∃ m,m≤s.left+1∧(m=n∨(evN bs s m).2.isOk=false)∧∀ j,j<m→j<n∧(evN bs s j).2.isOk=true:=by
 have hA:∀ j,(∀ i,i≤j→(evN bs s i).2.isOk=true)→(evN bs s j).2.left+j≤s.left:=by
  intro j
  induction j with
  | zero=>intro _;exact Nat.le_refl _
  | succ j ih =>
   intro h
   have:=ih fun i hi=>h i (by omega)
   have q:=(evS_le bs (evN bs s j).2 (h (j+1) (Nat.le_refl _))).2
   show (evS bs (evN bs s j).2).2.left+(j+1)≤s.left
   omega
 have hB:∀ k,(∃ m,m≤k∧(m=n∨(evN bs s m).2.isOk=false)∧∀ j,j<m→j<n∧(evN bs s j).2.isOk=true)∨(∀ j,j≤k→j<n∧(evN bs s j).2.isOk=true):=by
  intro k
  induction k with
  | zero =>
   by_cases h0:0=n∨(evN bs s 0).2.isOk=false
   ·exact .inl ⟨0,Nat.le_refl _,h0,fun j hj=>by omega⟩
   ·refine .inr fun j hj=>?_
    obtain rfl:j=0:=by omega
    cases h:(evN bs s 0).2.isOk with
    | false=>exact absurd (.inr h) h0
    | true=>exact⟨by rcases Nat.lt_or_ge 0 n with h|h;exact h;exact absurd (.inl (by omega)) h0,rfl⟩
  | succ k ih =>
   rcases ih with ⟨m,h1,h2⟩|h
   ·exact .inl ⟨m,by omega,h2⟩
   ·by_cases h0:k+1=n∨(evN bs s (k+1)).2.isOk=false
    ·exact .inl ⟨k+1,Nat.le_refl _,h0,fun j hj=>h j (by omega)⟩
    ·refine .inr fun j hj=>?_
     by_cases e:j=k+1
     ·subst e
      cases h':(evN bs s (k+1)).2.isOk with
      | false=>exact absurd (.inr h') h0
      | true =>
       refine⟨?_,rfl⟩
       have:=(h k (Nat.le_refl _)).1
       rcases Nat.lt_or_ge (k+1) n with g|g
       ·exact g
       ·exact absurd (.inl (by omega)) h0
     ·exact h j (by omega)
 rcases hB (s.left+1) with h|h
 ·exact h
 ·have:=hA (s.left+1) fun i hi=>(h i hi).2
  omega
end Go.Proofs.Ytlljgefgbglmbaa
