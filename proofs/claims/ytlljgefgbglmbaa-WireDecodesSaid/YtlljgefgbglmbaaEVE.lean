/- Texts behind bytes, and read: gone through. -/
import Derived.Test.YtlljgefgbglmbaaUTE
import Derived.Test.YtlljgefgbglmbaaCGS
import Derived.Test.YtlljgefgbglmbaaCGK
set_option linter.unusedSimpArgs false
set_option linter.unusedVariables false
set_option maxRecDepth 100000
set_option maxHeartbeats 1000000
set_option cbv.maxSteps 10000000
namespace Go.Proofs.Ytlljgefgbglmbaa
open Go GoV

/-- A text's bytes. -/
def sbl (s:ByteArray):List Nat:=s.data.toList.map (·.toNat)
theorem sbl_len (s:ByteArray):(sbl s).length=s.size:=by simp[sbl]
theorem s2b_by8 (s:ByteArray):real .s2b s=by8 (sbl s):=by
 rw[real_s2b];simp[by8,sbl]
/-- Bytes as a text. -/
def strO (l:List Nat):ByteArray:=⟨(l.map fun n=>UInt8.ofNat n).toArray⟩
theorem b2s_by8 (l:List Nat):real .b2s (by8 l)=some (strO l):=by
 have h:∀ a:List Nat,rNums (by8 a)=some (a.map fun (n:Nat)=>(n:Int)):=by
  intro a
  induction a with
  | nil=>rfl
  | cons x r ih =>
   simp only[by8] at ih
   simp only[by8,List.map_cons,rNums,ih,Option.bind_some]
 rw[real_b2s];unfold rB2s
 rw[h]
 simp[strO]
def textS (bs:List Nat) (most:Int) (s:RS):ByteArray × RS :=
 match takeS (numS bs most s).1 (numS bs most s).2 with
 | (none,s')=>(⟨#[]⟩,s')
 | (some o,s')=>(strO ((bs.drop o).take (numS bs most s).1),s')
theorem takeS_fits {L j:Nat} {s:RS} (h:s.fits L):(takeS j s).2.fits L:=by
 cases s with
 | er f e=>exact h
 | ok f o n =>
  have h:o+n=L:=h
  simp only[takeS]
  split
  ·exact (by decide:(4:Int)≠0)
  ·show o+j+(n - j)=L
   omega
theorem textS_fits {bs:List Nat} {most:Int} {s:RS} (h:s.fits bs.length):(textS bs most s).2.fits bs.length:=by
 have:=takeS_fits (j:=(numS bs most s).1) (numS_fits (most:=most) h)
 unfold textS
 split
 ·rename_i heq;rw[heq] at this;exact this
 ·rename_i heq;rw[heq] at this;exact this
theorem isOk_take {j:Nat} {s:RS} (h:s.isOk=false):takeS j s=(none,s):=by
 cases s with
 | ok f o n=>cases h
 | er f e=>rfl
theorem numS_ee {bs:List Nat} {most:Int} {f:Bool} {e:Int}:numS bs most (.er f e)=(0,.er f e):=rfl
theorem n92 (bs:List Nat) (hb:∀ b,b∈bs→b<256) (most:Int) (s:RS) (hs:s.fits bs.length):Pn 14 92 [rp,i64 most] (rdS s.isOk (by8 bs) s) (.one (.iv (.str (textS bs most s).1))) (rdS s.isOk (by8 bs) (textS bs most s).2):=by
 refine playN 13 rfl rfl fun A call hA hcall=>?_
 obtain⟨pl,mi,ml,nt,tn,ad,sb,K⟩:=kit hA
 obtain⟨E,ix,sn,ll,cc,sg,B⟩:=lkit hA K (0:Nat) (fun b=>[.int .u8 (nt b)]) 1
 have hes:(by8 bs).length=bs.length:=by8_len bs
 have k1:=n44 bs hb most s hs 13 (by omega)
 have hf:=numS_fits (most:=most) hs
 have kt:∀ (j:Nat) (s:RS),s.fits bs.length→call 112 [rp,i64 j] (rdS s.isOk (by8 bs) s)=some (takeF (by8 bs) j (takeS j s).1,rdS s.isOk (by8 bs) (takeS j s).2):=fun j s h=>by rw[hcall];exact n112 _ _ _ (by rw[hes];exact h) 13 (by omega)
 have b0:A .b2s []=some ⟨#[]⟩:=by rw[hA];rfl
 have b1:∀ o j,A .b2s (rSeg (by8 bs) o j)=some (strO ((bs.drop o).take j)):=fun o j=>by
  rw[hA,← b2s_by8];congr 1;unfold rSeg by8;simp
 have hee:∀ f e,s=.er f e→numS bs most s=(0,s):=by rintro f e rfl;rfl
 rw[← hcall] at k1
 unfold textS
 generalize numS bs most s=N at *
 obtain⟨n,s1⟩:=N
 dsimp only at k1 hf ⊢
 have k2:=kt n s1 hf
 have hte:=fun h=>isOk_take (j:=n) (s:=s1) h
 have hts:∀ o,(takeS n s1).1=some o→(takeS n s1).2.isOk=true:=by
  intro o h
  cases s1 with
  | er f e=>simp[takeS] at h
  | ok f o' n' =>
   simp only[takeS] at h ⊢
   split at h
   ·cases h
   ·rename_i hc;rw[if_neg hc];rfl
 generalize takeS n s1=T at *
 obtain⟨r,s2⟩:=T
 dsimp only at k2 hts ⊢
 (conv at b0=>rhs;cbv)
 have em:(⟨#[]⟩:ByteArray)=⟨#[]⟩:=rfl
 obtain⟨e0,he0⟩:∃ e0:ByteArray,e0=⟨#[]⟩:=⟨_,rfl⟩
 generalize (n:Int)=NN at *
 cases s with
 | er f e =>
  have h1:=hee f e rfl
  simp only[Prod.mk.injEq] at h1
  obtain⟨h0,rfl⟩:=h1
  have h2:=hte rfl
  simp only[Prod.mk.injEq] at h2
  obtain⟨rfl,rfl⟩:=h2
  dsimp only[takeF,RS.isOk,cond_true,cond_false,rdS] at k1 k2 ⊢
  refine wpV_ofH (by ((try(conv=>lhs;cbv));(repeat((first|(rewrite[k1])|(rewrite[k2])|(rewrite[b0]));(try(conv=>lhs;cbv))));(exact rfl))) ?_
  (show finV _ _ _=some _;((try(conv=>lhs;cbv));(try(with_reducible rfl)));(try rfl))
 | ok f o n0 =>
  cases s1 with
  | er f1 e1 =>
   have h2:=hte rfl
   simp only[Prod.mk.injEq] at h2
   obtain⟨rfl,rfl⟩:=h2
   dsimp only[takeF,RS.isOk,cond_true,cond_false,rdS] at k1 k2 ⊢
   generalize by8 bs=es at *
   refine wpV_ofH (by ((try(conv=>lhs;cbv));(repeat((first|(rewrite[k1])|(rewrite[k2])|(rewrite[b0]));(try(conv=>lhs;cbv))));(exact rfl))) ?_
   (show finV _ _ _=some _;((try(conv=>lhs;cbv));(try(with_reducible rfl)));(try rfl))
  | ok f1 o1 n1 =>
   cases r with
   | none =>
    cases s2 with
    | ok f2 o2 n2 =>
     dsimp only[takeF,RS.isOk,cond_true,cond_false,rdS] at k1 k2 ⊢
     generalize by8 bs=es at *
     refine wpV_ofH (by ((try(conv=>lhs;cbv));(repeat((first|(rewrite[k1])|(rewrite[k2])|(rewrite[b0]));(try(conv=>lhs;cbv))));(exact rfl))) ?_
     (show finV _ _ _=some _;((try(conv=>lhs;cbv));(try(with_reducible rfl)));(try rfl))
    | er f2 e2 =>
     dsimp only[takeF,RS.isOk,cond_true,cond_false,rdS] at k1 k2 ⊢
     generalize by8 bs=es at *
     refine wpV_ofH (by ((try(conv=>lhs;cbv));(repeat((first|(rewrite[k1])|(rewrite[k2])|(rewrite[b0]));(try(conv=>lhs;cbv))));(exact rfl))) ?_
     (show finV _ _ _=some _;((try(conv=>lhs;cbv));(try(with_reducible rfl)));(try rfl))
   | some o2 =>
    have h3:=hts o2 rfl
    cases s2 with
    | er f2 e2=>cases h3
    | ok f2 o3 n3 =>
     have b2:=b1 o2 n
     dsimp only[takeF,RS.isOk,cond_true,cond_false,rdS] at k1 k2 ⊢
     generalize rSeg (by8 bs) o2 n=ss at *
     generalize strO ((bs.drop o2).take n)=str at *
     generalize by8 bs=es at *
     refine wpV_ofH (by ((try(conv=>lhs;cbv));(repeat((first|(rewrite[k1])|(rewrite[k2])|(rewrite[b2]));(try(conv=>lhs;cbv))));(exact rfl))) ?_
     (show finV _ _ _=some _;((try(conv=>lhs;cbv));(try(with_reducible rfl)));(try rfl))
/-! ### Dots -/
abbrev dotF (d:Int × Int):FV:=.agg [.iv (.int .i64 d.1),.iv (.int .i64 d.2)]
def dotS (bs:List Nat) (s:RS):(Int × Int) × RS:=(((numS bs 63 s).1,(numS bs 1073741824 (numS bs 63 s).2).1),(numS bs 1073741824 (numS bs 63 s).2).2)
theorem dotS_fits {bs:List Nat} {s:RS} (h:s.fits bs.length):(dotS bs s).2.fits bs.length:=numS_fits (numS_fits h)
theorem n91 (bs:List Nat) (hb:∀ b,b∈bs→b<256) (s:RS) (hs:s.fits bs.length):Pn 14 91 [rp] (rdS s.isOk (by8 bs) s) (dotF (dotS bs s).1) (rdS s.isOk (by8 bs) (dotS bs s).2):=by
 refine playN 13 rfl rfl fun A call hA hcall=>?_
 obtain⟨pl,mi,ml,nt,tn,ad,sb,K⟩:=kit hA
 obtain⟨E,ix,sn,ll,cc,sg,B⟩:=lkit hA K (0:Nat) (fun b=>[.int .u8 (nt b)]) 1
 have kn:∀ (J:Int) (s:RS),s.fits bs.length→call 44 [rp,i64 J] (rdS s.isOk (by8 bs) s)=some (i64 (numS bs J s).1,rdS s.isOk (by8 bs) (numS bs J s).2):=fun J s h=>by rw[hcall];exact n44 bs hb J s h 13 (by omega)
 have k1:=kn 63 s hs
 have hee:∀ f e,s=.er f e→numS bs 63 s=(0,s):=by rintro f e rfl;rfl
 have hf:=numS_fits (most:=63) hs
 unfold dotS
 generalize numS bs 63 s=N at *
 obtain⟨n,s1⟩:=N
 dsimp only at k1 hf ⊢
 have k2:=kn 1073741824 s1 hf
 have hee2:∀ f e,s1=.er f e→numS bs 1073741824 s1=(0,s1):=by rintro f e rfl;rfl
 generalize numS bs 1073741824 s1=N2 at *
 obtain⟨n2,s2⟩:=N2
 dsimp only[dotF] at k2 ⊢
 generalize (n:Int)=NN at *
 generalize (n2:Int)=NN2 at *
 cases s with
 | er f e =>
  have h1:=hee f e rfl
  simp only[Prod.mk.injEq] at h1
  obtain⟨h0,rfl⟩:=h1
  have h2:=hee2 f e rfl
  simp only[Prod.mk.injEq] at h2
  obtain⟨h00,rfl⟩:=h2
  dsimp only[RS.isOk,cond_true,cond_false,rdS] at k1 k2 ⊢
  refine wpV_ofH (by ((try(conv=>lhs;cbv));(repeat((first|(rewrite[k1])|(rewrite[k2]));(try(conv=>lhs;cbv))));(exact rfl))) ?_
  (show finV _ _ _=some _;((try(conv=>lhs;cbv));(try(with_reducible rfl)));(try rfl))
 | ok f o n0 =>
  cases s1 with
  | er f1 e1 =>
   have h2:=hee2 f1 e1 rfl
   simp only[Prod.mk.injEq] at h2
   obtain⟨h00,rfl⟩:=h2
   dsimp only[RS.isOk,cond_true,cond_false,rdS] at k1 k2 ⊢
   generalize by8 bs=es at *
   refine wpV_ofH (by ((try(conv=>lhs;cbv));(repeat((first|(rewrite[k1])|(rewrite[k2]));(try(conv=>lhs;cbv))));(exact rfl))) ?_
   (show finV _ _ _=some _;((try(conv=>lhs;cbv));(try(with_reducible rfl)));(try rfl))
  | ok f1 o1 n1 =>
   cases s2 with
   | er f2 e2 =>
    dsimp only[RS.isOk,cond_true,cond_false,rdS] at k1 k2 ⊢
    generalize by8 bs=es at *
    refine wpV_ofH (by ((try(conv=>lhs;cbv));(repeat((first|(rewrite[k1])|(rewrite[k2]));(try(conv=>lhs;cbv))));(exact rfl))) ?_
    (show finV _ _ _=some _;((try(conv=>lhs;cbv));(try(with_reducible rfl)));(try rfl))
   | ok f2 o3 n3 =>
    dsimp only[RS.isOk,cond_true,cond_false,rdS] at k1 k2 ⊢
    generalize by8 bs=es at *
    refine wpV_ofH (by ((try(conv=>lhs;cbv));(repeat((first|(rewrite[k1])|(rewrite[k2]));(try(conv=>lhs;cbv))));(exact rfl))) ?_
    (show finV _ _ _=some _;((try(conv=>lhs;cbv));(try(with_reducible rfl)));(try rfl))
def validB (d:Int × Int):Bool:=decide (0≤d.1∧d.1<64∧1≤d.2∧d.2≤1073741824)
theorem valid_cases (r n:Int):(validB (r,n)=false∧(r<0∨(0≤r∧64≤r)∨(0≤r∧r<64∧n<1)∨(0≤r∧r<64∧1≤n∧1073741824<n)))∨(validB (r,n)=true∧0≤r∧r<64∧1≤n∧n≤1073741824):=by
 by_cases h:0≤r∧r<64∧1≤n∧n≤1073741824
 ·exact .inr ⟨decide_eq_true h,h⟩
 ·exact .inl ⟨decide_eq_false h,by omega⟩
theorem n71 (r n:Int):Pn 1 71 [dotF (r,n)] [] (bl (validB (r,n))) []:=by
 refine playN 0 rfl rfl fun A call hA hcall=>?_
 obtain⟨pl,mi,ml,nt,tn,ad,sb,K⟩:=kit hA
 obtain⟨E,ix,sn,ll,cc,sg,I⟩:=lkit hA K (0:Int) (fun z=>[.int .i64 z]) 8
 rcases valid_cases r n with ⟨h,h1|h1|h1|h1⟩|⟨h,h1⟩
 all_goals
  rw[h]
  refine wpV_ofH (by ((try(conv=>lhs;cbv));(repeat((first|(rewrite[K.ltT];rotate_left;focus((try simp only[K.df,I.df,true_and,and_true])<;>omega))|(rewrite[K.leT];rotate_left;focus((try simp only[K.df,I.df,true_and,and_true])<;>omega))|(rewrite[K.geT];rotate_left;focus((try simp only[K.df,I.df,true_and,and_true])<;>omega))|(rewrite[K.ltF];rotate_left;focus((try simp only[K.df,I.df,true_and,and_true])<;>omega))|(rewrite[K.leF];rotate_left;focus((try simp only[K.df,I.df,true_and,and_true])<;>omega))|(rewrite[K.geF];rotate_left;focus((try simp only[K.df,I.df,true_and,and_true])<;>omega)));(try(conv=>lhs;cbv))));(exact rfl))) ?_
  (show finV _ _ _=some _;((try(conv=>lhs;cbv));(try(with_reducible rfl)));(try rfl))
theorem n77 (r n:Int):Pn 1 77 [dotF (r,n)] [] (bl (validB (r,n))) []:=by
 refine playN 0 rfl rfl fun A call hA hcall=>?_
 obtain⟨pl,mi,ml,nt,tn,ad,sb,K⟩:=kit hA
 obtain⟨E,ix,sn,ll,cc,sg,I⟩:=lkit hA K (0:Int) (fun z=>[.int .i64 z]) 8
 rcases valid_cases r n with ⟨h,h1|h1|h1|h1⟩|⟨h,h1⟩
 all_goals
  rw[h]
  refine wpV_ofH (by ((try(conv=>lhs;cbv));(repeat((first|(rewrite[K.leT];rotate_left;focus((try simp only[K.df,I.df,true_and,and_true])<;>omega))|(rewrite[K.geT];rotate_left;focus((try simp only[K.df,I.df,true_and,and_true])<;>omega))|(rewrite[K.leF];rotate_left;focus((try simp only[K.df,I.df,true_and,and_true])<;>omega))|(rewrite[K.geF];rotate_left;focus((try simp only[K.df,I.df,true_and,and_true])<;>omega)));(try(conv=>lhs;cbv))));(exact rfl))) ?_
  (show finV _ _ _=some _;((try(conv=>lhs;cbv));(try(with_reducible rfl)));(try rfl))
def ltD (a b:Int × Int):Bool:=decide (a.1<b.1∨a.1=b.1∧a.2<b.2)
def cmpI (x y:Int):Int:=if x<y then -1 else if y<x then 1 else 0
def cmpN (a b:Int × Int):Int:=if cmpI a.1 b.1=0 then cmpI a.2 b.2 else cmpI a.1 b.1
theorem cmpI_cases (x y:Int):(cmpI x y=-1∧x<y)∨(cmpI x y=0∧x=y)∨(cmpI x y=1∧y<x):=by
 unfold cmpI;repeat' split
 all_goals omega
theorem cmpN_lt (a b:Int × Int):cmpN a b<0↔ltD a b=true:=by
 simp only[ltD,decide_eq_true_eq,cmpN]
 rcases cmpI_cases a.1 b.1 with ⟨h,h1⟩|⟨h,h1⟩|⟨h,h1⟩<;>rcases cmpI_cases a.2 b.2 with ⟨k,k1⟩|⟨k,k1⟩|⟨k,k1⟩<;>rw[h,k]<;>simp<;>omega
theorem n79 (a b c d:Int):Pn 1 79 [dotF (a,b),dotF (c,d)] [] (bl (ltD (a,b) (c,d))) []:=by
 refine playN 0 rfl rfl fun A call hA hcall=>?_
 obtain⟨pl,mi,ml,nt,tn,ad,sb,K⟩:=kit hA
 obtain⟨E,ix,sn,ll,cc,sg,I⟩:=lkit hA K (0:Int) (fun z=>[.int .i64 z]) 8
 by_cases h1:a<c
 ·rw[show ltD (a,b) (c,d)=true from decide_eq_true (.inl h1)]
  refine wpV_ofH (by ((try(conv=>lhs;cbv));(repeat((first|(rewrite[K.ltT];rotate_left;focus((try simp only[K.df,I.df,true_and,and_true])<;>omega)));(try(conv=>lhs;cbv))));(exact rfl))) ?_
  (show finV _ _ _=some _;((try(conv=>lhs;cbv));(try(with_reducible rfl)));(try rfl))
 ·by_cases h2:a=c
  ·by_cases h3:b<d
   ·rw[show ltD (a,b) (c,d)=true from decide_eq_true (.inr ⟨h2,h3⟩)]
    refine wpV_ofH (by ((try(conv=>lhs;cbv));(repeat((first|(rewrite[K.ltT];rotate_left;focus((try simp only[K.df,I.df,true_and,and_true])<;>omega))|(rewrite[K.eqT];rotate_left;focus((try simp only[K.df,I.df,true_and,and_true])<;>omega))|(rewrite[K.ltF];rotate_left;focus((try simp only[K.df,I.df,true_and,and_true])<;>omega)));(try(conv=>lhs;cbv))));(exact rfl))) ?_
    (show finV _ _ _=some _;((try(conv=>lhs;cbv));(try(with_reducible rfl)));(try rfl))
   ·rw[show ltD (a,b) (c,d)=false from decide_eq_false (by dsimp only;omega)]
    refine wpV_ofH (by ((try(conv=>lhs;cbv));(repeat((first|(rewrite[K.eqT];rotate_left;focus((try simp only[K.df,I.df,true_and,and_true])<;>omega))|(rewrite[K.ltF];rotate_left;focus((try simp only[K.df,I.df,true_and,and_true])<;>omega)));(try(conv=>lhs;cbv))));(exact rfl))) ?_
    (show finV _ _ _=some _;((try(conv=>lhs;cbv));(try(with_reducible rfl)));(try rfl))
  ·rw[show ltD (a,b) (c,d)=false from decide_eq_false (by dsimp only;omega)]
   refine wpV_ofH (by ((try(conv=>lhs;cbv));(repeat((first|(rewrite[K.ltF];rotate_left;focus((try simp only[K.df,I.df,true_and,and_true])<;>omega))|(rewrite[K.eqF];rotate_left;focus((try simp only[K.df,I.df,true_and,and_true])<;>omega)));(try(conv=>lhs;cbv))));(exact rfl))) ?_
   (show finV _ _ _=some _;((try(conv=>lhs;cbv));(try(with_reducible rfl)));(try rfl))
theorem n118 (x:Int):Pn 1 118 [i64 x] [] (bl false) []:=by
 refine playN 0 rfl rfl fun A call hA hcall=>?_
 obtain⟨pl,mi,ml,nt,tn,ad,sb,K⟩:=kit hA
 obtain⟨E,ix,sn,ll,cc,sg,I⟩:=lkit hA K (0:Int) (fun z=>[.int .i64 z]) 8
 refine wpV_ofH (by ((try(conv=>lhs;cbv));(repeat((first|(rewrite[K.neF];rotate_left;focus((try simp only[K.df,I.df,true_and,and_true])<;>omega)));(try(conv=>lhs;cbv))));(exact rfl))) ?_
 (show finV _ _ _=some _;((try(conv=>lhs;cbv));(try(with_reducible rfl)));(try rfl))
theorem n109 (x y:Int):Pn 2 109 [i64 x,i64 y] [] (i64 (cmpI x y)) []:=by
 refine playN 1 rfl rfl fun A call hA hcall=>?_
 obtain⟨pl,mi,ml,nt,tn,ad,sb,K⟩:=kit hA
 obtain⟨E,ix,sn,ll,cc,sg,I⟩:=lkit hA K (0:Int) (fun z=>[.int .i64 z]) 8
 have k1:=n118 x 1 (by omega)
 have k2:=n118 y 1 (by omega)
 rw[← hcall] at k1 k2
 rcases cmpI_cases x y with ⟨h,h1⟩|⟨h,h1⟩|⟨h,h1⟩
 all_goals
  rw[h]
  refine wpV_ofH (by ((try(conv=>lhs;cbv));(repeat((first|(rewrite[k1])|(rewrite[k2])|(rewrite[K.ltT];rotate_left;focus((try simp only[K.df,I.df,true_and,and_true])<;>omega))|(rewrite[K.gtT];rotate_left;focus((try simp only[K.df,I.df,true_and,and_true])<;>omega))|(rewrite[K.ltF];rotate_left;focus((try simp only[K.df,I.df,true_and,and_true])<;>omega))|(rewrite[K.gtF];rotate_left;focus((try simp only[K.df,I.df,true_and,and_true])<;>omega)));(try(conv=>lhs;cbv))));(exact rfl))) ?_
  (show finV _ _ _=some _;((try(conv=>lhs;cbv));(try(with_reducible rfl)));(try rfl))
def orL:List Int→Int
 | []=>0
 | x::l=>if x=0 then orL l else x
theorem n107 (l:List Int) (t:Bool) (hl:l.length≤1000):Pn 1002 107 [.one (.iv (.sl t 1 (intsI l)))] [] (i64 (orL l)) []:=by
 refine playN 1001 rfl rfl fun A call hA hcall=>?_
 obtain⟨pl,mi,ml,nt,tn,ad,sb,K⟩:=kit hA
 obtain⟨E,ix,sn,ll,cc,sg,I⟩:=lkit hA K (0:Int) (fun z=>[.int .i64 z]) 8
 have hEI:intsI l=E l:=by rw[I.E_];rfl
 rw[hEI]
 obtain⟨M,hM⟩:∃ M:Int,M=nt (ll l):=⟨_,rfl⟩
 have hMl:M=l.length:=by rw[hM,K.nt_,I.ll_]
 have ln:A .len (E l)=M:=by rw[I.len,hM]
 generalize hR:orL l=R
 apply wpV_seq;refine wpV_ofH (by ((try(conv=>lhs;cbv));(exact rfl))) ?_
 apply wpV_seq;refine wpV_ofH (by ((try(conv=>lhs;cbv));(exact rfl))) ?_
 apply wpV_seq;apply wpV_seq;refine wpV_ofH (by ((try(conv=>lhs;cbv));(repeat((first|(rewrite[ln]));(try(conv=>lhs;cbv))));(exact rfl))) ?_
 apply wpV_block
 refine wpV_loop l.length (fun i st=>∃ J:Int,st=⟨0,[u,u,u,i64 0,u,u,.one (.iv (.sl t 1 (E l))),i64 M,i64 J,u,u,u,u,u,u,u,u,u],[]⟩∧J=i∧orL (l.drop i)=R) (by omega) (by ((try(conv=>lhs;cbv));(try(with_reducible rfl)))) ⟨0,rfl,rfl,hR⟩ ?_
 rintro i hi st ⟨J,rfl,hJ,hgo⟩
 by_cases him:i<l.length
 ·have hd:l.drop i=ix l J::l.drop (i+1):=by
   rw[I.ix_,hJ,Int.toNat_natCast,List.drop_eq_getElem_cons (by omega),List.getD_eq_getElem?_getD,List.getElem?_eq_getElem (by omega)];rfl
  rw[hd,orL] at hgo
  by_cases h0:ix l J=0
  ·rw[if_pos h0] at hgo
   refine wpV_ofH (by ((try(conv=>lhs;cbv));(repeat((first|(rewrite[K.add];rotate_left;focus((try simp only[K.df,I.df,true_and,and_true])<;>omega))|(rewrite[I.get];rotate_left;focus((try simp only[K.df,I.df,true_and,and_true])<;>omega))|(rewrite[K.ltT];rotate_left;focus((try simp only[K.df,I.df,true_and,and_true])<;>omega))|(rewrite[K.neF];rotate_left;focus((try simp only[K.df,I.df,true_and,and_true])<;>omega)));(try(conv=>lhs;cbv))));(exact rfl))) ?_
   refine headQ_ofH (by ((try(conv=>lhs;cbv));(exact rfl))) ?_
   refine⟨him,_,rfl,?_,hgo⟩
   rw[K.pl_];omega
  ·rw[if_neg h0] at hgo
   rw[← hgo]
   refine wpV_ofH (by ((try(conv=>lhs;cbv));(repeat((first|(rewrite[I.get];rotate_left;focus((try simp only[K.df,I.df,true_and,and_true])<;>omega))|(rewrite[K.ltT];rotate_left;focus((try simp only[K.df,I.df,true_and,and_true])<;>omega))|(rewrite[K.neT];rotate_left;focus((try simp only[K.df,I.df,true_and,and_true])<;>omega)));(try(conv=>lhs;cbv))));(exact rfl))) ?_
   show finQ _ _ _ _ _
   (show finV _ _ _=some _;((try(conv=>lhs;cbv));(try(with_reducible rfl)));(try rfl))
 ·obtain rfl:i=l.length:=by omega
  rw[List.drop_of_length_le (Nat.le_refl _),orL] at hgo
  rw[← hgo]
  refine wpV_ofH (by ((try(conv=>lhs;cbv));(repeat((first|(rewrite[K.ltF];rotate_left;focus((try simp only[K.df,I.df,true_and,and_true])<;>omega)));(try(conv=>lhs;cbv))));(exact rfl))) ?_
  show wpV _ _ _ _ _ _
  refine wpV_ofH (by ((try(conv=>lhs;cbv));(exact rfl))) ?_
  (show finV _ _ _=some _;((try(conv=>lhs;cbv));(try(with_reducible rfl)));(try rfl))
theorem n104 (a b c d:Int):Pn 1003 104 [dotF (a,b),dotF (c,d)] [] (i64 (cmpN (a,b) (c,d))) []:=by
 refine playN 1002 rfl rfl fun A call hA hcall=>?_
 obtain⟨pl,mi,ml,nt,tn,ad,sb,K⟩:=kit hA
 obtain⟨E,ix,sn,ll,cc,sg,I⟩:=lkit hA K (0:Int) (fun z=>[.int .i64 z]) 8
 have k1:=n109 a c 1002 (by omega)
 have k2:=n109 b d 1002 (by omega)
 have k3:=n107 [cmpI a c,cmpI b d] true (by simp) 1002 (by omega)
 have e:orL [cmpI a c,cmpI b d]=cmpN (a,b) (c,d):=by
  unfold cmpN
  simp only[orL]
  split
  ·split
   ·rename_i h;rw[h]
   ·rfl
  ·rfl
 rw[e,← hcall] at k3
 rw[← hcall] at k1 k2
 simp only[intsI,List.map_cons,List.map_nil] at k3
 dsimp only[dotF]
 generalize cmpI a c=x at *
 generalize cmpI b d=y at *
 generalize cmpN (a,b) (c,d)=w at *
 refine wpV_ofH (by ((try(conv=>lhs;cbv));(repeat((first|(rewrite[k1])|(rewrite[k2])|(rewrite[k3]));(try(conv=>lhs;cbv))));(exact rfl))) ?_
 (show finV _ _ _=some _;((try(conv=>lhs;cbv));(try(with_reducible rfl)));(try rfl))
/-! ### Names -/

def okc (b:Nat):Bool:=decide (97≤b∧b≤122∨48≤b∧b≤57∨b=45)
def nameB (s:ByteArray):Bool:=decide (1≤s.size)&&(decide (s.size≤12)&&(sbl s).all okc)
theorem size_0 (s:ByteArray):s=⟨#[]⟩↔s.size=0:=by
 constructor
 ·intro h;rw[h];rfl
 ·intro h
  cases s with
  | mk d =>
   have:d.size=0:=h
   rw[Array.eq_empty_of_size_eq_zero this]
theorem scE {A:Ar} (hA:A=real) (s:ByteArray):A .scmp .eql s ⟨#[]⟩=decide (s.size=0):=by
 rw[hA]
 show (s.toList==(⟨#[]⟩:ByteArray).toList)=_
 rw[Bool.eq_iff_iff,Go.Lib.bytes_beq_iff,decide_eq_true_eq]
 exact size_0 s
theorem scN {A:Ar} (hA:A=real) (s:ByteArray):A .scmp .neq s ⟨#[]⟩=decide (s.size≠0):=by
 have h:(s.toList==(⟨#[]⟩:ByteArray).toList)=decide (s.size=0):=scE (A:=real) rfl s
 rw[hA]
 show (!(s.toList==(⟨#[]⟩:ByteArray).toList))=_
 rw[h]
 simp
theorem n72 (s:ByteArray) (hs:s.size≤1000000000000000):Pn 14 72 [.one (.iv (.str s))] [] (bl (nameB s)) []:=by
 refine playN 13 rfl rfl fun A call hA hcall=>?_
 obtain⟨pl,mi,ml,nt,tn,ad,sb,K⟩:=kit hA
 obtain⟨E,ix,sn,ll,cc,sg,B⟩:=lkit hA K (0:Nat) (fun b=>[.int .u8 (nt b)]) 1
 have hE:∀ l,by8 l=E l:=fun l=>by rw[B.E_];exact (by8E K.nt_ l).symm
 have hsl:=sbl_len s
 have sb1:A .s2b s=E (sbl s):=by rw[hA,s2b_by8,hE]
 obtain⟨L,hL⟩:∃ L:Int,L=s.size:=⟨_,rfl⟩
 have l1:A .slen s=L:=by rw[hA,real_slen,hL]
 have se:=scE hA s
 obtain⟨q,hq⟩:∃ q,q=decide (s.size=0):=⟨_,rfl⟩
 rw[← hq] at se
 (conv at se=>lhs;arg 4;cbv)
 by_cases h0:s.size=0
 ·have:q=true:=by rw[hq];exact decide_eq_true h0
  subst this
  rw[show nameB s=false by unfold nameB;rw[decide_eq_false (by omega:¬ 1≤s.size)];rfl]
  refine wpV_ofH (by ((try(conv=>lhs;cbv));(repeat((first|(rewrite[se]));(try(conv=>lhs;cbv))));(exact rfl))) ?_
  (show finV _ _ _=some _;((try(conv=>lhs;cbv));(try(with_reducible rfl)));(try rfl))
 ·have:q=false:=by rw[hq];exact decide_eq_false h0
  subst this
  by_cases h1:12<s.size
  ·rw[show nameB s=false by unfold nameB;rw[decide_eq_false (by omega:¬ s.size≤12)];simp]
   refine wpV_ofH (by ((try(conv=>lhs;cbv));(repeat((first|(rewrite[se])|(rewrite[l1])|(rewrite[K.gtT];rotate_left;focus((try simp only[K.df,B.df,true_and,and_true])<;>omega)));(try(conv=>lhs;cbv))));(exact rfl))) ?_
   (show finV _ _ _=some _;((try(conv=>lhs;cbv));(try(with_reducible rfl)));(try rfl))
  ·have hnb:nameB s=(sbl s).all okc:=by
    unfold nameB
    rw[decide_eq_true (by omega:1≤s.size),decide_eq_true (by omega:s.size≤12)];rfl
   have ln:A .len (E (sbl s))=L:=by rw[B.len,K.nt_,B.ll_,hsl,hL]
   generalize hR:nameB s=R at *
   generalize sbl s=w at *
   apply wpV_seq;refine wpV_ofH (by ((try(conv=>lhs;cbv));(exact rfl))) ?_
   apply wpV_seq;refine wpV_ofH (by ((try(conv=>lhs;cbv));(repeat((first|(rewrite[se])|(rewrite[l1])|(rewrite[K.gtF];rotate_left;focus((try simp only[K.df,B.df,true_and,and_true])<;>omega)));(try(conv=>lhs;cbv))));(exact rfl))) ?_
   apply wpV_seq;apply wpV_seq;refine wpV_ofH (by ((try(conv=>lhs;cbv));(repeat((first|(rewrite[sb1])|(rewrite[ln]));(try(conv=>lhs;cbv))));(exact rfl))) ?_
   apply wpV_block
   refine wpV_loop w.length (fun i st=>∃ J:Int,st=⟨0,[u,u,u,u,u,u,u,u,u,u,u,u,u,.one (.iv (.sl false 1 (E w))),i64 L,i64 J,u,u,u,u,u,u,u,u,u,u,u,u,u,u,u,u,u,u,u,u,u,u],[]⟩∧J=i∧R=(w.drop i).all okc) (by omega) (by ((try(conv=>lhs;cbv));(try(with_reducible rfl)))) ⟨0,rfl,rfl,hnb⟩ ?_
   rintro i hi st ⟨J,rfl,hJ,hgo⟩
   by_cases him:i<w.length
   ·have hd:w.drop i=ix w J::w.drop (i+1):=by
     rw[B.ix_,hJ,Int.toNat_natCast,List.drop_eq_getElem_cons (by omega),List.getD_eq_getElem?_getD,List.getElem?_eq_getElem (by omega)];rfl
    rw[hd,List.all_cons] at hgo
    have hg:=B.get (l:=w) (J:=J) (by omega)
    generalize ix w J=b at *
    have cases:(okc b=true∧((97≤b∧b≤122)∨(48≤b∧b≤57)∨b=45))∨(okc b=false∧((b<45)∨(45<b∧b<48)∨(57<b∧b<97)∨122<b)):=by
     by_cases h:97≤b∧b≤122∨48≤b∧b≤57∨b=45
     ·exact .inl ⟨decide_eq_true h,h⟩
     ·exact .inr ⟨decide_eq_false h,by omega⟩
    rcases cases with ⟨h,h1|h1|h1⟩|⟨h,h1|h1|h1|h1⟩
    iterate 3
     ·rw[h,Bool.true_and] at hgo
      refine wpV_ofH (by ((try(conv=>lhs;cbv));(repeat((first|(rewrite[hg])|(rewrite[K.add];rotate_left;focus((try simp only[K.df,B.df,true_and,and_true])<;>omega))|(rewrite[K.ltT];rotate_left;focus((try simp only[K.df,B.df,true_and,and_true])<;>omega))|(rewrite[K.ltF];rotate_left;focus((try simp only[K.df,B.df,true_and,and_true])<;>omega))|(rewrite[K.gtF];rotate_left;focus((try simp only[K.df,B.df,true_and,and_true])<;>omega))|(rewrite[K.neF];rotate_left;focus((try simp only[K.df,B.df,true_and,and_true])<;>omega)));(try(conv=>lhs;cbv))));(exact rfl))) ?_
      refine headQ_ofH (by ((try(conv=>lhs;cbv));(exact rfl))) ?_
      refine⟨him,_,rfl,?_,hgo⟩
      rw[K.pl_];omega
    all_goals
     rw[h,Bool.false_and] at hgo
     subst hgo
     refine wpV_ofH (by ((try(conv=>lhs;cbv));(repeat((first|(rewrite[hg])|(rewrite[K.ltT];rotate_left;focus((try simp only[K.df,B.df,true_and,and_true])<;>omega))|(rewrite[K.gtT];rotate_left;focus((try simp only[K.df,B.df,true_and,and_true])<;>omega))|(rewrite[K.neT];rotate_left;focus((try simp only[K.df,B.df,true_and,and_true])<;>omega))|(rewrite[K.ltF];rotate_left;focus((try simp only[K.df,B.df,true_and,and_true])<;>omega)));(try(conv=>lhs;cbv))));(exact rfl))) ?_
     show finQ _ _ _ _ _
     (show finV _ _ _=some _;((try(conv=>lhs;cbv));(try(with_reducible rfl)));(try rfl))
   ·obtain rfl:i=w.length:=by omega
    rw[List.drop_of_length_le (Nat.le_refl _),List.all_nil] at hgo
    subst hgo
    refine wpV_ofH (by ((try(conv=>lhs;cbv));(repeat((first|(rewrite[K.ltF];rotate_left;focus((try simp only[K.df,B.df,true_and,and_true])<;>omega)));(try(conv=>lhs;cbv))));(exact rfl))) ?_
    show wpV _ _ _ _ _ _
    refine wpV_ofH (by ((try(conv=>lhs;cbv));(exact rfl))) ?_
    (show finV _ _ _=some _;((try(conv=>lhs;cbv));(try(with_reducible rfl)));(try rfl))
theorem nxt_range (s:ByteArray) (i:Nat) (hi:i<s.size):-1≤(nxt s i).1∧(nxt s i).1≤1114111∧1≤(nxt s i).2∧(nxt s i).2≤s.size - i:=by
 have:=nx_range (s.size - i) (by omega) (bt_range s i).1 (bt_range s (i+1)).1 (bt_range s (i+2)).1 (bt_range s (i+3)).1
 unfold nxt
 omega
/-- Is a text UTF-8, from i on? -/
def valGo (s:ByteArray):Nat→Nat→Bool
 | 0,_=>true
 | k+1,i=>if i<s.size then (if (nxt s i).1<0 then false else valGo s k (i+(nxt s i).2.toNat)) else true
def validS (s:ByteArray):Bool:=valGo s (s.size+1) 0
theorem n105 (s:ByteArray) (hs:s.size≤1000):∃ k,Pn k 105 [.one (.iv (.str s))] [] (bl (validS s)) []:=by
 obtain⟨kk,hk⟩:=Plays.all pr_mono (T:=lookT tab) (pr:=fun _=>clonePr clones) (f:=116) (vs:=fun i=>[.one (.iv (.str s)),i64 i]) (bs:=fun _=>[]) (r:=fun i=>(tupF (nxt s i).1 (nxt s i).2,[])) (m:=s.size) (fun i hi=>p116 s (by omega) i hi)
 refine⟨kk+1002,playN (kk+1001) rfl rfl fun A call hA hcall=>?_⟩
 obtain⟨pl,mi,ml,nt,tn,ad,sb,K⟩:=kit hA
 obtain⟨E,ix,sn,ll,cc,sg,D⟩:=lkit hA K ((0,0):Int × Int) (fun p=>[.int .i64 p.1,.int .i64 p.2]) 16
 have hk:=hk (kk+1001) (by omega)
 rw[← hcall] at hk
 obtain⟨L,hL⟩:∃ L:Int,L=s.size:=⟨_,rfl⟩
 have l1:A .slen s=L:=by rw[hA,real_slen,hL]
 generalize hR:validS s=R
 unfold validS at hR
 apply wpV_seq;refine wpV_ofH (by ((try(conv=>lhs;cbv));(exact rfl))) ?_
 apply wpV_seq;apply wpV_seq;refine wpV_ofH (by ((try(conv=>lhs;cbv));(exact rfl))) ?_
 apply wpV_block
 refine wpV_loop s.size (fun j st=>∃ (i:Nat) (J:Int),st=⟨0,[.one (.iv (.str s)),u,u,i64 J,u,u,u,u,u,u,u,u,u,u,u,u,u,u,u,u,u],[]⟩∧J=i∧i≤s.size∧j≤i∧valGo s (s.size+1 - j) i=R) (by omega) (by ((try(conv=>lhs;cbv));(try(with_reducible rfl)))) ⟨0,0,rfl,rfl,by omega,by omega,hR⟩ ?_
 rintro j hj st ⟨i,J,rfl,hJ,hi,hji,hgo⟩
 rw[show s.size+1 - j=(s.size - j)+1 by omega,valGo] at hgo
 by_cases him:i<s.size
 ·rw[if_pos him] at hgo
  have k1:=hk i him
  rw[← hJ] at k1
  have hr:=nxt_range s i him
  dsimp only[tupF] at k1
  by_cases hn:(nxt s i).1<0
  ·rw[if_pos hn] at hgo
   subst hgo
   generalize (nxt s i).1=X at *
   generalize (nxt s i).2=Y at *
   refine wpV_ofH (by ((try(conv=>lhs;cbv));(repeat((first|(rewrite[l1])|(rewrite[k1])|(rewrite[K.ltT];rotate_left;focus((try simp only[K.df,D.df,true_and,and_true])<;>omega)));(try(conv=>lhs;cbv))));(exact rfl))) ?_
   show finQ _ _ _ _ _
   (show finV _ _ _=some _;((try(conv=>lhs;cbv));(try(with_reducible rfl)));(try rfl))
  ·rw[if_neg hn] at hgo
   generalize (nxt s i).1=X at *
   generalize (nxt s i).2=Y at *
   refine wpV_ofH (by ((try(conv=>lhs;cbv));(repeat((first|(rewrite[l1])|(rewrite[k1])|(rewrite[K.add];rotate_left;focus((try simp only[K.df,D.df,true_and,and_true])<;>omega))|(rewrite[K.ltT];rotate_left;focus((try simp only[K.df,D.df,true_and,and_true])<;>omega))|(rewrite[K.ltF];rotate_left;focus((try simp only[K.df,D.df,true_and,and_true])<;>omega)));(try(conv=>lhs;cbv))));(exact rfl))) ?_
   refine headQ_ofH (by ((try(conv=>lhs;cbv));(exact rfl))) ?_
   refine⟨by omega,i+Y.toNat,_,rfl,?_,by omega,by omega,?_⟩
   ·rw[K.pl_];omega
   ·rw[show s.size+1 - (j+1)=s.size - j by omega];exact hgo
 ·rw[if_neg him] at hgo
  subst hgo
  refine wpV_ofH (by ((try(conv=>lhs;cbv));(repeat((first|(rewrite[l1])|(rewrite[K.ltF];rotate_left;focus((try simp only[K.df,D.df,true_and,and_true])<;>omega)));(try(conv=>lhs;cbv))));(exact rfl))) ?_
  show wpV _ _ _ _ _ _
  refine wpV_ofH (by ((try(conv=>lhs;cbv));(exact rfl))) ?_
  (show finV _ _ _=some _;((try(conv=>lhs;cbv));(try(with_reducible rfl)));(try rfl))
def textC (f:Int) (s:ByteArray):Int:=if f<0∨4<f∨f=0∧s.size≠0 then 1 else if 160<s.size then 5 else if validS s=true then 0 else 7
theorem n74 (f:Int) (s:ByteArray):∃ k,Pn k 74 [i64 f,.one (.iv (.str s))] [] (i64 (textC f s)) []:=by
 obtain⟨k,hk⟩:∃ k,s.size≤1000→Pn k 105 [.one (.iv (.str s))] [] (bl (validS s)) []:=by
  by_cases h:s.size≤1000
  ·obtain⟨k,hk⟩:=n105 s h;exact⟨k,fun _=>hk⟩
  ·exact⟨0,fun h'=>absurd h' h⟩
 refine⟨k+1,playN k rfl rfl fun A call hA hcall=>?_⟩
 obtain⟨pl,mi,ml,nt,tn,ad,sb,K⟩:=kit hA
 obtain⟨E,ix,sn,ll,cc,sg,D⟩:=lkit hA K ((0,0):Int × Int) (fun p=>[.int .i64 p.1,.int .i64 p.2]) 16
 obtain⟨L,hL⟩:∃ L:Int,L=s.size:=⟨_,rfl⟩
 have l1:A .slen s=L:=by rw[hA,real_slen,hL]
 have se:=scN hA s
 obtain⟨q,hq⟩:∃ q,q=decide (s.size≠0):=⟨_,rfl⟩
 rw[← hq] at se
 (conv at se=>lhs;arg 4;cbv)
 unfold textC
 by_cases h1:f<0
 ·rw[if_pos (.inl h1)]
  refine wpV_ofH (by ((try(conv=>lhs;cbv));(repeat((first|(rewrite[K.ltT];rotate_left;focus((try simp only[K.df,D.df,true_and,and_true])<;>omega)));(try(conv=>lhs;cbv))));(exact rfl))) ?_
  (show finV _ _ _=some _;((try(conv=>lhs;cbv));(try(with_reducible rfl)));(try rfl))
 ·by_cases h2:4<f
  ·rw[if_pos (.inr (.inl h2))]
   refine wpV_ofH (by ((try(conv=>lhs;cbv));(repeat((first|(rewrite[K.gtT];rotate_left;focus((try simp only[K.df,D.df,true_and,and_true])<;>omega))|(rewrite[K.ltF];rotate_left;focus((try simp only[K.df,D.df,true_and,and_true])<;>omega)));(try(conv=>lhs;cbv))));(exact rfl))) ?_
   (show finV _ _ _=some _;((try(conv=>lhs;cbv));(try(with_reducible rfl)));(try rfl))
  ·by_cases h3:f=0
   ·by_cases h4:s.size≠0
    ·rw[if_pos (.inr (.inr ⟨h3,h4⟩))]
     rw[show q=true by rw[hq];exact decide_eq_true h4] at se
     refine wpV_ofH (by ((try(conv=>lhs;cbv));(repeat((first|(rewrite[se])|(rewrite[K.eqT];rotate_left;focus((try simp only[K.df,D.df,true_and,and_true])<;>omega))|(rewrite[K.ltF];rotate_left;focus((try simp only[K.df,D.df,true_and,and_true])<;>omega))|(rewrite[K.gtF];rotate_left;focus((try simp only[K.df,D.df,true_and,and_true])<;>omega)));(try(conv=>lhs;cbv))));(exact rfl))) ?_
     (show finV _ _ _=some _;((try(conv=>lhs;cbv));(try(with_reducible rfl)));(try rfl))
    ·rw[if_neg (by omega),if_neg (by omega)]
     rw[show q=false by rw[hq];exact decide_eq_false h4] at se
     have k1:=hk (by omega) k (Nat.le_refl _)
     rw[← hcall] at k1
     cases hv:validS s with
     | true =>
      rw[hv] at k1
      rw[if_pos rfl]
      refine wpV_ofH (by ((try(conv=>lhs;cbv));(repeat((first|(rewrite[se])|(rewrite[l1])|(rewrite[k1])|(rewrite[K.eqT];rotate_left;focus((try simp only[K.df,D.df,true_and,and_true])<;>omega))|(rewrite[K.ltF];rotate_left;focus((try simp only[K.df,D.df,true_and,and_true])<;>omega))|(rewrite[K.gtF];rotate_left;focus((try simp only[K.df,D.df,true_and,and_true])<;>omega)));(try(conv=>lhs;cbv))));(exact rfl))) ?_
      (show finV _ _ _=some _;((try(conv=>lhs;cbv));(try(with_reducible rfl)));(try rfl))
     | false =>
      rw[hv] at k1
      rw[if_neg (by decide)]
      refine wpV_ofH (by ((try(conv=>lhs;cbv));(repeat((first|(rewrite[se])|(rewrite[l1])|(rewrite[k1])|(rewrite[K.eqT];rotate_left;focus((try simp only[K.df,D.df,true_and,and_true])<;>omega))|(rewrite[K.ltF];rotate_left;focus((try simp only[K.df,D.df,true_and,and_true])<;>omega))|(rewrite[K.gtF];rotate_left;focus((try simp only[K.df,D.df,true_and,and_true])<;>omega)));(try(conv=>lhs;cbv))));(exact rfl))) ?_
      (show finV _ _ _=some _;((try(conv=>lhs;cbv));(try(with_reducible rfl)));(try rfl))
   ·rw[if_neg (by omega)]
    by_cases h5:160<s.size
    ·rw[if_pos h5]
     refine wpV_ofH (by ((try(conv=>lhs;cbv));(repeat((first|(rewrite[l1])|(rewrite[K.gtT];rotate_left;focus((try simp only[K.df,D.df,true_and,and_true])<;>omega))|(rewrite[K.ltF];rotate_left;focus((try simp only[K.df,D.df,true_and,and_true])<;>omega))|(rewrite[K.gtF];rotate_left;focus((try simp only[K.df,D.df,true_and,and_true])<;>omega))|(rewrite[K.eqF];rotate_left;focus((try simp only[K.df,D.df,true_and,and_true])<;>omega)));(try(conv=>lhs;cbv))));(exact rfl))) ?_
     (show finV _ _ _=some _;((try(conv=>lhs;cbv));(try(with_reducible rfl)));(try rfl))
    ·rw[if_neg h5]
     have k1:=hk (by omega) k (Nat.le_refl _)
     rw[← hcall] at k1
     cases hv:validS s with
     | true =>
      rw[hv] at k1
      rw[if_pos rfl]
      refine wpV_ofH (by ((try(conv=>lhs;cbv));(repeat((first|(rewrite[l1])|(rewrite[k1])|(rewrite[K.ltF];rotate_left;focus((try simp only[K.df,D.df,true_and,and_true])<;>omega))|(rewrite[K.gtF];rotate_left;focus((try simp only[K.df,D.df,true_and,and_true])<;>omega))|(rewrite[K.eqF];rotate_left;focus((try simp only[K.df,D.df,true_and,and_true])<;>omega)));(try(conv=>lhs;cbv))));(exact rfl))) ?_
      (show finV _ _ _=some _;((try(conv=>lhs;cbv));(try(with_reducible rfl)));(try rfl))
     | false =>
      rw[hv] at k1
      rw[if_neg (by decide)]
      refine wpV_ofH (by ((try(conv=>lhs;cbv));(repeat((first|(rewrite[l1])|(rewrite[k1])|(rewrite[K.ltF];rotate_left;focus((try simp only[K.df,D.df,true_and,and_true])<;>omega))|(rewrite[K.gtF];rotate_left;focus((try simp only[K.df,D.df,true_and,and_true])<;>omega))|(rewrite[K.eqF];rotate_left;focus((try simp only[K.df,D.df,true_and,and_true])<;>omega)));(try(conv=>lhs;cbv))));(exact rfl))) ?_
      (show finV _ _ _=some _;((try(conv=>lhs;cbv));(try(with_reducible rfl)));(try rfl))
/-! ### Dots that an event takes away -/
def eDs (l:List (Int × Int)):List (List IV):=l.map fun p=>[.int .i64 p.1,.int .i64 p.2]
/-- From i on: each may be, is not the event's, and stands behind the one ahead. -/
def gGo (own:Int × Int) (l:List (Int × Int)):Nat→Nat→Bool
 | 0,_=>true
 | k+1,i=>if validB (l.getD i (0,0))=false∨l.getD i (0,0)=own∨0<i∧0≤cmpN (l.getD (i - 1) (0,0)) (l.getD i (0,0)) then false else gGo own l k (i+1)
def goneB (own:Int × Int) (l:List (Int × Int)):Bool:=gGo own l l.length 0&&decide (l.length≤120)
theorem eqvD {A:Ar} (hA:A=real) (a b c d:Int):A .eqv ([.int]++[.int]) [.int .i64 a,.int .i64 b] [.int .i64 c,.int .i64 d]=some (decide ((a,b)=(c,d))):=by
 rw[hA,real_eqv]
 unfold rEqv
 simp only[flatI,Option.bind_some,rEqL,rEqK,if_true,List.singleton_append,List.cons_append,List.nil_append,Prod.mk.injEq]
 by_cases h1:a=c<;>by_cases h2:b=d<;>simp[h1,h2]
theorem n73 (a b:Int) (l:List (Int × Int)) (t:Bool) (z:Nat) (hz:z=2∨z=0∧l=[]) (hl:l.length≤1000000000) :
  Pn (l.length+1010) 73 [dotF (a,b),.one (.iv (.sl t z (eDs l)))] [] (bl (goneB (a,b) l)) []:=by
 refine playN (l.length+1009) rfl rfl fun A call hA hcall=>?_
 obtain⟨pl,mi,ml,nt,tn,ad,sb,K⟩:=kit hA
 obtain⟨E,ix,sn,ll,cc,sg,D⟩:=lkit hA K ((0,0):Int × Int) (fun p=>[.int .i64 p.1,.int .i64 p.2]) 16
 have hE:eDs l=E l:=by rw[D.E_];rfl
 have k71:∀ r n,call 71 [dotF (r,n)] []=some (bl (validB (r,n)),[]):=fun r n=>by rw[hcall];exact n71 r n _ (by omega)
 have k104:∀ p q r s,call 104 [dotF (p,q),dotF (r,s)] []=some (i64 (cmpN (p,q) (r,s)),[]):=fun p q r s=>by rw[hcall];exact n104 p q r s _ (by omega)
 obtain⟨M,hM⟩:∃ M:Int,M=nt (ll l):=⟨_,rfl⟩
 have hMl:M=l.length:=by rw[hM,K.nt_,D.ll_]
 have ln:A .len (E l)=M:=by rw[D.len,hM]
 rw[hE]
 unfold goneB
 generalize hR:gGo (a,b) l l.length 0=R
 have fin:∀ st,headV false [1,2,7,8,9] st=some ⟨0,[u,.one (.iv (.sl t z (E l))),.one (.ptr 0 0),u,u,u,u,.one (.iv (.sl t z (E l))),i64 M,i64 0,u,u,u,u,u,u,u,u,u,u,u,u,u,u,u,u,u,u,u,u,u,u,u,u,u,u,u,u,u,u],[.var false [.iv (.int .i64 a),.iv (.int .i64 b)]]⟩ →
   wpV A call (iterN (l.length+1009)) (.block 0 (.loop false [1,2,7,8,9] l73_0)) st (seqQ A call (iterN (l.length+1009)) (.seq (.region false [⟨some 37,.mov none (.t 1),[],none⟩,
  ⟨some 38,.blt .len [.t 37],[],none⟩,
  ⟨some 39,.bin .leq (.t 38) (.k (.one (.iv (.int .i64 120)))),[],none⟩,
  ⟨some 4,.mov none (.t 39),[],none⟩])
 (.ret)) (finQ A v73 (bl (R&&decide (l.length≤120)),[]))):=by
  intro st0 hst
  apply wpV_block
  refine wpV_loop l.length (fun i st=>∃ J:Int,st=⟨0,[u,.one (.iv (.sl t z (E l))),.one (.ptr 0 0),u,u,u,u,.one (.iv (.sl t z (E l))),i64 M,i64 J,u,u,u,u,u,u,u,u,u,u,u,u,u,u,u,u,u,u,u,u,u,u,u,u,u,u,u,u,u,u],[.var false [.iv (.int .i64 a),.iv (.int .i64 b)]]⟩∧J=i∧gGo (a,b) l (l.length - i) i=R) (by omega) hst ⟨0,rfl,rfl,hR⟩ ?_
  rintro i hi st ⟨J,rfl,hJ,hgo⟩
  by_cases him:i<l.length
  ·obtain rfl:z=2:=by
    rcases hz with h|⟨h,h2⟩
    ·exact h
    ·rw[h2] at him;simp at him
   rw[show l.length - i=(l.length - i - 1)+1 by omega,gGo] at hgo
   have g1:=D.get (l:=l) (J:=J) (by omega)
   have hx:ix l J=l.getD i (0,0):=by rw[D.ix_,hJ];rfl
   rw[← hx] at hgo
   generalize hd:ix l J=d at *
   obtain⟨r,n⟩:=d
   have kv:=k71 r n
   have eq:=eqvD hA r n a b
   (conv at eq=>lhs;arg 2;cbv)
   have q1:validB (r,n)=true∨validB (r,n)=false:=by cases validB (r,n)<;>simp
   dsimp only[dotF] at kv g1
   rcases q1 with q1|q1
   ·rw[q1] at kv hgo
    by_cases q2:(r,n)=(a,b)
    ·rw[decide_eq_true q2] at eq
     rw[if_pos (.inr (.inl q2))] at hgo
     subst hgo
     refine wpV_ofH (by ((try(conv=>lhs;cbv));(repeat((first|(rewrite[g1])|(rewrite[kv])|(rewrite[eq])|(rewrite[K.ltT];rotate_left;focus((try simp only[K.df,D.df,true_and,and_true])<;>omega)));(try(conv=>lhs;cbv))));(exact rfl))) ?_
     show finQ _ _ _ _ _
     (show finV _ _ _=some _;((try(conv=>lhs;cbv));(try(with_reducible rfl)));(try rfl))
    ·rw[decide_eq_false q2] at eq
     by_cases hi0:i=0
     ·rw[if_neg (by rintro (h|h|⟨h,_⟩);cases h;exact q2 h;omega)] at hgo
      refine wpV_ofH (by ((try(conv=>lhs;cbv));(repeat((first|(rewrite[g1])|(rewrite[kv])|(rewrite[eq])|(rewrite[K.add];rotate_left;focus((try simp only[K.df,D.df,true_and,and_true])<;>omega))|(rewrite[K.ltT];rotate_left;focus((try simp only[K.df,D.df,true_and,and_true])<;>omega))|(rewrite[K.gtF];rotate_left;focus((try simp only[K.df,D.df,true_and,and_true])<;>omega)));(try(conv=>lhs;cbv))));(exact rfl))) ?_
      refine headQ_ofH (by ((try(conv=>lhs;cbv));(exact rfl))) ?_
      refine⟨him,_,rfl,?_,by rw[show l.length - (i+1)=l.length - i - 1 by omega];exact hgo⟩
      rw[K.pl_];omega
     ·have g2:=D.get (l:=l) (J:=mi J 1) (by rw[K.mi_];omega)
      have hx2:ix l (mi J 1)=l.getD (i - 1) (0,0):=by rw[D.ix_,K.mi_,show (J - 1).toNat=i - 1 by omega]
      rw[← hx2] at hgo
      generalize hd2:ix l (mi J 1)=d2 at *
      obtain⟨r2,n2⟩:=d2
      have kc:=k104 r2 n2 r n
      dsimp only[dotF] at kc g2
      generalize hC:cmpN (r2,n2) (r,n)=C at *
      by_cases q3:0≤C
      ·rw[if_pos (.inr (.inr ⟨by omega,q3⟩))] at hgo
       subst hgo
       refine wpV_ofH (by ((try(conv=>lhs;cbv));(repeat((first|(rewrite[g1])|(rewrite[kv])|(rewrite[eq])|(rewrite[g2])|(rewrite[kc])|(rewrite[K.sub];rotate_left;focus((try simp only[K.df,D.df,true_and,and_true])<;>omega))|(rewrite[K.ltT];rotate_left;focus((try simp only[K.df,D.df,true_and,and_true])<;>omega))|(rewrite[K.gtT];rotate_left;focus((try simp only[K.df,D.df,true_and,and_true])<;>omega))|(rewrite[K.geT];rotate_left;focus((try simp only[K.df,D.df,true_and,and_true])<;>omega)));(try(conv=>lhs;cbv))));(exact rfl))) ?_
       show finQ _ _ _ _ _
       (show finV _ _ _=some _;((try(conv=>lhs;cbv));(try(with_reducible rfl)));(try rfl))
      ·rw[if_neg (by rintro (h|h|⟨_,h⟩);cases h;exact q2 h;exact q3 h)] at hgo
       refine wpV_ofH (by ((try(conv=>lhs;cbv));(repeat((first|(rewrite[g1])|(rewrite[kv])|(rewrite[eq])|(rewrite[g2])|(rewrite[kc])|(rewrite[K.add];rotate_left;focus((try simp only[K.df,D.df,true_and,and_true])<;>omega))|(rewrite[K.sub];rotate_left;focus((try simp only[K.df,D.df,true_and,and_true])<;>omega))|(rewrite[K.ltT];rotate_left;focus((try simp only[K.df,D.df,true_and,and_true])<;>omega))|(rewrite[K.gtT];rotate_left;focus((try simp only[K.df,D.df,true_and,and_true])<;>omega))|(rewrite[K.geF];rotate_left;focus((try simp only[K.df,D.df,true_and,and_true])<;>omega)));(try(conv=>lhs;cbv))));(exact rfl))) ?_
       refine headQ_ofH (by ((try(conv=>lhs;cbv));(exact rfl))) ?_
       refine⟨him,_,rfl,?_,by rw[show l.length - (i+1)=l.length - i - 1 by omega];exact hgo⟩
       rw[K.pl_];omega
   ·rw[q1] at kv hgo
    rw[if_pos (.inl rfl)] at hgo
    subst hgo
    refine wpV_ofH (by ((try(conv=>lhs;cbv));(repeat((first|(rewrite[g1])|(rewrite[kv])|(rewrite[K.ltT];rotate_left;focus((try simp only[K.df,D.df,true_and,and_true])<;>omega)));(try(conv=>lhs;cbv))));(exact rfl))) ?_
    show finQ _ _ _ _ _
    (show finV _ _ _=some _;((try(conv=>lhs;cbv));(try(with_reducible rfl)));(try rfl))
  ·obtain rfl:i=l.length:=by omega
   rw[Nat.sub_self,gGo] at hgo
   subst hgo
   by_cases h120:l.length≤120
   ·rw[decide_eq_true h120]
    refine wpV_ofH (by ((try(conv=>lhs;cbv));(repeat((first|(rewrite[K.ltF];rotate_left;focus((try simp only[K.df,D.df,true_and,and_true])<;>omega)));(try(conv=>lhs;cbv))));(exact rfl))) ?_
    show wpV _ _ _ _ _ _
    refine wpV_ofH (by ((try(conv=>lhs;cbv));(repeat((first|(rewrite[ln])|(rewrite[K.leT];rotate_left;focus((try simp only[K.df,D.df,true_and,and_true])<;>omega)));(try(conv=>lhs;cbv))));(exact rfl))) ?_
    (show finV _ _ _=some _;((try(conv=>lhs;cbv));(try(with_reducible rfl)));(try rfl))
   ·rw[decide_eq_false h120]
    refine wpV_ofH (by ((try(conv=>lhs;cbv));(repeat((first|(rewrite[K.ltF];rotate_left;focus((try simp only[K.df,D.df,true_and,and_true])<;>omega)));(try(conv=>lhs;cbv))));(exact rfl))) ?_
    show wpV _ _ _ _ _ _
    refine wpV_ofH (by ((try(conv=>lhs;cbv));(repeat((first|(rewrite[ln])|(rewrite[K.leF];rotate_left;focus((try simp only[K.df,D.df,true_and,and_true])<;>omega)));(try(conv=>lhs;cbv))));(exact rfl))) ?_
    (show finV _ _ _=some _;((try(conv=>lhs;cbv));(try(with_reducible rfl)));(try rfl))
 dsimp only[dotF]
 apply wpV_seq;refine wpV_ofH (by ((try(conv=>lhs;cbv));(exact rfl))) ?_
 apply wpV_seq;apply wpV_seq;refine wpV_ofH (by ((try(conv=>lhs;cbv));(repeat((first|(rewrite[ln]));(try(conv=>lhs;cbv))));(exact rfl))) ?_
 exact fin _ (by ((try(conv=>lhs;cbv));(try(with_reducible rfl))))
structure Ev where
 d:Int × Int
 t:Int
 k:Int
 doc:ByteArray
 f:Int
 txt:ByteArray
 gone:List (Int × Int)
abbrev evF (b:Bool) (z:Nat) (e:Ev):FV:=.agg [.iv (.int .i64 e.d.1),.iv (.int .i64 e.d.2),.iv (.int .i64 e.t),.iv (.int .i64 e.k),.iv (.str e.doc),.iv (.int .i64 e.f),.iv (.str e.txt),.iv (.sl b z (eDs e.gone))]
def chk (e:Ev):Int:=if validB e.d=false∨e.t<1∨1099511627776<e.t∨nameB e.doc=false∨goneB e.d e.gone=false then 1 else if e.k=2∧e.f=0∧e.txt.size=0 then 0 else if e.k≠1 then 1 else textC e.f e.txt
theorem n33 (e:Ev) (hd:e.doc.size≤1000000000000000) (hg:e.gone.length≤1000):∃ k,∀ b z,(z=2∨z=0∧e.gone=[])→Pn k 33 [evF b z e] [] (i64 (chk e)) []:=by
 obtain⟨k,hk⟩:=n74 e.f e.txt
 refine⟨k+3000,fun b z hz=>playN (k+2999) rfl rfl fun A call hA hcall=>?_⟩
 obtain⟨pl,mi,ml,nt,tn,ad,sb,K⟩:=kit hA
 obtain⟨E,ix,sn,ll,cc,sg,D⟩:=lkit hA K ((0,0):Int × Int) (fun p=>[.int .i64 p.1,.int .i64 p.2]) 16
 obtain⟨⟨r,n⟩,t,kd,doc,f,txt,gone⟩:=e
 have k71:=n71 r n (k+2999) (by omega)
 have k72:=n72 doc hd (k+2999) (by omega)
 have k73:=n73 r n gone b z hz (by dsimp only at hg;omega) (k+2999) (by dsimp only at hg;omega)
 have k74:=hk (k+2999) (by omega)
 have se:=scE hA txt
 obtain⟨q,hq⟩:∃ q,q=decide (txt.size=0):=⟨_,rfl⟩
 rw[← hq] at se
 (conv at se=>lhs;arg 4;cbv)
 rw[← hcall] at k71 k72 k73 k74
 dsimp only[evF,dotF,chk] at *
 generalize eDs gone=gs at *
 generalize hv:validB (r,n)=v at *
 generalize hn:nameB doc=nb at *
 generalize hgb:goneB (r,n) gone=gb at *
 generalize textC f txt=tc at *
 cases v with
 | false =>
  rw[if_pos (.inl rfl)]
  refine wpV_ofH (by ((try(conv=>lhs;cbv));(repeat((first|(rewrite[k71]));(try(conv=>lhs;cbv))));(exact rfl))) ?_
  (show finV _ _ _=some _;((try(conv=>lhs;cbv));(try(with_reducible rfl)));(try rfl))
 | true =>
  by_cases h1:t<1
  ·rw[if_pos (.inr (.inl h1))]
   refine wpV_ofH (by ((try(conv=>lhs;cbv));(repeat((first|(rewrite[k71])|(rewrite[K.ltT];rotate_left;focus((try simp only[K.df,D.df,true_and,and_true])<;>omega)));(try(conv=>lhs;cbv))));(exact rfl))) ?_
   (show finV _ _ _=some _;((try(conv=>lhs;cbv));(try(with_reducible rfl)));(try rfl))
  ·by_cases h2:1099511627776<t
   ·rw[if_pos (.inr (.inr (.inl h2)))]
    refine wpV_ofH (by ((try(conv=>lhs;cbv));(repeat((first|(rewrite[k71])|(rewrite[K.gtT];rotate_left;focus((try simp only[K.df,D.df,true_and,and_true])<;>omega))|(rewrite[K.ltF];rotate_left;focus((try simp only[K.df,D.df,true_and,and_true])<;>omega)));(try(conv=>lhs;cbv))));(exact rfl))) ?_
    (show finV _ _ _=some _;((try(conv=>lhs;cbv));(try(with_reducible rfl)));(try rfl))
   ·cases nb with
    | false =>
     rw[if_pos (.inr (.inr (.inr (.inl rfl))))]
     refine wpV_ofH (by ((try(conv=>lhs;cbv));(repeat((first|(rewrite[k71])|(rewrite[k72])|(rewrite[K.ltF];rotate_left;focus((try simp only[K.df,D.df,true_and,and_true])<;>omega))|(rewrite[K.gtF];rotate_left;focus((try simp only[K.df,D.df,true_and,and_true])<;>omega)));(try(conv=>lhs;cbv))));(exact rfl))) ?_
     (show finV _ _ _=some _;((try(conv=>lhs;cbv));(try(with_reducible rfl)));(try rfl))
    | true =>
     cases gb with
     | false =>
      rw[if_pos (.inr (.inr (.inr (.inr rfl))))]
      refine wpV_ofH (by ((try(conv=>lhs;cbv));(repeat((first|(rewrite[k71])|(rewrite[k72])|(rewrite[k73])|(rewrite[K.ltF];rotate_left;focus((try simp only[K.df,D.df,true_and,and_true])<;>omega))|(rewrite[K.gtF];rotate_left;focus((try simp only[K.df,D.df,true_and,and_true])<;>omega)));(try(conv=>lhs;cbv))));(exact rfl))) ?_
      (show finV _ _ _=some _;((try(conv=>lhs;cbv));(try(with_reducible rfl)));(try rfl))
     | true =>
      rw[if_neg (by rintro (h|h|h|h|h)<;>first|cases h|omega)]
      by_cases h3:kd=2
      ·by_cases h4:f=0
       ·cases q with
        | true =>
         have h5:=of_decide_eq_true hq.symm
         rw[if_pos ⟨h3,h4,h5⟩]
         refine wpV_ofH (by ((try(conv=>lhs;cbv));(repeat((first|(rewrite[k71])|(rewrite[k72])|(rewrite[k73])|(rewrite[se])|(rewrite[K.eqT];rotate_left;focus((try simp only[K.df,D.df,true_and,and_true])<;>omega))|(rewrite[K.ltF];rotate_left;focus((try simp only[K.df,D.df,true_and,and_true])<;>omega))|(rewrite[K.gtF];rotate_left;focus((try simp only[K.df,D.df,true_and,and_true])<;>omega)));(try(conv=>lhs;cbv))));(exact rfl))) ?_
         (show finV _ _ _=some _;((try(conv=>lhs;cbv));(try(with_reducible rfl)));(try rfl))
        | false =>
         have h5:=of_decide_eq_false hq.symm
         rw[if_neg (fun h=>h5 h.2.2),if_pos (by omega)]
         refine wpV_ofH (by ((try(conv=>lhs;cbv));(repeat((first|(rewrite[k71])|(rewrite[k72])|(rewrite[k73])|(rewrite[se])|(rewrite[K.eqT];rotate_left;focus((try simp only[K.df,D.df,true_and,and_true])<;>omega))|(rewrite[K.neT];rotate_left;focus((try simp only[K.df,D.df,true_and,and_true])<;>omega))|(rewrite[K.ltF];rotate_left;focus((try simp only[K.df,D.df,true_and,and_true])<;>omega))|(rewrite[K.gtF];rotate_left;focus((try simp only[K.df,D.df,true_and,and_true])<;>omega)));(try(conv=>lhs;cbv))));(exact rfl))) ?_
         (show finV _ _ _=some _;((try(conv=>lhs;cbv));(try(with_reducible rfl)));(try rfl))
       ·rw[if_neg (fun h=>h4 h.2.1),if_pos (by omega)]
        refine wpV_ofH (by ((try(conv=>lhs;cbv));(repeat((first|(rewrite[k71])|(rewrite[k72])|(rewrite[k73])|(rewrite[K.eqT];rotate_left;focus((try simp only[K.df,D.df,true_and,and_true])<;>omega))|(rewrite[K.neT];rotate_left;focus((try simp only[K.df,D.df,true_and,and_true])<;>omega))|(rewrite[K.ltF];rotate_left;focus((try simp only[K.df,D.df,true_and,and_true])<;>omega))|(rewrite[K.gtF];rotate_left;focus((try simp only[K.df,D.df,true_and,and_true])<;>omega))|(rewrite[K.eqF];rotate_left;focus((try simp only[K.df,D.df,true_and,and_true])<;>omega)));(try(conv=>lhs;cbv))));(exact rfl))) ?_
        (show finV _ _ _=some _;((try(conv=>lhs;cbv));(try(with_reducible rfl)));(try rfl))
      ·rw[if_neg (fun h=>h3 h.1)]
       by_cases h4:kd=1
       ·rw[if_neg (by omega)]
        refine wpV_ofH (by ((try(conv=>lhs;cbv));(repeat((first|(rewrite[k71])|(rewrite[k72])|(rewrite[k73])|(rewrite[k74])|(rewrite[K.ltF];rotate_left;focus((try simp only[K.df,D.df,true_and,and_true])<;>omega))|(rewrite[K.gtF];rotate_left;focus((try simp only[K.df,D.df,true_and,and_true])<;>omega))|(rewrite[K.eqF];rotate_left;focus((try simp only[K.df,D.df,true_and,and_true])<;>omega))|(rewrite[K.neF];rotate_left;focus((try simp only[K.df,D.df,true_and,and_true])<;>omega)));(try(conv=>lhs;cbv))));(exact rfl))) ?_
        (show finV _ _ _=some _;((try(conv=>lhs;cbv));(try(with_reducible rfl)));(try rfl))
       ·rw[if_pos h4]
        refine wpV_ofH (by ((try(conv=>lhs;cbv));(repeat((first|(rewrite[k71])|(rewrite[k72])|(rewrite[k73])|(rewrite[K.neT];rotate_left;focus((try simp only[K.df,D.df,true_and,and_true])<;>omega))|(rewrite[K.ltF];rotate_left;focus((try simp only[K.df,D.df,true_and,and_true])<;>omega))|(rewrite[K.gtF];rotate_left;focus((try simp only[K.df,D.df,true_and,and_true])<;>omega))|(rewrite[K.eqF];rotate_left;focus((try simp only[K.df,D.df,true_and,and_true])<;>omega)));(try(conv=>lhs;cbv))));(exact rfl))) ?_
        (show finV _ _ _=some _;((try(conv=>lhs;cbv));(try(with_reducible rfl)));(try rfl))
/-! ### An event's bytes -/
theorem seg8 {A:Ar} (hA:A=real) (l:List Nat):A .seg (by8 l) 0 l.length=by8 l:=seg0 hA (by rw[by8_len])
end Go.Proofs.Ytlljgefgbglmbaa
