/- Sums of bytes, and bytes with their sum ahead: gone through. -/
import Derived.Test.YtlljgefgbglmbaaCGS
set_option linter.unusedSimpArgs false
set_option linter.unusedVariables false
set_option maxRecDepth 100000
set_option maxHeartbeats 1000000
set_option cbv.maxSteps 10000000
namespace Go.Proofs.Ytlljgefgbglmbaa
open Go GoV

def colN:List Int:=[1996959894,3993919788,124634137,249268274,498536548,997073096,1994146192,3988292384]
def colL:List IV:=[.int .u32 1996959894,.int .u32 3993919788,.int .u32 124634137,.int .u32 249268274,.int .u32 498536548,.int .u32 997073096,.int .u32 1994146192,.int .u32 3988292384]
def colF (i:Nat):Int:=colN.getD i 0
theorem p103:∃ k,Pn k 103 [] [] (.agg [.iv (.arr 8 colL)]) []:=by
 have h:Pl 103 [] (.agg [.iv (.arr 8 colL)]) []:=⟨100,by kernel_rfl⟩
 exact h.at pr_mono
def xo (a b:Int):Int:=real .ar .xor .u32 a b
def lowB (s x:Int):Int:=real .ar .xor .u8 (real .ck .u8 s) x
def bitB (low:Int) (i:Nat):Int:=real .ar .and .u8 (real .ar .shr .u8 low i) 1
def inG (low s:Int):Nat→Int
 | 0=>s
 | i+1=>if bitB low i=1 then xo (inG low s i) (colF i) else inG low s i
def stp (s x:Int):Int:=inG (lowB s x) (real .ar .shr .u32 s 8) 8
def sumGo:Int→List Nat→Int
 | s,[]=>s
 | s,x::r=>sumGo (stp s x) r
/-- The sum of bytes. -/
def sumI (b:List Nat):Int:=real .un .xor .u32 (sumGo 4294967295 b)
theorem n64 (b:List Nat) (t:Bool) (hl:b.length≤1000000000000000):∃ k,Pn k 64 [.one (.iv (.sl t 1 (by8 b)))] [] (.one (.iv (.int .u32 (sumI b)))) []:=by
 obtain⟨kc,hkc⟩:=p103
 refine⟨kc+b.length+1001,playN (kc+b.length+1000) rfl rfl fun A call hA hcall=>?_⟩
 obtain⟨pl,mi,ml,nt,tn,ad,sb,K⟩:=kit hA
 obtain⟨E,ix,sn,ll,cc,sg,B⟩:=lkit hA K (0:Nat) (fun b=>[.int .u8 (nt b)]) 1
 have hE:∀ l,by8 l=E l:=fun l=>by rw[B.E_];exact (by8E K.nt_ l).symm
 have k103:=hkc (kc+b.length+1000) (by omega)
 rw[← hcall] at k103
 obtain⟨CL,hCL⟩:∃ x,x=colL:=⟨_,rfl⟩
 obtain⟨cf,hcf⟩:∃ f:Nat→Int,∀ i,f i=colF i:=⟨_,fun _=>rfl⟩
 have gc:∀ (i:Nat) (I:Int),i<8→I=i→A .getc CL I=some (.int .u32 (cf i)):=by
  intro i I h hI
  rw[hI,hcf,hCL,hA]
  rcases (show i=0∨i=1∨i=2∨i=3∨i=4∨i=5∨i=6∨i=7 by omega) with rfl|rfl|rfl|rfl|rfl|rfl|rfl|rfl<;>rfl
 rw[← hCL] at k103
 obtain⟨M,hM⟩:∃ M:Int,M=nt (ll b):=⟨_,rfl⟩
 have hMl:M=b.length:=by rw[hM,K.nt_,B.ll_]
 have ln:A .len (E b)=M:=by rw[B.len,hM]
 obtain⟨cv,hcv⟩:∃ f:Int→Int,∀ s,f s=real .ck .u8 s:=⟨_,fun _=>rfl⟩
 obtain⟨xw,hxw⟩:∃ f:Int→Int→Int,∀ a b,f a b=real .ar .xor .u8 a b:=⟨_,fun _ _=>rfl⟩
 obtain⟨sh,hsh⟩:∃ f:Int→Int,∀ a,f a=real .ar .shr .u32 a 8:=⟨_,fun _=>rfl⟩
 obtain⟨sv,hsv⟩:∃ f:Int→Int→Int,∀ a b,f a b=real .ar .shr .u8 a b:=⟨_,fun _ _=>rfl⟩
 obtain⟨an,han⟩:∃ f:Int→Int,∀ a,f a=real .ar .and .u8 a 1:=⟨_,fun _=>rfl⟩
 obtain⟨xx,hxx⟩:∃ f:Int→Int→Int,∀ a b,f a b=xo a b:=⟨_,fun _ _=>rfl⟩
 obtain⟨no,hno⟩:∃ f:Int→Int,∀ a,f a=real .un .xor .u32 a:=⟨_,fun _=>rfl⟩
 have e1:∀ s,A .ck .u8 s=cv s:=fun s=>by rw[hA,hcv]
 have e2:∀ a b,A .ar .xor .u8 a b=xw a b:=fun a b=>by rw[hA,hxw]
 have e3:∀ a,A .ar .shr .u32 a 8=sh a:=fun a=>by rw[hA,hsh]
 have e4:∀ a b,A .ar .shr .u8 a b=sv a b:=fun a b=>by rw[hA,hsv]
 have e5:∀ a,A .ar .and .u8 a 1=an a:=fun a=>by rw[hA,han]
 have e6:∀ a b,A .ar .xor .u32 a b=xx a b:=fun a b=>by rw[hA,hxx];rfl
 have e7:∀ a,A .un .xor .u32 a=no a:=fun a=>by rw[hA,hno]
 obtain⟨G,hG⟩:∃ G:Int→Int→Nat→Int,∀ l s i,G l s i=inG l s i:=⟨_,fun _ _ _=>rfl⟩
 have G0:∀ l s,G l s 0=s:=fun l s=>by rw[hG];rfl
 have Gs:∀ l s i,G l s (i+1)=if an (sv l i)=1 then xx (G l s i) (cf i) else G l s i:=fun l s i=>by rw[hG,hG,han,hsv,hxx,hcf];rfl
 have Gst:∀ s x,stp s x=G (xw (cv s) x) (sh s) 8:=fun s x=>by rw[hG,hxw,hcv,hsh];rfl
 have fin:sumI b=no (sumGo 4294967295 b):=by rw[hno];rfl
 rw[fin,hE]
 generalize hR:sumGo 4294967295 b=R
 clear hkc hCL hcv hxw hsh hsv han hxx hno hG hcf fin
 apply wpV_seq;refine wpV_ofH (by ((try(conv=>lhs;cbv));(exact rfl))) ?_
 apply wpV_seq;refine wpV_ofH (by ((try(conv=>lhs;cbv));(repeat((first|(rewrite[k103]));(try(conv=>lhs;cbv))));(exact rfl))) ?_
 apply wpV_seq;refine wpV_ofH (by ((try(conv=>lhs;cbv));(exact rfl))) ?_
 apply wpV_seq;apply wpV_seq;refine wpV_ofH (by ((try(conv=>lhs;cbv));(repeat((first|(rewrite[ln]));(try(conv=>lhs;cbv))));(exact rfl))) ?_
 apply wpV_block
 refine wpV_loop b.length (fun j st=>∃ (J S:Int),st=⟨0,[u,u,u,.one (.ptr 0 0),.one (.iv (.int .u32 S)),u,u,u,u,u,.one (.iv (.sl t 1 (E b))),i64 M,i64 J,u,u,u,u,u,u,u,u,u,u,u,u,u,u,u,u,u,u,u,u,u,u,u,u,u,u],[.var false [.iv (.arr 8 CL)]]⟩∧J=j∧sumGo S (b.drop j)=R) (by omega) (by ((try(conv=>lhs;cbv));(try(with_reducible rfl)))) ⟨0,4294967295,rfl,rfl,hR⟩ ?_
 rintro j hj st ⟨J,S,rfl,hJ,hgo⟩
 by_cases hjl:j<b.length
 ·have hd:b.drop j=ix b J::b.drop (j+1):=by
   rw[B.ix_,hJ,Int.toNat_natCast,List.drop_eq_getElem_cons (by omega),List.getD_eq_getElem?_getD,List.getElem?_eq_getElem (by omega)];rfl
  have g1:=B.get (l:=b) (J:=J) (by omega)
  rw[hd,sumGo,Gst] at hgo
  have hx:((ix b J:Nat):Int)=nt (ix b J):=(K.nt_ _).symm
  rw[hx] at hgo
  generalize nt (ix b J)=X at *
  apply wpV_seq;refine wpV_ofH (by ((try(conv=>lhs;cbv));(repeat((first|(rewrite[K.ltT];rotate_left;focus((try simp only[K.df,B.df,true_and,and_true])<;>omega)));(try(conv=>lhs;cbv))));(exact rfl))) ?_
  apply wpV_seq;refine wpV_ofH (by ((try(conv=>lhs;cbv));(exact rfl))) ?_
  apply wpV_seq
  apply wpV_block
  apply wpV_seq;refine wpV_ofH (by ((try(conv=>lhs;cbv));(repeat((first|(rewrite[g1]));(try(conv=>lhs;cbv))));(exact rfl))) ?_
  apply wpV_seq;refine wpV_ofH (by ((try(conv=>lhs;cbv));(repeat((first|(rewrite[e1])|(rewrite[e2]));(try(conv=>lhs;cbv))));(exact rfl))) ?_
  apply wpV_seq;refine wpV_ofH (by ((try(conv=>lhs;cbv));(repeat((first|(rewrite[e3])|(rewrite[K.nn];rotate_left;focus((try simp only[K.df,B.df,true_and,and_true])<;>omega)));(try(conv=>lhs;cbv))));(exact rfl))) ?_
  apply wpV_seq;refine wpV_ofH (by ((try(conv=>lhs;cbv));(exact rfl))) ?_
  generalize xw (cv S) X=lw at *
  generalize sh S=s0 at *
  apply wpV_block
  refine wpV_loop 8 (fun i st=>∃ (I:Int),st=⟨0,[u,u,u,.one (.ptr 0 0),.one (.iv (.int .u32 (G lw s0 i))),u,u,.one (.iv (.int .u8 lw)),u,u,.one (.iv (.sl t 1 (E b))),i64 M,i64 J,u,u,u,u,u,u,u,u,u,i64 I,u,u,u,u,u,u,u,u,u,u,u,u,u,u,u,u],[.var false [.iv (.arr 8 CL)]]⟩∧I=i) (by omega) (by ((try(conv=>lhs;cbv));(try(with_reducible rfl)))) ⟨0,by rw[G0],rfl⟩ ?_
  rintro i hi st ⟨I,rfl,hI⟩
  by_cases hi8:i<8
  ·have gcI:=gc i I hi8 hI
   have gs:=Gs lw s0 i
   rw[← hI] at gs
   generalize G lw s0 (i+1)=s2 at *
   generalize G lw s0 i=s1 at *
   generalize cf i=ci at *
   have e5':=e5 (sv lw I)
   generalize an (sv lw I)=bb at *
   by_cases hb:bb=1
   ·rw[if_pos hb] at gs
    subst hb
    refine wpV_ofH (by ((try(conv=>lhs;cbv));(repeat((first|(rewrite[e4])|(rewrite[e5'])|(rewrite[gcI])|(rewrite[e6])|(rewrite[K.add];rotate_left;focus((try simp only[K.df,B.df,true_and,and_true])<;>omega))|(rewrite[K.nn];rotate_left;focus((try simp only[K.df,B.df,true_and,and_true])<;>omega))|(rewrite[K.at_];rotate_left;focus((try simp only[K.df,B.df,true_and,and_true])<;>omega))|(rewrite[K.ltT];rotate_left;focus((try simp only[K.df,B.df,true_and,and_true])<;>omega))|(rewrite[K.eqT];rotate_left;focus((try simp only[K.df,B.df,true_and,and_true])<;>omega)));(try(conv=>lhs;cbv))));(exact rfl))) ?_
    refine headQ_ofH (by ((try(conv=>lhs;cbv));(exact rfl))) ?_
    refine⟨hi8,_,by rw[gs],?_⟩
    rw[K.pl_];omega
   ·rw[if_neg hb] at gs
    refine wpV_ofH (by ((try(conv=>lhs;cbv));(repeat((first|(rewrite[e4])|(rewrite[e5'])|(rewrite[K.add];rotate_left;focus((try simp only[K.df,B.df,true_and,and_true])<;>omega))|(rewrite[K.nn];rotate_left;focus((try simp only[K.df,B.df,true_and,and_true])<;>omega))|(rewrite[K.at_];rotate_left;focus((try simp only[K.df,B.df,true_and,and_true])<;>omega))|(rewrite[K.ltT];rotate_left;focus((try simp only[K.df,B.df,true_and,and_true])<;>omega))|(rewrite[K.eqF];rotate_left;focus((try simp only[K.df,B.df,true_and,and_true])<;>omega)));(try(conv=>lhs;cbv))));(exact rfl))) ?_
    refine headQ_ofH (by ((try(conv=>lhs;cbv));(exact rfl))) ?_
    refine⟨hi8,_,by rw[gs],?_⟩
    rw[K.pl_];omega
  ·obtain rfl:i=8:=by omega
   generalize G lw s0 8=s8 at *
   refine wpV_ofH (by ((try(conv=>lhs;cbv));(repeat((first|(rewrite[K.ltF];rotate_left;focus((try simp only[K.df,B.df,true_and,and_true])<;>omega)));(try(conv=>lhs;cbv))));(exact rfl))) ?_
   show wpV _ _ _ _ _ _
   refine wpV_ofH (by ((try(conv=>lhs;cbv));(repeat((first|(rewrite[K.add];rotate_left;focus((try simp only[K.df,B.df,true_and,and_true])<;>omega)));(try(conv=>lhs;cbv))));(exact rfl))) ?_
   refine headQ_ofH (by ((try(conv=>lhs;cbv));(exact rfl))) ?_
   refine⟨hjl,_,_,rfl,?_,hgo⟩
   rw[K.pl_];omega
 ·obtain rfl:j=b.length:=by omega
  rw[List.drop_of_length_le (Nat.le_refl _),sumGo] at hgo
  subst hgo
  refine wpV_ofH (by ((try(conv=>lhs;cbv));(repeat((first|(rewrite[K.ltF];rotate_left;focus((try simp only[K.df,B.df,true_and,and_true])<;>omega)));(try(conv=>lhs;cbv))));(exact rfl))) ?_
  show wpV _ _ _ _ _ _
  refine wpV_ofH (by ((try(conv=>lhs;cbv));(repeat((first|(rewrite[e7]));(try(conv=>lhs;cbv))));(exact rfl))) ?_
  (show finV _ _ _=some _;((try(conv=>lhs;cbv));(try(with_reducible rfl)));(try rfl))
theorem wrap32 (a:Int):0≤IntKind.u32.wrap a∧IntKind.u32.wrap a<4294967296:=by
 simp[IntKind.wrap,IntKind.min,IntKind.max,IntKind.signed,IntKind.bits];omega
theorem wrapU32 {a:Int} (h:0≤a) (h2:a<4294967296):IntKind.u32.wrap a=a:=by
 simp[IntKind.wrap,IntKind.min,IntKind.max,IntKind.signed,IntKind.bits];omega
theorem sum_lt (b:List Nat):0≤sumI b∧sumI b<4294967296:=wrap32 _
section
variable {A:Ar} (hA:A=real)
include hA
theorem ck32 {a:Nat} (h:a<4294967296):A .ck .u32 (a:Int)=(a:Int):=by
 rw[hA];exact wrapU32 (by omega) (by omega)
theorem shl32 {a:Nat} (h:a*256<4294967296):A .ar .shl .u32 (a:Int) 8=((a*256:Nat):Int):=by
 rw[hA]
 show IntKind.u32.wrap ((a:Int)*2 ^ (min (8:Int).toNat IntKind.u32.bits))=_
 rw[show (2:Int) ^ (min (8:Int).toNat IntKind.u32.bits)=256 from by decide]
 rw[wrapU32 (by omega) (by omega)]
 omega
theorem or32 {a b:Nat} (h:a*256+b<4294967296) (hb:b<256):A .ar .or .u32 ((a*256:Nat):Int) (b:Int)=((a*256+b:Nat):Int):=by
 rw[hA]
 show IntKind.u32.wrap (((BitVec.ofInt 32 ((a*256:Nat):Int) ||| BitVec.ofInt 32 (b:Int)).toNat:Nat):Int)=_
 rw[BitVec.toNat_or,BitVec.ofInt_natCast,BitVec.ofInt_natCast,BitVec.toNat_ofNat,BitVec.toNat_ofNat,Nat.mod_eq_of_lt (by omega),Nat.mod_eq_of_lt (by omega)]
 have:(a*256) ||| b=a*256+b:=by
  have:=Nat.two_pow_add_eq_or_of_lt (i:=8) (b:=b) (by omega) a
  rw[Nat.mul_comm a 256];simp only[Nat.reducePow] at this;omega
 rw[this]
 exact wrapU32 (by omega) (by omega)
end
/-- The byte of a sum at a place. -/
def hb (s:Nat) (i:Nat):Nat:=s / 2 ^ (24 - 8*i) % 256
/-! ### Opened -/
def val4:List Nat→Nat→Nat
 | _,0=>0
 | l,i+1=>val4 l i*256+l.getD i 0
theorem val4_lt {l:List Nat} (h:∀ b,b∈l→b<256):∀ i,val4 l i<256 ^ i
 | 0=>by simp[val4]
 | i+1=>by
  have:=val4_lt h i
  have h2:l.getD i 0<256:=by
   rw[List.getD_eq_getElem?_getD]
   by_cases hi:i<l.length
   ·rw[List.getElem?_eq_getElem hi];exact h _ (List.getElem_mem hi)
   ·rw[List.getElem?_eq_none (by omega)];simp
  rw[val4,Nat.pow_succ];omega
/-- What was sealed, or why there is none. -/
def openS (B:List Nat):Option (List Nat) × Int:=if B.length<4 then (none,4) else if (sumI (B.drop 4))=(val4 B 4:Int) then (some (B.drop 4),0) else (none,6)
def opF (p:Option (List Nat) × Int):FV:=match p with
 | (none,e)=>.tup [(false,[.iv (.sl true 0 [])]),(false,[.iv (.int .i64 e)])]
 | (some l,e)=>.tup [(false,[.slo 0 0 l.length]),(false,[.iv (.int .i64 e)])]
def opK (p:Option (List Nat) × Int):List Blk:=match p with
 | (none,_)=>[]
 | (some l,_)=>[.arr false false 1 (by8 l)]
theorem n42 (l:List Nat) (h8:∀ b,b∈l→b<256) (t:Bool) (hl:l.length≤211106232532992):∃ k,Pn k 42 [.one (.iv (.sl t 1 (by8 l)))] [] (opF (openS l)) (opK (openS l)):=by
 obtain⟨kc,hkc⟩:=n64 (l.drop 4) t (by rw[List.length_drop];omega)
 obtain⟨kd,hkd⟩:=n64 (l.drop 4) (!t) (by rw[List.length_drop];omega)
 refine⟨kc+kd+1001,playN (kc+kd+1000) rfl rfl fun A call hA hcall=>?_⟩
 obtain⟨pl,mi,ml,nt,tn,ad,sb,K⟩:=kit hA
 obtain⟨E,ix,sn,ll,cc,sg,B⟩:=lkit hA K (0:Nat) (fun b=>[.int .u8 (nt b)]) 1
 have hE:∀ l,by8 l=E l:=fun l=>by rw[B.E_];exact (by8E K.nt_ l).symm
 have k64:∀ t',call 64 [.one (.iv (.sl t' 1 (by8 (l.drop 4))))] []=some (.one (.iv (.int .u32 (sumI (l.drop 4)))),[]):=fun t'=>by
  rw[hcall]
  cases t<;>cases t'
  ·exact hkc _ (by omega)
  ·exact hkd _ (by omega)
  ·exact hkd _ (by omega)
  ·exact hkc _ (by omega)
 clear hkc hkd
 obtain⟨L,hL⟩:∃ L:Int,L=l.length:=⟨_,rfl⟩
 have ln:A .len (by8 l)=L:=by rw[hA,real_len,by8_len,hL]
 unfold openS
 by_cases h4:l.length<4
 ·rw[if_pos h4]
  dsimp only[opF,opK]
  generalize by8 l=xs at *
  refine wpV_ofH (by ((try(conv=>lhs;cbv));(repeat((first|(rewrite[ln])|(rewrite[K.ltT];rotate_left;focus((try simp only[K.df,B.df,true_and,and_true])<;>omega)));(try(conv=>lhs;cbv))));(exact rfl))) ?_
  (show finV _ _ _=some _;((try(conv=>lhs;cbv));(try(with_reducible rfl)));(try rfl))
 ·rw[if_neg h4]
  have hlt:=val4_lt (l:=l) h8
  have c1:A .sub (by8 l) none (some 4)=some (E (l.take 4)):=by
   rw[hA,real_sub,← hE];unfold rSub rCut rBound
   rw[by8_len]
   have h:(0:Int)≤4∧(4:Int)≤(l.length:Int):=by omega
   simp[h,by8,List.map_take]
  have c2:A .sub (by8 l) (some 4) none=some (by8 (l.drop 4)):=by
   rw[hA,real_sub];unfold rSub rCut rBound
   rw[by8_len]
   have h:(0:Int)≤4∧(4:Int)≤(l.length:Int):=by omega
   simp[h,by8,List.map_drop]
   rw[List.take_of_length_le (by simp)]
  have l4:A .len (E (l.take 4))=4:=by rw[← hE,hA,real_len,by8_len,List.length_take];omega
  have a1:=appn hA (by8 (l.drop 4)) (by rw[by8_len,List.length_drop];omega)
  have l1:A .ln (by8 (l.drop 4))=(l.drop 4).length:=by rw[hA];exact by8_len _
  have st:∀ i,i<4→∃ X Y:Int,A .ar .shl .u32 (val4 l i:Int) 8=X∧A .ck .u32 (nt (l.getD i 0))=Y∧A .ar .or .u32 X Y=(val4 l (i+1):Int):=fun i hi=>by
   have h1:=hlt i
   have h2:=hlt (i+1)
   have h3:l.getD i 0<256:=by
    rw[List.getD_eq_getElem?_getD,List.getElem?_eq_getElem (by omega)];exact h8 _ (List.getElem_mem _)
   have h5:256 ^ (i+1)≤256 ^ 4:=Nat.pow_le_pow_right (by omega) (by omega)
   have h6:val4 l (i+1)=val4 l i*256+l.getD i 0:=rfl
   rw[show (256:Nat) ^ 4=4294967296 from rfl] at h5
   refine⟨((val4 l i*256:Nat):Int),((l.getD i 0:Nat):Int),shl32 hA (by omega),?_,?_⟩
   ·rw[K.nt_];exact ck32 hA (by omega)
   ·rw[h6];exact or32 hA (by omega) h3
  obtain⟨V,hV⟩:∃ V:Nat→Int,∀ i,V i=val4 l i:=⟨_,fun _=>rfl⟩
  simp only[← hV] at st
  have v0:V 0=0:=by rw[hV];rfl
  have tk:∀ i,i<4→(l.take 4).getD i 0=l.getD i 0:=fun i hi=>by
   simp only[List.getD_eq_getElem?_getD,List.getElem?_take];rw[if_pos hi]
  have tl:(l.take 4).length=4:=by rw[List.length_take];omega
  rw[← hV]
  generalize sumI (l.drop 4)=s at *
  generalize hdn:(l.drop 4).length=dn at *
  generalize hds:by8 (l.drop 4)=ds at *
  have g:∀ (i:Nat) (I:Int),i<4→I=i→A .get (E (l.take 4)) I=some [.int .u8 (nt (l.getD i 0))]:=fun i I hi hI=>by
   have:=B.get (l:=l.take 4) (J:=I) (by omega)
   rw[this,B.ix_,hI,Int.toNat_natCast,tk i hi]
  generalize E (l.take 4)=es at *
  generalize by8 l=xs at *
  by_cases hs:s=V 4
  ·rw[if_pos hs]
   dsimp only[opF,opK]
   rw[hdn,hds]
   apply wpV_seq;refine wpV_ofH (by ((try(conv=>lhs;cbv));(exact rfl))) ?_
   apply wpV_seq;apply wpV_seq;refine wpV_ofH (by ((try(conv=>lhs;cbv));(repeat((first|(rewrite[ln])|(rewrite[K.ltF];rotate_left;focus((try simp only[K.df,B.df,true_and,and_true])<;>omega)));(try(conv=>lhs;cbv))));(exact rfl))) ?_
   apply wpV_of (by rfl);show wpV _ _ _ _ _ _
   apply wpV_seq;refine wpV_ofH (by ((try(conv=>lhs;cbv));(exact rfl))) ?_
   apply wpV_seq;apply wpV_seq;refine wpV_ofH (by ((try(conv=>lhs;cbv));(repeat((first|(rewrite[c1])|(rewrite[l4]));(try(conv=>lhs;cbv))));(exact rfl))) ?_
   apply wpV_block
   refine wpV_loop 4 (fun i st=>∃ I:Int,st=⟨0,[.one (.iv (.sl t 1 xs)),u,u,u,.one (.iv (.int .u32 (V i))),u,u,u,u,u,u,.one (.iv (.sl false 1 es)),i64 4,i64 I,u,u,u,u,u,u,u,u,u,u,u,u,u,u,u,u,u],[]⟩∧I=i) (by omega) (by ((try(conv=>lhs;cbv));(try(with_reducible rfl)))) ⟨0,by rw[v0],rfl⟩ ?_
   rintro i hi st ⟨I,rfl,hI⟩
   by_cases hi4:i<4
   ·have gi:=g i I hi4 hI
    obtain⟨X,Y,x1,x2,x3⟩:=st i hi4
    generalize V (i+1)=V1 at *
    generalize V i=V0 at *
    refine wpV_ofH (by ((try(conv=>lhs;cbv));(repeat((first|(rewrite[gi])|(rewrite[x1])|(rewrite[x2])|(rewrite[x3])|(rewrite[K.add];rotate_left;focus((try simp only[K.df,B.df,true_and,and_true])<;>omega))|(rewrite[K.nn];rotate_left;focus((try simp only[K.df,B.df,true_and,and_true])<;>omega))|(rewrite[K.ltT];rotate_left;focus((try simp only[K.df,B.df,true_and,and_true])<;>omega)));(try(conv=>lhs;cbv))));(exact rfl))) ?_
    refine headQ_ofH (by ((try(conv=>lhs;cbv));(exact rfl))) ?_
    refine⟨hi4,_,rfl,?_⟩
    rw[K.pl_];omega
   ·obtain rfl:i=4:=by omega
    generalize V 4=V4 at *
    refine wpV_ofH (by ((try(conv=>lhs;cbv));(repeat((first|(rewrite[K.ltF];rotate_left;focus((try simp only[K.df,B.df,true_and,and_true])<;>omega)));(try(conv=>lhs;cbv))));(exact rfl))) ?_
    show wpV _ _ _ _ _ _
    refine wpV_ofH (by ((try(conv=>lhs;cbv));(repeat((first|(rewrite[c2])|(rewrite[k64])|(rewrite[a1])|(rewrite[l1])|(rewrite[K.neF];rotate_left;focus((try simp only[K.df,B.df,true_and,and_true])<;>omega)));(try(conv=>lhs;cbv))));(exact rfl))) ?_
    (show finV _ _ _=some _;((try(conv=>lhs;cbv));(try(with_reducible rfl)));(try rfl))
  ·rw[if_neg hs]
   dsimp only[opF,opK]
   apply wpV_seq;refine wpV_ofH (by ((try(conv=>lhs;cbv));(exact rfl))) ?_
   apply wpV_seq;apply wpV_seq;refine wpV_ofH (by ((try(conv=>lhs;cbv));(repeat((first|(rewrite[ln])|(rewrite[K.ltF];rotate_left;focus((try simp only[K.df,B.df,true_and,and_true])<;>omega)));(try(conv=>lhs;cbv))));(exact rfl))) ?_
   apply wpV_of (by rfl);show wpV _ _ _ _ _ _
   apply wpV_seq;refine wpV_ofH (by ((try(conv=>lhs;cbv));(exact rfl))) ?_
   apply wpV_seq;apply wpV_seq;refine wpV_ofH (by ((try(conv=>lhs;cbv));(repeat((first|(rewrite[c1])|(rewrite[l4]));(try(conv=>lhs;cbv))));(exact rfl))) ?_
   apply wpV_block
   refine wpV_loop 4 (fun i st=>∃ I:Int,st=⟨0,[.one (.iv (.sl t 1 xs)),u,u,u,.one (.iv (.int .u32 (V i))),u,u,u,u,u,u,.one (.iv (.sl false 1 es)),i64 4,i64 I,u,u,u,u,u,u,u,u,u,u,u,u,u,u,u,u,u],[]⟩∧I=i) (by omega) (by ((try(conv=>lhs;cbv));(try(with_reducible rfl)))) ⟨0,by rw[v0],rfl⟩ ?_
   rintro i hi st ⟨I,rfl,hI⟩
   by_cases hi4:i<4
   ·have gi:=g i I hi4 hI
    obtain⟨X,Y,x1,x2,x3⟩:=st i hi4
    generalize V (i+1)=V1 at *
    generalize V i=V0 at *
    refine wpV_ofH (by ((try(conv=>lhs;cbv));(repeat((first|(rewrite[gi])|(rewrite[x1])|(rewrite[x2])|(rewrite[x3])|(rewrite[K.add];rotate_left;focus((try simp only[K.df,B.df,true_and,and_true])<;>omega))|(rewrite[K.nn];rotate_left;focus((try simp only[K.df,B.df,true_and,and_true])<;>omega))|(rewrite[K.ltT];rotate_left;focus((try simp only[K.df,B.df,true_and,and_true])<;>omega)));(try(conv=>lhs;cbv))));(exact rfl))) ?_
    refine headQ_ofH (by ((try(conv=>lhs;cbv));(exact rfl))) ?_
    refine⟨hi4,_,rfl,?_⟩
    rw[K.pl_];omega
   ·obtain rfl:i=4:=by omega
    generalize V 4=V4 at *
    refine wpV_ofH (by ((try(conv=>lhs;cbv));(repeat((first|(rewrite[K.ltF];rotate_left;focus((try simp only[K.df,B.df,true_and,and_true])<;>omega)));(try(conv=>lhs;cbv))));(exact rfl))) ?_
    show wpV _ _ _ _ _ _
    refine wpV_ofH (by ((try(conv=>lhs;cbv));(repeat((first|(rewrite[c2])|(rewrite[k64])|(rewrite[K.neT];rotate_left;focus((try simp only[K.df,B.df,true_and,and_true])<;>omega)));(try(conv=>lhs;cbv))));(exact rfl))) ?_
    (show finV _ _ _=some _;((try(conv=>lhs;cbv));(try(with_reducible rfl)));(try rfl))
set_option maxHeartbeats 4000000
theorem xoN {a b:Nat} (ha:a<4294967296) (hb:b<4294967296):xo (a:Int) (b:Int)=((a ^^^ b:Nat):Int):=by
 show IntKind.u32.wrap (((BitVec.ofInt 32 (a:Int) ^^^ BitVec.ofInt 32 (b:Int)).toNat:Nat):Int)=_
 rw[BitVec.toNat_xor,BitVec.ofInt_natCast,BitVec.ofInt_natCast,BitVec.toNat_ofNat,BitVec.toNat_ofNat,Nat.mod_eq_of_lt (by omega),Nat.mod_eq_of_lt (by omega)]
 have:a ^^^ b<2 ^ 32:=Nat.xor_lt_two_pow (by omega) (by omega)
 exact wrapU32 (by omega) (by omega)
theorem xor8N {a b:Nat} (ha:a<256) (hb:b<256):real .ar .xor .u8 (a:Int) (b:Int)=((a ^^^ b:Nat):Int):=by
 show IntKind.u8.wrap (((BitVec.ofInt 8 (a:Int) ^^^ BitVec.ofInt 8 (b:Int)).toNat:Nat):Int)=_
 rw[BitVec.toNat_xor,BitVec.ofInt_natCast,BitVec.ofInt_natCast,BitVec.toNat_ofNat,BitVec.toNat_ofNat,Nat.mod_eq_of_lt (by omega),Nat.mod_eq_of_lt (by omega)]
 have:a ^^^ b<2 ^ 8:=Nat.xor_lt_two_pow (by omega) (by omega)
 rw[wrapU8,Nat.mod_eq_of_lt (by omega)]
theorem bitN {l i:Nat} (hl:l<256) (hi:i<8):bitB (l:Int) i=((l / 2 ^ i % 2:Nat):Int):=by
 have:∀ l:Fin 256,∀ i:Fin 8,bitB ((l.val:Nat):Int) i.val=((l.val / 2 ^ i.val % 2:Nat):Int):=by decide +kernel
 exact this ⟨l,hl⟩ ⟨i,hi⟩
def colT:List Nat:=[1996959894,3993919788,124634137,249268274,498536548,997073096,1994146192,3988292384]
def tG (l:Nat):Nat→Nat
 | 0=>0
 | i+1=>if l / 2 ^ i % 2=1 then tG l i ^^^ colT.getD i 0 else tG l i
theorem colT_F {i:Nat} (hi:i<8):colF i=(colT.getD i 0:Int)∧colT.getD i 0<4294967296:=by
 have:∀ i:Fin 8,colF i.val=(colT.getD i.val 0:Int)∧colT.getD i.val 0<4294967296:=by decide
 exact this ⟨i,hi⟩
theorem tG_lt (l:Nat):∀ i,i≤8→tG l i<4294967296
 | 0,_=>by show 0<4294967296;decide
 | i+1,h=>by
  have h1:=tG_lt l i (by omega)
  have h2:=(colT_F (i:=i) (by omega)).2
  unfold tG
  split
  ·exact Nat.xor_lt_two_pow (n:=32) (by omega) (by omega)
  ·exact h1
theorem inG_N {l s:Nat} (hl:l<256) (hs:s<4294967296):∀ i,i≤8→inG (l:Int) (s:Int) i=((s ^^^ tG l i:Nat):Int)
 | 0,_=>by simp[inG,tG]
 | i+1,h=>by
  have h1:=inG_N hl hs i (by omega)
  have h2:=bitN (l:=l) (i:=i) hl (by omega)
  obtain⟨c1,c2⟩:=colT_F (i:=i) (by omega)
  have h3:=tG_lt l i (by omega)
  have h4:s ^^^ tG l i<4294967296:=Nat.xor_lt_two_pow (n:=32) (by omega) (by omega)
  rw[inG,tG,h1,h2]
  by_cases hb:l / 2 ^ i % 2=1
  ·rw[if_pos (by rw[hb];rfl),if_pos hb,c1,xoN h4 c2,Nat.xor_assoc]
  ·rw[if_neg (by omega),if_neg hb]
def stN (s x:Nat):Nat:=s / 256 ^^^ tG (s % 256 ^^^ x) 8
theorem stN_lt {s x:Nat} (hs:s<4294967296):stN s x<4294967296:=Nat.xor_lt_two_pow (n:=32) (by omega) (tG_lt _ 8 (by omega))
theorem stp_N {s x:Nat} (hs:s<4294967296) (hx:x<256):stp (s:Int) (x:Int)=(stN s x:Int):=by
 have hl:s % 256 ^^^ x<256:=Nat.xor_lt_two_pow (n:=8) (by omega) (by omega)
 have e1:lowB (s:Int) (x:Int)=((s % 256 ^^^ x:Nat):Int):=by
  unfold lowB
  rw[show real .ck .u8 (s:Int)=((s % 256:Nat):Int) from ckU8 rfl s,xor8N (by omega) hx]
 have e2:real .ar .shr .u32 (s:Int) 8=((s / 256:Nat):Int):=shrN rfl (k:=.u32) (a:=s) (j:=8) rfl (by decide)
 unfold stp
 rw[e1,e2,inG_N hl (by omega) 8 (by omega)]
 rfl
def sGN:Nat→List Nat→Nat
 | s,[]=>s
 | s,x::r=>sGN (stN s x) r
theorem sGN_lt:∀ {l:List Nat} {s:Nat},s<4294967296→sGN s l<4294967296
 | [],_,h=>h
 | x::r,s,h=>sGN_lt (l:=r) (stN_lt h)
theorem sumGo_N:∀ {l:List Nat} {s:Nat},s<4294967296→(∀ x,x∈l→x<256)→sumGo (s:Int) l=(sGN s l:Int)
 | [],_,_,_=>rfl
 | x::r,s,h,hx=>by
  have h2:=sumGo_N (stN_lt (x:=x) h) (l:=r) fun y hy=>hx y (by simp[hy])
  rw[sumGo,stp_N h (hx x (by simp)),h2];rfl
theorem sumI_N {l:List Nat} (hl:∀ x,x∈l→x<256):sumI l=((4294967295 ^^^ sGN 4294967295 l:Nat):Int):=by
 have h:=sumGo_N (l:=l) (s:=4294967295) (by omega) hl
 have e:sumI l=xo ((4294967295:Nat):Int) (sumGo ((4294967295:Nat):Int) l):=rfl
 rw[e,h,xoN (by omega) (sGN_lt (by omega))]
def tbN (s:Nat):Nat:=if s % 2=1 then s / 2 ^^^ 3988292384 else s / 2
def tbK (s:Nat):Nat→Nat
 | 0=>s
 | k+1=>tbN (tbK s k)
theorem tbN_lt {s:Nat} (h:s<4294967296):tbN s<4294967296:=by
 unfold tbN;split
 ·exact Nat.xor_lt_two_pow (n:=32) (by omega) (by omega)
 ·omega
theorem tbK_lt {s:Nat} (h:s<4294967296):∀ k,tbK s k<4294967296
 | 0=>h
 | k+1=>tbN_lt (tbK_lt h k)
theorem xd2 (a b:Nat):(a ^^^ b) / 2=a / 2 ^^^ b / 2:=by
 have:=@Nat.shiftRight_xor_distrib 1 a b
 simpa [Nat.shiftRight_eq_div_pow] using this
theorem tbN_xor (a b:Nat):tbN (a ^^^ b)=tbN a ^^^ tbN b:=by
 have h:=@Nat.xor_mod_two_eq_one a b
 unfold tbN
 rw[xd2]
 by_cases ha:a % 2=1<;>by_cases hb:b % 2=1<;>simp only[ha,hb,iff_self,not_true_eq_false,iff_false,not_false_eq_true,iff_true] at h<;>simp[ha,hb,h]
 ·rw[Nat.xor_assoc,Nat.xor_comm 3988292384,Nat.xor_assoc,Nat.xor_self,Nat.xor_zero]
 ·rw[Nat.xor_assoc,Nat.xor_assoc,Nat.xor_comm 3988292384]
 ·rw[Nat.xor_assoc]
theorem tbK_xor (a b:Nat):∀ k,tbK (a ^^^ b) k=tbK a k ^^^ tbK b k
 | 0=>rfl
 | k+1=>by rw[tbK,tbK_xor a b k,tbN_xor];rfl
theorem tbN_2 (m:Nat):tbN (2*m)=m:=by unfold tbN;rw[if_neg (by omega)];omega
theorem tbK_2 (h:Nat):tbK (256*h) 8=h:=by
 have e:∀ m,tbN (2*m)=m:=tbN_2
 show tbN (tbN (tbN (tbN (tbN (tbN (tbN (tbN (256*h))))))))=h
 rw[show 256*h=2*(2*(2*(2*(2*(2*(2*(2*h))))))) by omega,e,e,e,e,e,e,e,e]
theorem split8 (y:Nat):256*(y / 256) ^^^ y % 256=y:=by
 apply Nat.eq_of_testBit_eq
 intro i
 rw[Nat.testBit_xor,show 256=2 ^ 8 from rfl,Nat.testBit_two_pow_mul,Nat.testBit_mod_two_pow,Nat.testBit_div_two_pow]
 by_cases h:i<8
 ·simp[h,show ¬ 8≤i by omega]
 ·simp[h,show 8≤i by omega]
theorem tbK_low {l:Nat} (h:l<256):tbK l 8=tG l 8:=by
 have:∀ l:Fin 256,tbK l.val 8=tG l.val 8:=by decide +kernel
 exact this ⟨l,h⟩
/-- Eight steps by bits are one by the table. -/
theorem tbK_st {s x:Nat} (hx:x<256):tbK (s ^^^ x) 8=stN s x:=by
 have e1:(s ^^^ x) / 256=s / 256:=by
  have:=@Nat.shiftRight_xor_distrib 8 s x
  simp only[Nat.shiftRight_eq_div_pow,Nat.reducePow] at this
  rw[this,Nat.div_eq_of_lt hx,Nat.xor_zero]
 have e2:(s ^^^ x) % 256=s % 256 ^^^ x:=by
  have:=@Nat.xor_mod_two_pow s x 8
  simp only[Nat.reducePow] at this
  rw[this,Nat.mod_eq_of_lt hx]
 have hl:s % 256 ^^^ x<256:=Nat.xor_lt_two_pow (n:=8) (by omega) (by omega)
 have h:=split8 (s ^^^ x)
 rw[e1,e2] at h
 rw[← h,tbK_xor,tbK_2,tbK_low hl]
 rfl
def bI (s:Int):Int:=if real .ar .rem .u32 s 2=1 then xo (real .ar .quo .u32 s 2) 3988292384 else real .ar .quo .u32 s 2
def bIk (s:Int):Nat→Int
 | 0=>s
 | k+1=>bI (bIk s k)
def b8I (s x:Int):Int:=bIk (xo s (real .ck .u32 x)) 8
def foldS (f:Int→Int→Int):Int→List Nat→Int
 | s,[]=>s
 | s,x::r=>foldS f (f s x) r
theorem quoN {a b:Nat} (ha:a<4294967296):real .ar .quo .u32 (a:Int) (b:Int)=((a / b:Nat):Int):=by
 show IntKind.u32.wrap ((a:Int).tdiv (b:Int))=_
 rw[← Int.ofNat_tdiv]
 have:a / b≤a:=Nat.div_le_self _ _
 generalize a / b=c at *
 exact wrapU32 (by omega) (by omega)
theorem remN (a:Nat):real .ar .rem .u32 (a:Int) 2=((a % 2:Nat):Int):=by
 show ((a:Int).tmod 2)=_
 exact (Int.ofNat_tmod a 2).symm
theorem bI_N {s:Nat} (h:s<4294967296):bI (s:Int)=(tbN s:Int):=by
 unfold bI tbN
 have q:=quoN (b:=2) h
 rw[remN,show (2:Int)=((2:Nat):Int) from rfl,q]
 by_cases hb:s % 2=1
 ·rw[if_pos (by rw[hb];rfl),if_pos hb]
  exact xoN (a:=s / 2) (b:=3988292384) (by omega) (by decide)
 ·rw[if_neg (by omega),if_neg hb]
theorem bIk_N {s:Nat} (h:s<4294967296):∀ k,bIk (s:Int) k=(tbK s k:Int)
 | 0=>rfl
 | k+1=>by rw[bIk,bIk_N h k,bI_N (tbK_lt h k)];rfl
theorem rSum_N:∀ {l:List Nat} {s:Nat},s<4294967296→(∀ x,x∈l→x<256)→foldS b8I (s:Int) l=(sGN s l:Int)
 | [],_,_,_=>rfl
 | x::r,s,h,hx=>by
  have h1:=hx x (by simp)
  have h2:=rSum_N (stN_lt (x:=x) h) (l:=r) fun y hy=>hx y (by simp[hy])
  have h3:s ^^^ x<4294967296:=Nat.xor_lt_two_pow (n:=32) (by omega) (by omega)
  have e1:xo (s:Int) (real .ck .u32 (x:Int))=((s ^^^ x:Nat):Int):=by
   rw[ck32 rfl (by omega)];exact xoN h (by omega)
  have a1:b8I (s:Int) (x:Int)=bIk ((s ^^^ x:Nat):Int) 8:=by unfold b8I;exact congrArg (fun z=>bIk z 8) e1
  have a2:=bIk_N h3 8
  have a3:((tbK (s ^^^ x) 8:Nat):Int)=(stN s x:Int):=congrArg Int.ofNat (tbK_st h1)
  have e2:b8I (s:Int) (x:Int)=(stN s x:Int):=a1.trans (a2.trans a3)
  rw[foldS,e2,h2,sGN]
theorem rSum_I {l:List Nat} (hl:∀ x,x∈l→x<256):xo (foldS b8I 4294967295 l) 4294967295=sumI l:=by
 have h:=rSum_N (l:=l) (s:=4294967295) (by omega) hl
 rw[sumI_N hl,show (4294967295:Int)=((4294967295:Nat):Int) from rfl,h]
 have:=xoN (a:=sGN 4294967295 l) (b:=4294967295) (sGN_lt (by omega)) (by omega)
 rw[Nat.xor_comm] at this
 exact this
theorem n57 (b:List Nat) (h8:∀ x,x∈b→x<256) (t:Bool) (hl:b.length≤1000000000000000):Pn (b.length+1001) 57 [.one (.iv (.sl t 1 (by8 b)))] [] (.one (.iv (.int .u32 (sumI b)))) []:=by
 refine playN (b.length+1000) rfl rfl fun A call hA hcall=>?_
 obtain⟨pl,mi,ml,nt,tn,ad,sb,K⟩:=kit hA
 obtain⟨E,ix,sn,ll,cc,sg,B⟩:=lkit hA K (0:Nat) (fun b=>[.int .u8 (nt b)]) 1
 have hE:∀ l,by8 l=E l:=fun l=>by rw[B.E_];exact (by8E K.nt_ l).symm
 obtain⟨M,hM⟩:∃ M:Int,M=nt (ll b):=⟨_,rfl⟩
 have hMl:M=b.length:=by rw[hM,K.nt_,B.ll_]
 have ln:A .len (E b)=M:=by rw[B.len,hM]
 obtain⟨cv,hcv⟩:∃ f:Int→Int,∀ s,f s=real .ck .u32 s:=⟨_,fun _=>rfl⟩
 obtain⟨xw,hxw⟩:∃ f:Int→Int→Int,∀ a b,f a b=xo a b:=⟨_,fun _ _=>rfl⟩
 obtain⟨rm,hrm⟩:∃ f:Int→Int,∀ a,f a=real .ar .rem .u32 a 2:=⟨_,fun _=>rfl⟩
 obtain⟨qo,hqo⟩:∃ f:Int→Int,∀ a,f a=real .ar .quo .u32 a 2:=⟨_,fun _=>rfl⟩
 have e1:∀ s,A .ck .u32 s=cv s:=fun s=>by rw[hA,hcv]
 have e2:∀ a b,A .ar .xor .u32 a b=xw a b:=fun a b=>by rw[hA,hxw];rfl
 have e3:∀ a,A .ar .rem .u32 a 2=rm a:=fun a=>by rw[hA,hrm]
 have e4:∀ a,A .ar .quo .u32 a 2=qo a:=fun a=>by rw[hA,hqo]
 obtain⟨G,hG⟩:∃ G:Int→Nat→Int,∀ s i,G s i=bIk s i:=⟨_,fun _ _=>rfl⟩
 have G0:∀ s,G s 0=s:=fun s=>by rw[hG];rfl
 have Gs:∀ s i,G s (i+1)=if rm (G s i)=1 then xw (qo (G s i)) 3988292384 else qo (G s i):=fun s i=>by rw[hG,hG,hrm,hqo,hxw,bIk,bI]
 have Gst:∀ s x,b8I s x=G (xw s (cv x)) 8:=fun s x=>by rw[hG,hxw,hcv,b8I]
 have fin:sumI b=xw (foldS b8I 4294967295 b) 4294967295:=by rw[hxw];exact (rSum_I h8).symm
 rw[fin,hE]
 generalize hR:foldS b8I 4294967295 b=R
 clear hcv hxw hrm hqo hG fin
 apply wpV_seq;refine wpV_ofH (by ((try(conv=>lhs;cbv));(exact rfl))) ?_
 apply wpV_seq;refine wpV_ofH (by ((try(conv=>lhs;cbv));(exact rfl))) ?_
 apply wpV_seq;apply wpV_seq;refine wpV_ofH (by ((try(conv=>lhs;cbv));(repeat((first|(rewrite[ln]));(try(conv=>lhs;cbv))));(exact rfl))) ?_
 apply wpV_block
 refine wpV_loop b.length (fun j st=>∃ (J S:Int),st=⟨0,[u,u,u,.one (.iv (.int .u32 S)),u,u,.one (.iv (.sl t 1 (E b))),i64 M,i64 J,u,u,u,u,u,u,u,u,u,u,u,u,u,u,u,u,u,u,u,u,u],[]⟩∧J=j∧foldS b8I S (b.drop j)=R) (by omega) (by ((try(conv=>lhs;cbv));(try(with_reducible rfl)))) ⟨0,4294967295,rfl,rfl,hR⟩ ?_
 rintro j hj st ⟨J,S,rfl,hJ,hgo⟩
 by_cases hjl:j<b.length
 ·have hd:b.drop j=ix b J::b.drop (j+1):=by
   rw[B.ix_,hJ,Int.toNat_natCast,List.drop_eq_getElem_cons (by omega),List.getD_eq_getElem?_getD,List.getElem?_eq_getElem (by omega)];rfl
  have g1:=B.get (l:=b) (J:=J) (by omega)
  rw[hd,foldS,Gst] at hgo
  have hx:((ix b J:Nat):Int)=nt (ix b J):=(K.nt_ _).symm
  rw[hx] at hgo
  generalize nt (ix b J)=X at *
  apply wpV_seq;refine wpV_ofH (by ((try(conv=>lhs;cbv));(repeat((first|(rewrite[K.ltT];rotate_left;focus((try simp only[K.df,B.df,true_and,and_true])<;>omega)));(try(conv=>lhs;cbv))));(exact rfl))) ?_
  apply wpV_seq;refine wpV_ofH (by ((try(conv=>lhs;cbv));(exact rfl))) ?_
  apply wpV_seq
  apply wpV_block
  apply wpV_seq;refine wpV_ofH (by ((try(conv=>lhs;cbv));(repeat((first|(rewrite[g1]));(try(conv=>lhs;cbv))));(exact rfl))) ?_
  apply wpV_seq;refine wpV_ofH (by ((try(conv=>lhs;cbv));(repeat((first|(rewrite[e1])|(rewrite[e2]));(try(conv=>lhs;cbv))));(exact rfl))) ?_
  apply wpV_seq;refine wpV_ofH (by ((try(conv=>lhs;cbv));(exact rfl))) ?_
  generalize xw S (cv X)=s0 at *
  apply wpV_block
  refine wpV_loop 8 (fun i st=>∃ (I:Int),st=⟨0,[u,u,u,.one (.iv (.int .u32 (G s0 i))),u,u,.one (.iv (.sl t 1 (E b))),i64 M,i64 J,u,u,u,u,u,u,u,i64 I,u,u,u,u,u,u,u,u,u,u,u,u,u],[]⟩∧I=i) (by omega) (by ((try(conv=>lhs;cbv));(try(with_reducible rfl)))) ⟨0,by rw[G0],rfl⟩ ?_
  rintro i hi st ⟨I,rfl,hI⟩
  by_cases hi8:i<8
  ·have gs:=Gs s0 i
   generalize G s0 (i+1)=s2 at *
   generalize G s0 i=s1 at *
   have e3':=e3 s1
   generalize rm s1=bb at *
   by_cases hb:bb=1
   ·rw[if_pos hb] at gs
    subst hb
    refine wpV_ofH (by ((try(conv=>lhs;cbv));(repeat((first|(rewrite[e3'])|(rewrite[e4])|(rewrite[e2])|(rewrite[K.add];rotate_left;focus((try simp only[K.df,B.df,true_and,and_true])<;>omega))|(rewrite[K.nz];rotate_left;focus((try simp only[K.df,B.df,true_and,and_true])<;>omega))|(rewrite[K.ltT];rotate_left;focus((try simp only[K.df,B.df,true_and,and_true])<;>omega))|(rewrite[K.eqT];rotate_left;focus((try simp only[K.df,B.df,true_and,and_true])<;>omega)));(try(conv=>lhs;cbv))));(exact rfl))) ?_
    refine headQ_ofH (by ((try(conv=>lhs;cbv));(exact rfl))) ?_
    refine⟨hi8,_,by rw[gs],?_⟩
    rw[K.pl_];omega
   ·rw[if_neg hb] at gs
    refine wpV_ofH (by ((try(conv=>lhs;cbv));(repeat((first|(rewrite[e3'])|(rewrite[e4])|(rewrite[K.add];rotate_left;focus((try simp only[K.df,B.df,true_and,and_true])<;>omega))|(rewrite[K.nz];rotate_left;focus((try simp only[K.df,B.df,true_and,and_true])<;>omega))|(rewrite[K.ltT];rotate_left;focus((try simp only[K.df,B.df,true_and,and_true])<;>omega))|(rewrite[K.eqF];rotate_left;focus((try simp only[K.df,B.df,true_and,and_true])<;>omega)));(try(conv=>lhs;cbv))));(exact rfl))) ?_
    refine headQ_ofH (by ((try(conv=>lhs;cbv));(exact rfl))) ?_
    refine⟨hi8,_,by rw[gs],?_⟩
    rw[K.pl_];omega
  ·obtain rfl:i=8:=by omega
   generalize G s0 8=s8 at *
   refine wpV_ofH (by ((try(conv=>lhs;cbv));(repeat((first|(rewrite[K.ltF];rotate_left;focus((try simp only[K.df,B.df,true_and,and_true])<;>omega)));(try(conv=>lhs;cbv))));(exact rfl))) ?_
   show wpV _ _ _ _ _ _
   refine wpV_ofH (by ((try(conv=>lhs;cbv));(repeat((first|(rewrite[K.add];rotate_left;focus((try simp only[K.df,B.df,true_and,and_true])<;>omega)));(try(conv=>lhs;cbv))));(exact rfl))) ?_
   refine headQ_ofH (by ((try(conv=>lhs;cbv));(exact rfl))) ?_
   refine⟨hjl,_,_,rfl,?_,hgo⟩
   rw[K.pl_];omega
 ·obtain rfl:j=b.length:=by omega
  rw[List.drop_of_length_le (Nat.le_refl _),foldS] at hgo
  subst hgo
  refine wpV_ofH (by ((try(conv=>lhs;cbv));(repeat((first|(rewrite[K.ltF];rotate_left;focus((try simp only[K.df,B.df,true_and,and_true])<;>omega)));(try(conv=>lhs;cbv))));(exact rfl))) ?_
  show wpV _ _ _ _ _ _
  refine wpV_ofH (by ((try(conv=>lhs;cbv));(repeat((first|(rewrite[e2]));(try(conv=>lhs;cbv))));(exact rfl))) ?_
  (show finV _ _ _=some _;((try(conv=>lhs;cbv));(try(with_reducible rfl)));(try rfl))
theorem n50 (l:List Nat) (h8:∀ b,b∈l→b<256) (t:Bool) (hl:l.length≤1000000000000):Pn (l.length+2001) 50 [.one (.iv (.sl t 1 (by8 l)))] [] (opF (openS l)) (opK (openS l)):=by
 refine playN (l.length+2000) rfl rfl fun A call hA hcall=>?_
 obtain⟨pl,mi,ml,nt,tn,ad,sb,K⟩:=kit hA
 obtain⟨E,ix,sn,ll,cc,sg,B⟩:=lkit hA K (0:Nat) (fun b=>[.int .u8 (nt b)]) 1
 have hE:∀ l,by8 l=E l:=fun l=>by rw[B.E_];exact (by8E K.nt_ l).symm
 have k57:∀ t',call 57 [.one (.iv (.sl t' 1 (by8 (l.drop 4))))] []=some (.one (.iv (.int .u32 (sumI (l.drop 4)))),[]):=fun t'=>by
  rw[hcall]
  exact n57 (l.drop 4) (fun x hx=>h8 x (List.mem_of_mem_drop hx)) t' (by rw[List.length_drop];omega) _ (by rw[List.length_drop];omega)
 obtain⟨L,hL⟩:∃ L:Int,L=l.length:=⟨_,rfl⟩
 have ln:A .len (by8 l)=L:=by rw[hA,real_len,by8_len,hL]
 unfold openS
 by_cases h4:l.length<4
 ·rw[if_pos h4]
  dsimp only[opF,opK]
  generalize by8 l=xs at *
  clear k57
  refine wpV_ofH (by ((try(conv=>lhs;cbv));(repeat((first|(rewrite[ln])|(rewrite[K.ltT];rotate_left;focus((try simp only[K.df,B.df,true_and,and_true])<;>omega)));(try(conv=>lhs;cbv))));(exact rfl))) ?_
  (show finV _ _ _=some _;((try(conv=>lhs;cbv));(try(with_reducible rfl)));(try rfl))
 ·rw[if_neg h4]
  have c2:A .sub (by8 l) (some 4) none=some (by8 (l.drop 4)):=by
   rw[hA,real_sub];unfold rSub rCut rBound
   rw[by8_len]
   have h:(0:Int)≤4∧(4:Int)≤(l.length:Int):=by omega
   simp[h,by8,List.map_drop]
   rw[List.take_of_length_le (by simp)]
  have a1:=appn hA (by8 (l.drop 4)) (by rw[by8_len,List.length_drop];omega)
  have l1:A .ln (by8 (l.drop 4))=(l.drop 4).length:=by rw[hA];exact by8_len _
  obtain⟨s0,s1⟩:=sum_lt (l.drop 4)
  obtain⟨N,hN⟩:∃ N:Nat,N=(sumI (l.drop 4)).toNat:=⟨_,rfl⟩
  have hS:sumI (l.drop 4)=(N:Int):=by omega
  have hNl:N<4294967296:=by omega
  have q:∀ d i:Nat,d=2 ^ (24 - 8*i)→A .ck .u8 (A .ar .quo .u32 (N:Int) (d:Int))=nt (hb N i):=fun d i h=>by
   have:=quoN (b:=d) hNl
   rw[← hA] at this
   rw[this,ckU8 hA,h,K.nt_];rfl
  have q0:=q 16777216 0 rfl
  have q1:=q 65536 1 rfl
  have q2:=q 256 2 rfl
  have q3:A .ck .u8 (N:Int)=nt (hb N 3):=by
   rw[ckU8 hA,K.nt_]
   show ((N % 256:Nat):Int)=((N / 1 % 256:Nat):Int)
   rw[Nat.div_one]
  have m0:∀ i:Nat,i<4→ix l (i:Int)<256:=fun i hi=>by
   rw[B.ix_,Int.toNat_natCast,List.getD_eq_getElem?_getD,List.getElem?_eq_getElem (by omega)];exact h8 _ (List.getElem_mem _)
  have g0:=B.get (l:=l) (J:=0) (by omega)
  have g1:=B.get (l:=l) (J:=1) (by omega)
  have g2:=B.get (l:=l) (J:=2) (by omega)
  have g3:=B.get (l:=l) (J:=3) (by omega)
  have hv:(val4 l 4:Int)=((((nt (ix l 0)*256+nt (ix l 1))*256+nt (ix l 2))*256+nt (ix l 3)):Int):=by
   simp only[K.nt_,B.ix_,val4]
   simp
  have b0:=m0 0 (by omega)
  have b1:=m0 1 (by omega)
  have b2:=m0 2 (by omega)
  have b3:=m0 3 (by omega)
  have hx0:nt (ix l 0)=(ix l 0:Int):=K.nt_ _
  have hx1:nt (ix l 1)=(ix l 1:Int):=K.nt_ _
  have hx2:nt (ix l 2)=(ix l 2:Int):=K.nt_ _
  have hx3:nt (ix l 3)=(ix l 3:Int):=K.nt_ _
  have hy0:nt (hb N 0)=((N / 16777216:Nat):Int):=by rw[K.nt_];show ((N / 16777216 % 256:Nat):Int)=_;omega
  have hy1:nt (hb N 1)=((N / 65536 % 256:Nat):Int):=K.nt_ _
  have hy2:nt (hb N 2)=((N / 256 % 256:Nat):Int):=K.nt_ _
  have hy3:nt (hb N 3)=((N % 256:Nat):Int):=by rw[K.nt_];show ((N / 1 % 256:Nat):Int)=_;rw[Nat.div_one]
  rw[hS] at k57 ⊢
  simp only[show ((0:Nat):Int)=0 from rfl,show ((1:Nat):Int)=1 from rfl,show ((2:Nat):Int)=2 from rfl,show ((3:Nat):Int)=3 from rfl] at b0 b1 b2 b3
  have key:((N:Int)=(val4 l 4:Int))↔(nt (ix l 0)=nt (hb N 0)∧nt (ix l 1)=nt (hb N 1)∧nt (ix l 2)=nt (hb N 2)∧nt (ix l 3)=nt (hb N 3)):=by
   rw[hv,hx0,hx1,hx2,hx3,hy0,hy1,hy2,hy3]
   clear hv hx0 hx1 hx2 hx3 hy0 hy1 hy2 hy3 m0 q0 q1 q2 q3 q k57 g0 g1 g2 g3 a1 c2 l1 hL ln
   generalize ix l 0=x0 at *
   generalize ix l 1=x1 at *
   generalize ix l 2=x2 at *
   generalize ix l 3=x3 at *
   omega
  clear hv hx0 hx1 hx2 hx3 hy0 hy1 hy2 hy3 m0 q b0 b1 b2 b3
  rw[show ((16777216:Nat):Int)=16777216 from rfl] at q0
  rw[show ((65536:Nat):Int)=65536 from rfl] at q1
  rw[show ((256:Nat):Int)=256 from rfl] at q2
  generalize nt (ix l 0)=x0 at *
  generalize nt (ix l 1)=x1 at *
  generalize nt (ix l 2)=x2 at *
  generalize nt (ix l 3)=x3 at *
  generalize nt (hb N 0)=y0 at *
  generalize nt (hb N 1)=y1 at *
  generalize nt (hb N 2)=y2 at *
  generalize nt (hb N 3)=y3 at *
  have hle:=hE l
  rw[← hle] at g0 g1 g2 g3
  clear hle
  generalize hdn:(l.drop 4).length=dn at *
  generalize hds:by8 (l.drop 4)=ds at *
  generalize by8 l=xs at *
  have hL4:4≤L:=by omega
  by_cases hs:(N:Int)=(val4 l 4:Int)
  ·rw[if_pos hs]
   obtain⟨z0,z1,z2,z3⟩:=key.1 hs
   dsimp only[opF,opK]
   rw[hdn,hds]
   generalize (N:Int)=S at *
   clear key hs
   subst z0 z1 z2 z3
   apply wpV_seq;refine wpV_ofH (by ((try(conv=>lhs;cbv));(exact rfl))) ?_
   apply wpV_seq;apply wpV_seq;refine wpV_ofH (by ((try(conv=>lhs;cbv));(repeat((first|(rewrite[ln])|(rewrite[K.ltF];rotate_left;focus((try simp only[K.df,B.df,true_and,and_true])<;>omega)));(try(conv=>lhs;cbv))));(exact rfl))) ?_
   apply wpV_of (by rfl);show wpV _ _ _ _ _ _
   apply wpV_seq;refine wpV_ofH (by ((try(conv=>lhs;cbv));(repeat((first|(rewrite[c2])|(rewrite[k57]));(try(conv=>lhs;cbv))));(exact rfl))) ?_
   refine wpV_ofH (by ((try(conv=>lhs;cbv));(repeat((first|(rewrite[g0])|(rewrite[g1])|(rewrite[g2])|(rewrite[g3])|(rewrite[q0])|(rewrite[q1])|(rewrite[q2])|(rewrite[q3])|(rewrite[c2])|(rewrite[a1])|(rewrite[l1])|(rewrite[K.nz];rotate_left;focus((try simp only[K.df,B.df,true_and,and_true])<;>omega))|(rewrite[K.neF];rotate_left;focus((try simp only[K.df,B.df,true_and,and_true])<;>omega)));(try(conv=>lhs;cbv))));(exact rfl))) ?_
   (show finV _ _ _=some _;((try(conv=>lhs;cbv));(try(with_reducible rfl)));(try rfl))
  ·rw[if_neg hs]
   have hk:¬ (x0=y0∧x1=y1∧x2=y2∧x3=y3):=fun h=>hs (key.2 h)
   dsimp only[opF,opK]
   generalize (N:Int)=S at *
   clear key hs
   by_cases z0:x0=y0
   ·by_cases z1:x1=y1
    ·by_cases z2:x2=y2
     ·have z3:x3≠y3:=fun h=>hk ⟨z0,z1,z2,h⟩
      clear hk
      subst z0 z1 z2
      apply wpV_seq;refine wpV_ofH (by ((try(conv=>lhs;cbv));(exact rfl))) ?_
      apply wpV_seq;apply wpV_seq;refine wpV_ofH (by ((try(conv=>lhs;cbv));(repeat((first|(rewrite[ln])|(rewrite[K.ltF];rotate_left;focus((try simp only[K.df,B.df,true_and,and_true])<;>omega)));(try(conv=>lhs;cbv))));(exact rfl))) ?_
      apply wpV_of (by rfl);show wpV _ _ _ _ _ _
      apply wpV_seq;refine wpV_ofH (by ((try(conv=>lhs;cbv));(repeat((first|(rewrite[c2])|(rewrite[k57]));(try(conv=>lhs;cbv))));(exact rfl))) ?_
      refine wpV_ofH (by ((try(conv=>lhs;cbv));(repeat((first|(rewrite[g0])|(rewrite[g1])|(rewrite[g2])|(rewrite[g3])|(rewrite[q0])|(rewrite[q1])|(rewrite[q2])|(rewrite[q3])|(rewrite[K.nz];rotate_left;focus((try simp only[K.df,B.df,true_and,and_true])<;>omega))|(rewrite[K.neT];rotate_left;focus((try simp only[K.df,B.df,true_and,and_true])<;>omega))|(rewrite[K.neF];rotate_left;focus((try simp only[K.df,B.df,true_and,and_true])<;>omega)));(try(conv=>lhs;cbv))));(exact rfl))) ?_
      (show finV _ _ _=some _;((try(conv=>lhs;cbv));(try(with_reducible rfl)));(try rfl))
     ·clear hk
      subst z0 z1
      apply wpV_seq;refine wpV_ofH (by ((try(conv=>lhs;cbv));(exact rfl))) ?_
      apply wpV_seq;apply wpV_seq;refine wpV_ofH (by ((try(conv=>lhs;cbv));(repeat((first|(rewrite[ln])|(rewrite[K.ltF];rotate_left;focus((try simp only[K.df,B.df,true_and,and_true])<;>omega)));(try(conv=>lhs;cbv))));(exact rfl))) ?_
      apply wpV_of (by rfl);show wpV _ _ _ _ _ _
      apply wpV_seq;refine wpV_ofH (by ((try(conv=>lhs;cbv));(repeat((first|(rewrite[c2])|(rewrite[k57]));(try(conv=>lhs;cbv))));(exact rfl))) ?_
      refine wpV_ofH (by ((try(conv=>lhs;cbv));(repeat((first|(rewrite[g0])|(rewrite[g1])|(rewrite[g2])|(rewrite[q0])|(rewrite[q1])|(rewrite[q2])|(rewrite[K.nz];rotate_left;focus((try simp only[K.df,B.df,true_and,and_true])<;>omega))|(rewrite[K.neT];rotate_left;focus((try simp only[K.df,B.df,true_and,and_true])<;>omega))|(rewrite[K.neF];rotate_left;focus((try simp only[K.df,B.df,true_and,and_true])<;>omega)));(try(conv=>lhs;cbv))));(exact rfl))) ?_
      (show finV _ _ _=some _;((try(conv=>lhs;cbv));(try(with_reducible rfl)));(try rfl))
    ·clear hk
     subst z0
     apply wpV_seq;refine wpV_ofH (by ((try(conv=>lhs;cbv));(exact rfl))) ?_
     apply wpV_seq;apply wpV_seq;refine wpV_ofH (by ((try(conv=>lhs;cbv));(repeat((first|(rewrite[ln])|(rewrite[K.ltF];rotate_left;focus((try simp only[K.df,B.df,true_and,and_true])<;>omega)));(try(conv=>lhs;cbv))));(exact rfl))) ?_
     apply wpV_of (by rfl);show wpV _ _ _ _ _ _
     apply wpV_seq;refine wpV_ofH (by ((try(conv=>lhs;cbv));(repeat((first|(rewrite[c2])|(rewrite[k57]));(try(conv=>lhs;cbv))));(exact rfl))) ?_
     refine wpV_ofH (by ((try(conv=>lhs;cbv));(repeat((first|(rewrite[g0])|(rewrite[g1])|(rewrite[q0])|(rewrite[q1])|(rewrite[K.nz];rotate_left;focus((try simp only[K.df,B.df,true_and,and_true])<;>omega))|(rewrite[K.neT];rotate_left;focus((try simp only[K.df,B.df,true_and,and_true])<;>omega))|(rewrite[K.neF];rotate_left;focus((try simp only[K.df,B.df,true_and,and_true])<;>omega)));(try(conv=>lhs;cbv))));(exact rfl))) ?_
     (show finV _ _ _=some _;((try(conv=>lhs;cbv));(try(with_reducible rfl)));(try rfl))
   ·clear hk
    apply wpV_seq;refine wpV_ofH (by ((try(conv=>lhs;cbv));(exact rfl))) ?_
    apply wpV_seq;apply wpV_seq;refine wpV_ofH (by ((try(conv=>lhs;cbv));(repeat((first|(rewrite[ln])|(rewrite[K.ltF];rotate_left;focus((try simp only[K.df,B.df,true_and,and_true])<;>omega)));(try(conv=>lhs;cbv))));(exact rfl))) ?_
    apply wpV_of (by rfl);show wpV _ _ _ _ _ _
    apply wpV_seq;refine wpV_ofH (by ((try(conv=>lhs;cbv));(repeat((first|(rewrite[c2])|(rewrite[k57]));(try(conv=>lhs;cbv))));(exact rfl))) ?_
    refine wpV_ofH (by ((try(conv=>lhs;cbv));(repeat((first|(rewrite[g0])|(rewrite[q0])|(rewrite[K.nz];rotate_left;focus((try simp only[K.df,B.df,true_and,and_true])<;>omega))|(rewrite[K.neT];rotate_left;focus((try simp only[K.df,B.df,true_and,and_true])<;>omega)));(try(conv=>lhs;cbv))));(exact rfl))) ?_
    (show finV _ _ _=some _;((try(conv=>lhs;cbv));(try(with_reducible rfl)));(try rfl))
end Go.Proofs.Ytlljgefgbglmbaa
