/- Any two states, lists of events and messages held against each other, by the program and by the reference: gone through. -/
import Derived.Test.YtlljgefgbglmbaaWEA
import Derived.Test.YtlljgefgbglmbaaWBE
import Derived.Test.YtlljgefgbglmbaaDZA
set_option linter.unusedSimpArgs false
set_option linter.unusedVariables false
set_option maxRecDepth 100000
set_option maxHeartbeats 4000000
set_option cbv.maxSteps 10000000
namespace Go.Proofs.Ytlljgefgbglmbaa
open Go GoV

def allB {α:Type} (q:α→α→Bool):List α→List α→Bool
 | [],[]=>true
 | x::r,y::s=>q x y&&allB q r s
 | _,_=>false
theorem allB_ne {α:Type} {q:α→α→Bool}:∀ {l l':List α},l.length≠l'.length→allB q l l'=false
 | [],[],h=>absurd rfl h
 | [],_::_,_=>rfl
 | _::_,[],_=>rfl
 | x::r,y::s,h=>by rw[allB,allB_ne (l:=r) (l':=s) (by simpa using h),Bool.and_false]
theorem allB_refl {α:Type} {q:α→α→Bool}:∀ {l:List α},(∀ x,x∈l→q x x=true)→allB q l l=true
 | [],_=>rfl
 | x::r,h=>by rw[allB,h x (by simp),allB_refl (l:=r) fun y hy=>h y (by simp[hy])];rfl
theorem allB_step {α:Type} {q:α→α→Bool} {l l':List α} {i:Nat} (h:l.length=l'.length) (hi:i<l.length) (d:α):allB q (l.drop i) (l'.drop i)=(q (l.getD i d) (l'.getD i d)&&allB q (l.drop (i+1)) (l'.drop (i+1))):=by
 rw[List.drop_eq_getElem_cons hi,List.drop_eq_getElem_cons (l:=l') (by omega),allB,List.getD_eq_getElem?_getD,List.getElem?_eq_getElem hi,List.getD_eq_getElem?_getD,List.getElem?_eq_getElem (by omega)]
 rfl
theorem bq_comm (s t:ByteArray):(s==t)=(t==s):=by
 rcases s with ⟨a⟩;rcases t with ⟨b⟩;show (a==b)=(b==a)
 exact BEq.comm
def wq (a b:Wr):Bool:=(a.d.1==b.d.1)&&((a.d.2==b.d.2)&&((a.t==b.t)&&((a.doc==b.doc)&&((a.f==b.f)&&((a.txt==b.txt)&&true)))))
theorem wq_comm (a b:Wr):wq a b=wq b a:=by
 unfold wq
 rw[bq_comm a.doc,bq_comm a.txt,BEq.comm (a:=a.d.1),BEq.comm (a:=a.d.2),BEq.comm (a:=a.t),BEq.comm (a:=a.f)]
theorem wq_refl (a:Wr):wq a a=true:=by
 unfold wq;simp[bq_refl]
theorem eqW {A:Ar} (hA:A=real) (a b:Wr):A .eqv (([.int]++[.int])++[.int]++[.str]++[.int]++[.str]) [.int .i64 a.d.1,.int .i64 a.d.2,.int .i64 a.t,.str a.doc,.int .i64 a.f,.str a.txt] [.int .i64 b.d.1,.int .i64 b.d.2,.int .i64 b.t,.str b.doc,.int .i64 b.f,.str b.txt]=some (wq a b):=by
 rw[hA,real_eqv]
 rfl
def dq (a b:Int × Int):Bool:=decide (a=b)
def evq (a b:Ev):Bool:=decide (a.d=b.d)&&(decide (a.t=b.t)&&(decide (a.k=b.k)&&((a.doc.toList==b.doc.toList)&&(decide (a.f=b.f)&&((a.txt.toList==b.txt.toList)&&allB dq a.gone b.gone)))))
theorem evq_refl (a:Ev):evq a a=true:=by
 unfold evq
 rw[allB_refl (q:=dq) fun x _=>by unfold dq;exact decide_eq_true rfl]
 simp
def stq (v:List Int) (l:List Wr) (v':List Int) (l':List Wr):Bool:=decide (v=v')&&allB wq l l'
def evsq (lx ly:List EvX):Bool:=allB (fun a b=>evq a.1 b.1) lx ly
section
variable {A:Ar} {pl mi ml nt tn ad sb} (K:Kit A pl mi ml nt tn ad sb)
include K
theorem cmpE (a b:Int):A .cmp .eql a b=decide (a=b):=by
 by_cases h:a=b
 ·rw[K.eqT h,decide_eq_true h]
 ·rw[K.eqF h,decide_eq_false h]
theorem cmpNe (a b:Int):A .cmp .neq a b=Bool.not (decide (a=b)):=by
 by_cases h:a=b
 ·rw[K.neF h,decide_eq_true h];rfl
 ·rw[K.neT h,decide_eq_false h];rfl
end
theorem scmpN {A:Ar} (hA:A=real) (a b:ByteArray):A .scmp .neq a b=Bool.not (a.toList==b.toList):=by rw[hA];rfl
structure Held (lx:List EvX):Prop where
 z:∀ x,x∈lx→x.2.2=2
 g:∀ x,x∈lx→x.1.gone.length≤1000
 l:lx.length≤2000
theorem Held.get {lx:List EvX} (h:Held lx) {i:Nat} (hi:i<lx.length):(lx.getD i zeroX).2.2=2∧(lx.getD i zeroX).1.gone.length≤1000:=by
 have hm:lx.getD i zeroX∈lx:=by rw[List.getD_eq_getElem?_getD,List.getElem?_eq_getElem hi];exact List.getElem_mem hi
 exact⟨h.z _ hm,h.g _ hm⟩
theorem n41g (lx ly:List EvX) (h:Held lx) (h':Held ly) (t t2:Bool) (z z2:Nat) (hz:z=8∨z=0∧lx=[]) (hz2:z2=8∨z2=0∧ly=[]) :
  Pn 4003 41 [.one (.iv (.sl t z (exs lx))),.one (.iv (.sl t2 z2 (exs ly)))] [] (bl (evsq lx ly)) []:=by
 refine playN 4002 rfl rfl fun A call hA hcall=>?_
 obtain⟨pl,mi,ml,nt,tn,ad,sb,K⟩:=kit hA
 obtain⟨E,ixd,snd,lld,ccd,sgd,D⟩:=lkit hA K ((0,0):Int × Int) (fun p=>[.int .i64 p.1,.int .i64 p.2]) 16
 obtain⟨EX,ix,sn,ll,cc,sg,X⟩:=lkit hA K zeroX exI 96
 obtain⟨W,gx,st',V⟩:=rkit hA
 have h2:=h.l
 have hEX:∀ l,exs l=EX l:=fun l=>by rw[X.E_];rfl
 have hE:∀ l,eDs l=E l:=fun l=>by rw[D.E_];rfl
 rw[hEX,hEX]
 obtain⟨M,hM⟩:∃ M:Int,M=nt (ll lx):=⟨_,rfl⟩
 have hMl:M=lx.length:=by rw[hM,K.nt_,X.ll_]
 have ln:A .len (EX lx)=M:=by rw[X.len,hM]
 obtain⟨M2,hM2⟩:∃ M:Int,M=nt (ll ly):=⟨_,rfl⟩
 have hMl2:M2=ly.length:=by rw[hM2,K.nt_,X.ll_]
 have ln2:A .len (EX ly)=M2:=by rw[X.len,hM2]
 unfold evsq
 by_cases hlen:lx.length=ly.length
 ·obtain rfl:M=M2:=by omega
  generalize hR:allB (fun a b=>evq a.1 b.1) lx ly=R
  apply wpV_seq;refine wpV_ofH (by ((try(conv=>lhs;cbv));(exact rfl))) ?_
  apply wpV_seq;refine wpV_ofH (by ((try(conv=>lhs;cbv));(repeat((first|(rewrite[ln])|(rewrite[ln2])|(rewrite[K.neF];rotate_left;focus((try simp only[K.df,D.df,X.df,V.df,true_and,and_true])<;>omega)));(try(conv=>lhs;cbv))));(exact rfl))) ?_
  apply wpV_seq;apply wpV_seq;refine wpV_ofH (by ((try(conv=>lhs;cbv));(repeat((first|(rewrite[ln]));(try(conv=>lhs;cbv))));(exact rfl))) ?_
  apply wpV_block
  refine wpV_loop lx.length (fun i st=>∃ J:Int,st=⟨0,(u::.one (.iv (.sl t2 z2 (EX ly)))::u::u::u::u::u::u::u::u::u::u::u::u::u::.one (.iv (.sl t z (EX lx)))::i64 M::i64 J::u::u::u::u::u::u::u::u::u::u::u::u::u::u::u::u::u::u::u::u::u::u::u::u::u::u::u::u::u::u::u::u::u::u::u::u::u::u::u::u::u::u::u::u::u::u::u::u::u::u::u::u::u::u::u::u::u::u::u::u::u::u::u::u::u::u::u::u::u::u::u::u::u::u::[]),[]⟩∧J=i∧allB (fun a b=>evq a.1 b.1) (lx.drop i) (ly.drop i)=R) (by omega) (by ((try(conv=>lhs;cbv));(try(with_reducible rfl)))) ⟨0,rfl,rfl,hR⟩ ?_
  rintro i hi st ⟨J,rfl,hJ,hgo⟩
  by_cases him:i<lx.length
  ·obtain rfl:z=8:=by
    rcases hz with h|⟨h,h2⟩
    ·exact h
    ·rw[h2] at him;simp at him
   obtain rfl:z2=8:=by
    rcases hz2 with h|⟨h,h2⟩
    ·exact h
    ·rw[hlen,h2] at him;simp at him
   have g1:=X.get (l:=lx) (J:=J) (by omega)
   have g2:=X.get (l:=ly) (J:=J) (by omega)
   have e1:ix lx J=lx.getD i zeroX:=by rw[X.ix_,hJ];rfl
   have e2:ix ly J=ly.getD i zeroX:=by rw[X.ix_,hJ];rfl
   obtain⟨q1,q2⟩:=h.get him
   obtain⟨q3,_⟩:=h'.get (i:=i) (by omega)
   rw[allB_step hlen him zeroX,← e1,← e2] at hgo
   rw[← e1] at q1 q2
   rw[← e2] at q3
   generalize ix lx J=x at *
   generalize ix ly J=y at *
   obtain⟨e,b,zx⟩:=x
   obtain⟨e',b',zy⟩:=y
   dsimp only at q1 q2 q3 hgo
   subst q1 q3
   unfold exI at g1 g2
   obtain⟨⟨r,n⟩,tt,kd,doc,f,txt,gone⟩:=e
   obtain⟨⟨r',n'⟩,tt',kd',doc',f',txt',gone'⟩:=e'
   dsimp only at g1 g2 q2
   have eq:=eqvD hA r n r' n'
   (conv at eq=>lhs;arg 2;cbv)
   have c1:=cmpNe K tt tt'
   have c2:=cmpNe K kd kd'
   have c3:=scmpN hA doc doc'
   have c4:=cmpNe K f f'
   have c5:=scmpN hA txt txt'
   generalize hrest:allB (fun a b=>evq a.1 b.1) (lx.drop (i+1)) (ly.drop (i+1))=rest at hgo
   unfold evq at hgo
   dsimp only at hgo
   rw[hE] at g1 g2
   obtain⟨G,hG⟩:∃ G:Int,G=nt (lld gone):=⟨_,rfl⟩
   have hGl:G=gone.length:=by rw[hG,K.nt_,D.ll_]
   have lg:A .len (E gone)=G:=by rw[D.len,hG]
   obtain⟨G2,hG2⟩:∃ G:Int,G=nt (lld gone'):=⟨_,rfl⟩
   have hGl2:G2=gone'.length:=by rw[hG2,K.nt_,D.ll_]
   have lg2:A .len (E gone')=G2:=by rw[D.len,hG2]
   generalize decide ((r,n)=(r',n'))=q0 at *
   generalize decide (tt=tt')=q1 at *
   generalize decide (kd=kd')=q2 at *
   generalize (doc.toList==doc'.toList)=q3 at *
   generalize decide (f=f')=q4 at *
   generalize (txt.toList==txt'.toList)=q5 at *
   clear h h'
   cases q0
   ·simp only[Bool.false_and] at hgo;subst hgo
    refine wpV_ofH (by ((try(conv=>lhs;cbv));(repeat((first|(rewrite[g1])|(rewrite[g2])|(rewrite[eq])|(rewrite[K.ltT];rotate_left;focus((try simp only[K.df,D.df,X.df,V.df,true_and,and_true])<;>omega)));(try(conv=>lhs;cbv))));(exact rfl))) ?_;show finQ _ _ _ _ _;(show finV _ _ _=some _;((try(conv=>lhs;cbv));(try(with_reducible rfl)));(try rfl))
   cases q1
   ·simp only[Bool.false_and,Bool.true_and] at hgo;subst hgo
    refine wpV_ofH (by ((try(conv=>lhs;cbv));(repeat((first|(rewrite[g1])|(rewrite[g2])|(rewrite[eq])|(rewrite[c1])|(rewrite[K.ltT];rotate_left;focus((try simp only[K.df,D.df,X.df,V.df,true_and,and_true])<;>omega)));(try(conv=>lhs;cbv))));(exact rfl))) ?_;show finQ _ _ _ _ _;(show finV _ _ _=some _;((try(conv=>lhs;cbv));(try(with_reducible rfl)));(try rfl))
   cases q2
   ·simp only[Bool.false_and,Bool.true_and] at hgo;subst hgo
    refine wpV_ofH (by ((try(conv=>lhs;cbv));(repeat((first|(rewrite[g1])|(rewrite[g2])|(rewrite[eq])|(rewrite[c1])|(rewrite[c2])|(rewrite[K.ltT];rotate_left;focus((try simp only[K.df,D.df,X.df,V.df,true_and,and_true])<;>omega)));(try(conv=>lhs;cbv))));(exact rfl))) ?_;show finQ _ _ _ _ _;(show finV _ _ _=some _;((try(conv=>lhs;cbv));(try(with_reducible rfl)));(try rfl))
   cases q3
   ·simp only[Bool.false_and,Bool.true_and] at hgo;subst hgo
    refine wpV_ofH (by ((try(conv=>lhs;cbv));(repeat((first|(rewrite[g1])|(rewrite[g2])|(rewrite[eq])|(rewrite[c1])|(rewrite[c2])|(rewrite[c3])|(rewrite[K.ltT];rotate_left;focus((try simp only[K.df,D.df,X.df,V.df,true_and,and_true])<;>omega)));(try(conv=>lhs;cbv))));(exact rfl))) ?_;show finQ _ _ _ _ _;(show finV _ _ _=some _;((try(conv=>lhs;cbv));(try(with_reducible rfl)));(try rfl))
   cases q4
   ·simp only[Bool.false_and,Bool.true_and] at hgo;subst hgo
    refine wpV_ofH (by ((try(conv=>lhs;cbv));(repeat((first|(rewrite[g1])|(rewrite[g2])|(rewrite[eq])|(rewrite[c1])|(rewrite[c2])|(rewrite[c3])|(rewrite[c4])|(rewrite[K.ltT];rotate_left;focus((try simp only[K.df,D.df,X.df,V.df,true_and,and_true])<;>omega)));(try(conv=>lhs;cbv))));(exact rfl))) ?_;show finQ _ _ _ _ _;(show finV _ _ _=some _;((try(conv=>lhs;cbv));(try(with_reducible rfl)));(try rfl))
   cases q5
   ·simp only[Bool.false_and,Bool.true_and] at hgo;subst hgo
    refine wpV_ofH (by ((try(conv=>lhs;cbv));(repeat((first|(rewrite[g1])|(rewrite[g2])|(rewrite[eq])|(rewrite[c1])|(rewrite[c2])|(rewrite[c3])|(rewrite[c4])|(rewrite[c5])|(rewrite[K.ltT];rotate_left;focus((try simp only[K.df,D.df,X.df,V.df,true_and,and_true])<;>omega)));(try(conv=>lhs;cbv))));(exact rfl))) ?_;show finQ _ _ _ _ _;(show finV _ _ _=some _;((try(conv=>lhs;cbv));(try(with_reducible rfl)));(try rfl))
   simp only[Bool.true_and] at hgo
   by_cases hgl:gone.length=gone'.length
   ·obtain rfl:G=G2:=by omega
    generalize hR2:allB dq gone gone'=R2 at *
    apply wpV_seq;refine wpV_ofH (by ((try(conv=>lhs;cbv));(repeat((first|(rewrite[K.ltT];rotate_left;focus((try simp only[K.df,D.df,X.df,V.df,true_and,and_true])<;>omega)));(try(conv=>lhs;cbv))));(exact rfl))) ?_
    apply wpV_seq;refine wpV_ofH (by ((try(conv=>lhs;cbv));(exact rfl))) ?_
    apply wpV_seq
    apply wpV_block
    apply wpV_seq;refine wpV_ofH (by ((try(conv=>lhs;cbv));(repeat((first|(rewrite[g1]));(try(conv=>lhs;cbv))));(exact rfl))) ?_
    apply wpV_seq;refine wpV_ofH (by ((try(conv=>lhs;cbv));(repeat((first|(rewrite[g2]));(try(conv=>lhs;cbv))));(exact rfl))) ?_
    apply wpV_seq;refine wpV_ofH (by ((try(conv=>lhs;cbv));(repeat((first|(rewrite[eq])|(rewrite[c1])|(rewrite[c2])|(rewrite[c3])|(rewrite[c4])|(rewrite[c5])|(rewrite[lg])|(rewrite[lg2])|(rewrite[K.neF];rotate_left;focus((try simp only[K.df,D.df,X.df,V.df,true_and,and_true])<;>omega)));(try(conv=>lhs;cbv))));(exact rfl))) ?_
    apply wpV_seq;refine wpV_ofH (by ((try(conv=>lhs;cbv));(repeat((first|(rewrite[lg]));(try(conv=>lhs;cbv))));(exact rfl))) ?_
    apply wpV_block
    refine wpV_loop gone.length (fun k st=>∃ I:Int,st=⟨0,(u::.one (.iv (.sl t2 8 (EX ly)))::u::u::u::u::u::.one (.ptr 0 0)::u::u::u::u::u::u::u::.one (.iv (.sl t 8 (EX lx)))::i64 M::i64 J::u::u::u::u::u::u::u::u::u::u::u::u::u::u::u::u::u::u::u::u::u::u::u::u::u::u::u::u::u::u::u::u::u::u::u::u::u::u::u::u::u::u::u::u::u::u::u::u::u::u::u::u::u::u::u::u::u::u::.one (.iv (.sl b 2 (E gone)))::i64 G::i64 I::u::u::u::u::u::u::u::u::u::u::u::u::u::[]),[.var false [.iv (.int .i64 r'),.iv (.int .i64 n'),.iv (.int .i64 tt'),.iv (.int .i64 kd'),.iv (.str doc'),.iv (.int .i64 f'),.iv (.str txt'),.iv (.sl b' 2 (E gone'))]]⟩∧I=k∧allB dq (gone.drop k) (gone'.drop k)=R2) (by omega) (by ((try(conv=>lhs;cbv));(try(with_reducible rfl)))) ⟨0,rfl,rfl,hR2⟩ ?_
    rintro k hk st ⟨I,rfl,hI,hg2⟩
    by_cases hkm:k<gone.length
    ·have w1:=D.get (l:=gone) (J:=I) (by omega)
     have w2:=D.get (l:=gone') (J:=I) (by omega)
     have d1:ixd gone I=gone.getD k (0,0):=by rw[D.ix_,hI];rfl
     have d2:ixd gone' I=gone'.getD k (0,0):=by rw[D.ix_,hI];rfl
     rw[allB_step hgl hkm (0,0),← d1,← d2] at hg2
     generalize ixd gone I=d at *
     generalize ixd gone' I=d' at *
     obtain⟨r1,n1⟩:=d
     obtain⟨r2,n2⟩:=d'
     have eq2:=eqvD hA r2 n2 r1 n1
     (conv at eq2=>lhs;arg 2;cbv)
     unfold dq at hg2
     rw[show decide ((r1,n1)=(r2,n2))=decide ((r2,n2)=(r1,n1)) from by simp only[eq_comm]] at hg2
     generalize decide ((r2,n2)=(r1,n1))=q at *
     dsimp only at w1 w2
     cases q with
     | true =>
      rw[Bool.true_and] at hg2
      refine wpV_ofH (by ((try(conv=>lhs;cbv));(repeat((first|(rewrite[w1])|(rewrite[w2])|(rewrite[eq2])|(rewrite[K.add];rotate_left;focus((try simp only[K.df,D.df,X.df,V.df,true_and,and_true])<;>omega))|(rewrite[K.ltT];rotate_left;focus((try simp only[K.df,D.df,X.df,V.df,true_and,and_true])<;>omega)));(try(conv=>lhs;cbv))));(exact rfl))) ?_
      refine headQ_ofH (by ((try(conv=>lhs;cbv));(exact rfl))) ?_
      refine⟨hkm,_,rfl,?_,hg2⟩
      rw[K.pl_];omega
     | false =>
      rw[Bool.false_and] at hg2
      subst hg2
      rw[Bool.false_and] at hgo
      subst hgo
      refine wpV_ofH (by ((try(conv=>lhs;cbv));(repeat((first|(rewrite[w1])|(rewrite[w2])|(rewrite[eq2])|(rewrite[K.ltT];rotate_left;focus((try simp only[K.df,D.df,X.df,V.df,true_and,and_true])<;>omega)));(try(conv=>lhs;cbv))));(exact rfl))) ?_
      show finQ _ _ _ _ _
      (show finV _ _ _=some _;((try(conv=>lhs;cbv));(try(with_reducible rfl)));(try rfl))
    ·obtain rfl:k=gone.length:=by omega
     rw[List.drop_of_length_le (Nat.le_refl _),List.drop_of_length_le (by omega),allB] at hg2
     subst hg2
     rw[Bool.true_and] at hgo
     refine wpV_ofH (by ((try(conv=>lhs;cbv));(repeat((first|(rewrite[K.ltF];rotate_left;focus((try simp only[K.df,D.df,X.df,V.df,true_and,and_true])<;>omega)));(try(conv=>lhs;cbv))));(exact rfl))) ?_
     show wpV _ _ _ _ _ _
     refine wpV_ofH (by ((try(conv=>lhs;cbv));(repeat((first|(rewrite[K.add];rotate_left;focus((try simp only[K.df,D.df,X.df,V.df,true_and,and_true])<;>omega)));(try(conv=>lhs;cbv))));(exact rfl))) ?_
     refine headQ_ofH (by ((try(conv=>lhs;cbv));(exact rfl))) ?_
     refine⟨him,_,rfl,?_,hgo⟩
     rw[K.pl_];omega
   ·rw[allB_ne hgl,Bool.false_and] at hgo
    subst hgo
    have hne:G≠G2:=by omega
    refine wpV_ofH (by ((try(conv=>lhs;cbv));(repeat((first|(rewrite[g1])|(rewrite[g2])|(rewrite[eq])|(rewrite[c1])|(rewrite[c2])|(rewrite[c3])|(rewrite[c4])|(rewrite[c5])|(rewrite[lg])|(rewrite[lg2])|(rewrite[K.ltT];rotate_left;focus((try simp only[K.df,D.df,X.df,V.df,true_and,and_true])<;>omega))|(rewrite[K.neT];rotate_left;focus((try simp only[K.df,D.df,X.df,V.df,true_and,and_true])<;>omega)));(try(conv=>lhs;cbv))));(exact rfl))) ?_;show finQ _ _ _ _ _;(show finV _ _ _=some _;((try(conv=>lhs;cbv));(try(with_reducible rfl)));(try rfl))
  ·obtain rfl:i=lx.length:=by omega
   rw[List.drop_of_length_le (Nat.le_refl _),List.drop_of_length_le (by omega),allB] at hgo
   subst hgo
   clear h h'
   refine wpV_ofH (by ((try(conv=>lhs;cbv));(repeat((first|(rewrite[K.ltF];rotate_left;focus((try simp only[K.df,D.df,X.df,V.df,true_and,and_true])<;>omega)));(try(conv=>lhs;cbv))));(exact rfl))) ?_
   show wpV _ _ _ _ _ _
   refine wpV_ofH (by ((try(conv=>lhs;cbv));(exact rfl))) ?_
   (show finV _ _ _=some _;((try(conv=>lhs;cbv));(try(with_reducible rfl)));(try rfl))
 ·rw[allB_ne hlen]
  have hne:M≠M2:=by omega
  refine wpV_ofH (by ((try(conv=>lhs;cbv));(repeat((first|(rewrite[ln])|(rewrite[ln2])|(rewrite[K.neT];rotate_left;focus((try simp only[K.df,D.df,X.df,V.df,true_and,and_true])<;>omega)));(try(conv=>lhs;cbv))));(exact rfl))) ?_
  (show finV _ _ _=some _;((try(conv=>lhs;cbv));(try(with_reducible rfl)));(try rfl))
end Go.Proofs.Ytlljgefgbglmbaa
