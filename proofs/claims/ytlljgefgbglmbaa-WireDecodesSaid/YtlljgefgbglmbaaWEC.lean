/- Any two states and messages held against each other, by the program and by the reference: gone through. -/
import Derived.Test.YtlljgefgbglmbaaWEB
set_option linter.unusedSimpArgs false
set_option linter.unusedVariables false
set_option maxRecDepth 100000
set_option maxHeartbeats 4000000
set_option cbv.maxSteps 10000000
namespace Go.Proofs.Ytlljgefgbglmbaa
open Go GoV

theorem n40g {v v':List Int} (hv:v.length=64) (hv':v'.length=64) (l l':List Wr) (t t2:Bool) (z z2:Nat) (hz:z=6∨z=0∧l=[]) (hz2:z2=6∨z2=0∧l'=[]) (hl:l.length≤5000) :
  Pn 6003 40 [stF t z v l,stF t2 z2 v' l'] [] (bl (stq v l v' l')) []:=by
 refine playN 6002 rfl rfl fun A call hA hcall=>?_
 obtain⟨pl,mi,ml,nt,tn,ad,sb,K⟩:=kit hA
 obtain⟨EX,ix,sn,ll,cc,sg,X⟩:=lkit hA K zeroWr (fun w=>[.int .i64 w.d.1,.int .i64 w.d.2,.int .i64 w.t,.str w.doc,.int .i64 w.f,.str w.txt]) 64
 obtain⟨W,gx,st',V⟩:=rkit hA
 have hEX:∀ l,eWs l=EX l:=fun l=>by rw[X.E_];rfl
 have eq0:=eqv_vec hv hv'
 rw[← hA] at eq0
 unfold stq
 dsimp only[stF] at *
 rw[hEX,hEX]
 obtain⟨M,hM⟩:∃ M:Int,M=nt (ll l):=⟨_,rfl⟩
 have hMl:M=l.length:=by rw[hM,K.nt_,X.ll_]
 have ln:A .len (EX l)=M:=by rw[X.len,hM]
 obtain⟨M2,hM2⟩:∃ M:Int,M=nt (ll l'):=⟨_,rfl⟩
 have hMl2:M2=l'.length:=by rw[hM2,K.nt_,X.ll_]
 have ln2:A .len (EX l')=M2:=by rw[X.len,hM2]
 generalize decide (v=v')=q at *
 generalize vec v=vs at *
 generalize vec v'=vs' at *
 cases q
 ·rw[Bool.false_and]
  refine wpV_ofH (by ((try(conv=>lhs;cbv));(repeat((first|(rewrite[eq0]));(try(conv=>lhs;cbv))));(exact rfl))) ?_;(show finV _ _ _=some _;((try(conv=>lhs;cbv));(try(with_reducible rfl)));(try rfl))
 rw[Bool.true_and]
 by_cases hlen:l.length=l'.length
 ·obtain rfl:M=M2:=by omega
  generalize hR:allB wq l l'=R at *
  apply wpV_seq;refine wpV_ofH (by ((try(conv=>lhs;cbv));(exact rfl))) ?_
  apply wpV_seq;apply wpV_seq;refine wpV_ofH (by ((try(conv=>lhs;cbv));(repeat((first|(rewrite[eq0])|(rewrite[ln])|(rewrite[ln2])|(rewrite[K.neF];rotate_left;focus((try simp only[K.df,X.df,V.df,true_and,and_true])<;>omega)));(try(conv=>lhs;cbv))));(exact rfl))) ?_
  apply wpV_of (by rfl);show wpV _ _ _ _ _ _
  apply wpV_seq;apply wpV_seq;refine wpV_ofH (by ((try(conv=>lhs;cbv));(repeat((first|(rewrite[ln]));(try(conv=>lhs;cbv))));(exact rfl))) ?_
  apply wpV_block
  refine wpV_loop l.length (fun i st=>∃ J:Int,st=⟨0,[u,u,u,.one (.ptr 0 0),u,u,u,u,u,u,u,u,u,u,u,u,u,u,u,u,u,u,.one (.iv (.sl t z (EX l))),i64 M,i64 J,u,u,u,u,u,u,u,u,u,u,u,u],[.var false [.iv (.arr 64 vs'),.iv (.sl t2 z2 (EX l'))]]⟩∧J=i∧allB wq (l.drop i) (l'.drop i)=R) (by omega) (by ((try(conv=>lhs;cbv));(try(with_reducible rfl)))) ⟨0,rfl,rfl,hR⟩ ?_
  rintro i hi st ⟨J,rfl,hJ,hgo⟩
  by_cases him:i<l.length
  ·obtain rfl:z=6:=by
    rcases hz with h|⟨h,h2⟩
    ·exact h
    ·rw[h2] at him;simp at him
   obtain rfl:z2=6:=by
    rcases hz2 with h|⟨h,h2⟩
    ·exact h
    ·rw[hlen,h2] at him;simp at him
   have g1:=X.get (l:=l) (J:=J) (by omega)
   have g2:=X.get (l:=l') (J:=J) (by omega)
   have e1:ix l J=l.getD i zeroWr:=by rw[X.ix_,hJ];rfl
   have e2:ix l' J=l'.getD i zeroWr:=by rw[X.ix_,hJ];rfl
   rw[allB_step hlen him zeroWr,← e1,← e2,wq_comm] at hgo
   have eq:=eqW hA (ix l' J) (ix l J)
   generalize wq (ix l' J) (ix l J)=q at *
   generalize ix l J=w at *
   generalize ix l' J=w' at *
   obtain⟨⟨r,n⟩,tt,doc,f,txt⟩:=w
   obtain⟨⟨r',n'⟩,tt',doc',f',txt'⟩:=w'
   (conv at eq=>lhs;arg 2;cbv)
   dsimp only at g1 g2 eq
   cases q with
   | true =>
    rw[Bool.true_and] at hgo
    refine wpV_ofH (by ((try(conv=>lhs;cbv));(repeat((first|(rewrite[g1])|(rewrite[g2])|(rewrite[eq])|(rewrite[K.add];rotate_left;focus((try simp only[K.df,X.df,V.df,true_and,and_true])<;>omega))|(rewrite[K.ltT];rotate_left;focus((try simp only[K.df,X.df,V.df,true_and,and_true])<;>omega)));(try(conv=>lhs;cbv))));(exact rfl))) ?_
    refine headQ_ofH (by ((try(conv=>lhs;cbv));(exact rfl))) ?_
    refine⟨him,_,rfl,?_,hgo⟩
    rw[K.pl_];omega
   | false =>
    rw[Bool.false_and] at hgo
    subst hgo
    refine wpV_ofH (by ((try(conv=>lhs;cbv));(repeat((first|(rewrite[g1])|(rewrite[g2])|(rewrite[eq])|(rewrite[K.ltT];rotate_left;focus((try simp only[K.df,X.df,V.df,true_and,and_true])<;>omega)));(try(conv=>lhs;cbv))));(exact rfl))) ?_
    show finQ _ _ _ _ _
    (show finV _ _ _=some _;((try(conv=>lhs;cbv));(try(with_reducible rfl)));(try rfl))
  ·obtain rfl:i=l.length:=by omega
   rw[List.drop_of_length_le (Nat.le_refl _),List.drop_of_length_le (by omega),allB] at hgo
   subst hgo
   refine wpV_ofH (by ((try(conv=>lhs;cbv));(repeat((first|(rewrite[K.ltF];rotate_left;focus((try simp only[K.df,X.df,V.df,true_and,and_true])<;>omega)));(try(conv=>lhs;cbv))));(exact rfl))) ?_
   show wpV _ _ _ _ _ _
   refine wpV_ofH (by ((try(conv=>lhs;cbv));(exact rfl))) ?_
   (show finV _ _ _=some _;((try(conv=>lhs;cbv));(try(with_reducible rfl)));(try rfl))
 ·rw[allB_ne hlen]
  have hne:M≠M2:=by omega
  refine wpV_ofH (by ((try(conv=>lhs;cbv));(repeat((first|(rewrite[eq0])|(rewrite[ln])|(rewrite[ln2])|(rewrite[K.neT];rotate_left;focus((try simp only[K.df,X.df,V.df,true_and,and_true])<;>omega)));(try(conv=>lhs;cbv))));(exact rfl))) ?_
  (show finV _ _ _=some _;((try(conv=>lhs;cbv));(try(with_reducible rfl)));(try rfl))
/-- Are two messages the same? -/
def msq (m:Msg) (lx:List EvX) (m':Msg) (lx':List EvX):Bool:=decide (m.k=m'.k)&&(decide (m.fr=m'.fr)&&(decide (m.to=m'.to)&&(decide (m.ack=m'.ack)&&(decide (m.base=m'.base)&&(decide (m.floor=m'.floor)&&(stq m.seen m.live m'.seen m'.live&&evsq lx lx'))))))
structure MsgL (m:Msg):Prop where
 la:m.ack.length=64
 lb:m.base.length=64
 ls:m.seen.length=64
 lf:m.floor.length=64
 lw:m.live.length≤5000
theorem n15g (m m':Msg) (lx ly:List EvX) (h:MsgL m) (h':MsgL m') (hx:Held lx) (hy:Held ly) (b b' b2 b2':Bool) (z z' z2 z2':Nat)
  (hz:z=8∨z=0∧lx=[]) (hz':z'=8∨z'=0∧ly=[]) (hz2:z2=6∨z2=0∧m.live=[]) (hz2':z2'=6∨z2'=0∧m'.live=[]):Pn 7000 15 [msF b z b2 z2 m lx,msF b' z' b2' z2' m' ly] [] (bl (msq m lx m' ly)) []:=by
 refine playN 6999 rfl rfl fun A call hA hcall=>?_
 obtain⟨pl,mi,ml,nt,tn,ad,sb,K⟩:=kit hA
 obtain⟨EX,ix,sn,ll,cc,sg,X⟩:=lkit hA K zeroWr (fun w=>[.int .i64 w.d.1,.int .i64 w.d.2,.int .i64 w.t,.str w.doc,.int .i64 w.f,.str w.txt]) 64
 obtain⟨W,gx,st',V⟩:=rkit hA
 have hEX:∀ l,eWs l=EX l:=fun l=>by rw[X.E_];rfl
 have k1:=n41g lx ly hx hy b b' z z' hz hz' 6999 (by omega)
 have k2:=n40g h.ls h'.ls m.live m'.live b2 b2' z2 z2' hz2 hz2' h.lw 6999 (by omega)
 have eqA:=eqv_vec h.la h'.la
 have eqB:=eqv_vec h.lb h'.lb
 have eqF:=eqv_vec h.lf h'.lf
 rw[← hA] at eqA eqB eqF
 rw[← hcall] at k1 k2
 have c1:=cmpE K m.k m'.k
 have c2:=cmpE K m.fr m'.fr
 have c3:=cmpE K m.to m'.to
 unfold msq
 clear h h' hx hy hz hz' hz2 hz2'
 obtain⟨mk,fr,to,ack,base,seen,live,floor⟩:=m
 obtain⟨mk',fr',to',ack',base',seen',live',floor'⟩:=m'
 dsimp only[msF,stF] at *
 generalize stq seen live seen' live'=q6 at *
 generalize evsq lx ly=q7 at *
 generalize decide (mk=mk')=q0 at *
 generalize decide (fr=fr')=q1 at *
 generalize decide (to=to')=q2 at *
 generalize decide (ack=ack')=q3 at *
 generalize decide (base=base')=q4 at *
 generalize decide (floor=floor')=q5 at *
 generalize vec ack=va at *
 generalize vec base=vb at *
 generalize vec seen=vs at *
 generalize vec floor=vf at *
 generalize eWs live=lw at *
 generalize vec ack'=va' at *
 generalize vec base'=vb' at *
 generalize vec seen'=vs' at *
 generalize vec floor'=vf' at *
 generalize eWs live'=lw' at *
 generalize exs lx=xs at *
 generalize exs ly=ys at *
 cases q0
 ·refine wpV_ofH (by ((try(conv=>lhs;cbv));(repeat((first|(rewrite[c1]));(try(conv=>lhs;cbv))));(exact rfl))) ?_;(show finV _ _ _=some _;((try(conv=>lhs;cbv));(try(with_reducible rfl)));(try rfl))
 cases q1
 ·refine wpV_ofH (by ((try(conv=>lhs;cbv));(repeat((first|(rewrite[c1])|(rewrite[c2]));(try(conv=>lhs;cbv))));(exact rfl))) ?_;(show finV _ _ _=some _;((try(conv=>lhs;cbv));(try(with_reducible rfl)));(try rfl))
 cases q2
 ·refine wpV_ofH (by ((try(conv=>lhs;cbv));(repeat((first|(rewrite[c1])|(rewrite[c2])|(rewrite[c3]));(try(conv=>lhs;cbv))));(exact rfl))) ?_;(show finV _ _ _=some _;((try(conv=>lhs;cbv));(try(with_reducible rfl)));(try rfl))
 cases q3
 ·refine wpV_ofH (by ((try(conv=>lhs;cbv));(repeat((first|(rewrite[c1])|(rewrite[c2])|(rewrite[c3])|(rewrite[eqA]));(try(conv=>lhs;cbv))));(exact rfl))) ?_;(show finV _ _ _=some _;((try(conv=>lhs;cbv));(try(with_reducible rfl)));(try rfl))
 cases q4
 ·refine wpV_ofH (by ((try(conv=>lhs;cbv));(repeat((first|(rewrite[c1])|(rewrite[c2])|(rewrite[c3])|(rewrite[eqA])|(rewrite[eqB]));(try(conv=>lhs;cbv))));(exact rfl))) ?_;(show finV _ _ _=some _;((try(conv=>lhs;cbv));(try(with_reducible rfl)));(try rfl))
 cases q5
 ·refine wpV_ofH (by ((try(conv=>lhs;cbv));(repeat((first|(rewrite[c1])|(rewrite[c2])|(rewrite[c3])|(rewrite[eqA])|(rewrite[eqB])|(rewrite[eqF]));(try(conv=>lhs;cbv))));(exact rfl))) ?_;(show finV _ _ _=some _;((try(conv=>lhs;cbv));(try(with_reducible rfl)));(try rfl))
 cases q6
 ·refine wpV_ofH (by ((try(conv=>lhs;cbv));(repeat((first|(rewrite[c1])|(rewrite[c2])|(rewrite[c3])|(rewrite[eqA])|(rewrite[eqB])|(rewrite[eqF])|(rewrite[k2]));(try(conv=>lhs;cbv))));(exact rfl))) ?_;(show finV _ _ _=some _;((try(conv=>lhs;cbv));(try(with_reducible rfl)));(try rfl))
 refine wpV_ofH (by ((try(conv=>lhs;cbv));(repeat((first|(rewrite[c1])|(rewrite[c2])|(rewrite[c3])|(rewrite[eqA])|(rewrite[eqB])|(rewrite[eqF])|(rewrite[k2])|(rewrite[k1]));(try(conv=>lhs;cbv))));(exact rfl))) ?_
 (show finV _ _ _=some _;((try(conv=>lhs;cbv));(try(with_reducible rfl)));(try rfl))
end Go.Proofs.Ytlljgefgbglmbaa
