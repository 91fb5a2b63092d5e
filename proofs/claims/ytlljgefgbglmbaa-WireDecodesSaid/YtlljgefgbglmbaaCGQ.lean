/- A vector of any bytes is read by the reference: gone through. -/
import Derived.Test.YtlljgefgbglmbaaCGP
import Derived.Test.YtlljgefgbglmbaaCGL
set_option linter.unusedSimpArgs false
set_option linter.unusedVariables false
set_option maxRecDepth 100000
set_option maxHeartbeats 1000000
set_option cbv.maxSteps 10000000
namespace Go.Proofs.Ytlljgefgbglmbaa
open Go GoV

theorem n52 (bs:List Nat) (hb:∀ b,b∈bs→b<256) (f:Bool) (o n:Nat) (hs:o+n=bs.length) :
  Pn 1101 52 [rp] (rdR true (by8 bs) (.ok f o n)) (vecF (vecS bs (.ok f o n)).1) (rdR true (by8 bs) (vecS bs (.ok f o n)).2):=by
 refine playN 1100 rfl rfl fun A call hA hcall=>?_
 obtain⟨pl,mi,ml,nt,tn,ad,sb,K⟩:=kit hA
 obtain⟨E,ix,sn,ll,cc,sg,I⟩:=lkit hA K (0:Int) (fun z=>[.int .i64 z]) 8
 obtain⟨W,gx,st',V⟩:=rkit hA
 have kn:∀ (s:RS),s.fits bs.length→call 51 [rp,i64 1073741823] (rdR s.isOk (by8 bs) s)=some (i64 (numS bs 1073741823 s).1,rdR s.isOk (by8 bs) (numS bs 1073741823 s).2):=fun s h=>by rw[hcall];exact n51 bs hb _ s h 1100 (by omega)
 have k1:=n96 bs hb (many:=64) (top:=63) (by omega) (by omega) (by omega) f o n hs 1100 (by omega)
 rw[← hcall] at k1
 have hf:=risS_fits (many:=64) (top:=63) (s:=.ok f o n) hs
 have hmem:∀ l s',risS bs 64 63 (.ok f o n)=(some l,s')→(∀ z,z∈l→0≤z∧z≤63)∧l.length≤64:=fun l s' h=>by
  have h1:=risGo_mem (numS_fits (most:=64) (s:=.ok f o n) hs) (fun z hz=>by simp at hz) h
  have h2:=(numS_lt bs 64 (.ok f o n)).2
  exact⟨h1.1,by rw[h1.2];simp only[List.length_nil];omega⟩
 have hEI:∀ l,intsI l=E l:=fun l=>by rw[I.E_];rfl
 have hvW:∀ v,vec v=W v:=fun v=>by rw[V.W_];rfl
 have z0:[IV.int IntKind.i64 0,IV.int IntKind.i64 0,IV.int IntKind.i64 0,IV.int IntKind.i64 0,IV.int IntKind.i64 0,IV.int IntKind.i64 0,IV.int IntKind.i64 0,IV.int IntKind.i64 0,IV.int IntKind.i64 0,IV.int IntKind.i64 0,IV.int IntKind.i64 0,IV.int IntKind.i64 0,IV.int IntKind.i64 0,IV.int IntKind.i64 0,IV.int IntKind.i64 0,IV.int IntKind.i64 0,IV.int IntKind.i64 0,IV.int IntKind.i64 0,IV.int IntKind.i64 0,IV.int IntKind.i64 0,IV.int IntKind.i64 0,IV.int IntKind.i64 0,IV.int IntKind.i64 0,IV.int IntKind.i64 0,IV.int IntKind.i64 0,IV.int IntKind.i64 0,IV.int IntKind.i64 0,IV.int IntKind.i64 0,IV.int IntKind.i64 0,IV.int IntKind.i64 0,IV.int IntKind.i64 0,IV.int IntKind.i64 0,IV.int IntKind.i64 0,IV.int IntKind.i64 0,IV.int IntKind.i64 0,IV.int IntKind.i64 0,IV.int IntKind.i64 0,IV.int IntKind.i64 0,IV.int IntKind.i64 0,IV.int IntKind.i64 0,IV.int IntKind.i64 0,IV.int IntKind.i64 0,IV.int IntKind.i64 0,IV.int IntKind.i64 0,IV.int IntKind.i64 0,IV.int IntKind.i64 0,IV.int IntKind.i64 0,IV.int IntKind.i64 0,IV.int IntKind.i64 0,IV.int IntKind.i64 0,IV.int IntKind.i64 0,IV.int IntKind.i64 0,IV.int IntKind.i64 0,IV.int IntKind.i64 0,IV.int IntKind.i64 0,IV.int IntKind.i64 0,IV.int IntKind.i64 0,IV.int IntKind.i64 0,IV.int IntKind.i64 0,IV.int IntKind.i64 0,IV.int IntKind.i64 0,IV.int IntKind.i64 0,IV.int IntKind.i64 0,IV.int IntKind.i64 0]=W zeros:=by rw[V.W_];rfl
 have her:=ris_er (bs:=bs) (many:=64) (top:=63) (s:=.ok f o n)
 have zl:zeros.length=64:=by simp[zeros]
 unfold vecS
 generalize hN:risS bs 64 63 (.ok f o n)=N at *
 obtain⟨r,s1⟩:=N
 dsimp only at hf k1 her ⊢
 generalize hes:by8 bs=es at *
 cases r with
 | none =>
  cases s1 with
  | ok f1 o1 n1=>exact absurd rfl (her rfl hs)
  | er f1 e1 =>
   have hf:e1≠0:=hf
   have l0:A .len []=0:=by rw[hA];rfl
   dsimp only[risF,risB,RS.isOk,cond_true,cond_false,rdR,RS.err,List.append_nil,vecF] at k1 ⊢
   rw[hvW,← z0]
   refine wpV_ofH (by ((try(conv=>lhs;cbv));(repeat((first|(rewrite[k1])|(rewrite[l0])|(rewrite[K.neT];rotate_left;focus((try simp only[K.df,I.df,V.df,true_and,and_true])<;>omega))|(rewrite[K.ltF];rotate_left;focus((try simp only[K.df,I.df,V.df,true_and,and_true])<;>omega)));(try(conv=>lhs;cbv))));(exact rfl))) ?_
   (show finV _ _ _=some _;((try(conv=>lhs;cbv));(try(with_reducible rfl)));(try rfl))
 | some l =>
  obtain⟨hl,hlen⟩:=hmem l s1 rfl
  obtain⟨M,hM⟩:∃ M:Int,M=nt l.length:=⟨_,rfl⟩
  have hMl:=K.nt_ l.length
  obtain⟨m,hm⟩:∃ m,m=l.length:=⟨_,rfl⟩
  dsimp only
  generalize hR:vecGo bs l zeros s1=R at *
  have k1':=k1
  dsimp only[risF,risB,RS.isOk,cond_true,cond_false,rdR,vecF,List.append_nil] at k1'
  rw[hEI] at k1'
  rw[← hm] at k1' hM
  have hMm:M=(m:Int):=by rw[hM,K.nt_]
  have tail:∀ (st0:St),headV false [0,2,3,7,8,9] st0=some ⟨2,[rp,u,.one (.ptr 2 0),.one (.ptr 3 0),u,u,u,.one (.slo 4 0 m),i64 M,i64 0,u,u,u,u,u,u,u,u,u,u,u,u,u,u,u,u],rdR true es s1++[.var false [.iv (.arr 64 (W zeros))],.var false [.iv (.arr 64 (W zeros))],.arr false false 1 (E l)]⟩ →
    ∀ Q:Ex→St→Prop,(∀ J:Int,Q .normal ⟨2,[rp,u,.one (.ptr 2 0),.one (.ptr 3 0),u,u,u,.one (.slo 4 0 m),i64 M,i64 J,bl false,u,u,u,u,u,u,u,u,u,u,u,u,u,u,u],rdR true es R.2++[.var false [.iv (.arr 64 (W zeros))],.var false [.iv (.arr 64 (W R.1))],.arr false false 1 (E l)]⟩)→wpV A call (iterN 1100) (.block 0 (.loop false [0,2,3,7,8,9] l52_0)) st0 Q:=by
   intro st0 hst Q hQ
   apply wpV_block
   refine wpV_loop m (fun i st=>∃ (s':RS) (v:List Int) (J:Int),st=⟨2,[rp,u,.one (.ptr 2 0),.one (.ptr 3 0),u,u,u,.one (.slo 4 0 m),i64 M,i64 J,u,u,u,u,u,u,u,u,u,u,u,u,u,u,u,u],rdR true es s'++[.var false [.iv (.arr 64 (W zeros))],.var false [.iv (.arr 64 (W v))],.arr false false 1 (E l)]⟩∧J=i∧s'.fits bs.length∧v.length=64∧vecGo bs (l.drop i) v s'=R) (by omega) hst ⟨s1,zeros,0,rfl,rfl,hf,zl,hR⟩ ?_
   rintro i hi st ⟨s',v,J,rfl,hJ,hfit,hv,hgo⟩
   by_cases him:i<m
   ·have k2:=kn s' hfit
    have hf2:=numS_fits (most:=1073741823) hfit
    have hlt:=numS_lt bs 1073741823 s'
    have hlt2:(numS bs 1073741823 s').1≤1073741823:=by omega
    have hee:∀ f e,s'=.er f e→(numS bs 1073741823 s').2=.er f e:=by rintro f e rfl;rfl
    have hd:l.drop i=l.getD i 0::l.drop (i+1):=by
     rw[List.drop_eq_getElem_cons (by omega),List.getD_eq_getElem?_getD,List.getElem?_eq_getElem (by omega)];rfl
    have hx:ix l J=l.getD i 0:=by rw[I.ix_,hJ];rfl
    have hxr:0≤ix l J∧ix l J≤63:=by
     rw[hx,List.getD_eq_getElem?_getD,List.getElem?_eq_getElem (by omega)]
     exact hl _ (List.getElem_mem (by omega))
    rw[hd,vecGo,← hx] at hgo
    obtain⟨X,hX⟩:∃ X:Int,X=((numS bs 1073741823 s').1:Int):=⟨_,rfl⟩
    rw[← hX] at k2
    have hXv:(((numS bs 1073741823 s').1:Int)+1)=pl 1 X:=by rw[K.pl_,hX];omega
    have hnx:v.set (ix l J).toNat (((numS bs 1073741823 s').1:Int)+1)=st' v (ix l J) (pl 1 X):=by rw[V.st_,hXv]
    rw[hnx] at hgo
    generalize (numS bs 1073741823 s').2=s2 at *
    cases s' with
    | ok f' o' n' =>
     cases s2 with
     | ok f2 o2 n2 =>
      dsimp only[RS.isOk,cond_true,cond_false,rdR,List.append_nil,List.cons_append,List.nil_append] at k2 ⊢
      refine wpV_ofH (by ((try(conv=>lhs;cbv));(repeat((first|(rewrite[k2])|(rewrite[K.add];rotate_left;focus((try simp only[K.df,I.df,V.df,true_and,and_true])<;>omega))|(rewrite[K.at_];rotate_left;focus((try simp only[K.df,I.df,V.df,true_and,and_true])<;>omega))|(rewrite[I.getN];rotate_left;focus((try simp only[K.df,I.df,V.df,true_and,and_true])<;>omega))|(rewrite[V.setc];rotate_left;focus((try simp only[K.df,I.df,V.df,true_and,and_true])<;>omega))|(rewrite[K.ltT];rotate_left;focus((try simp only[K.df,I.df,V.df,true_and,and_true])<;>omega)));(try(conv=>lhs;cbv))));(exact rfl))) ?_
      refine headQ_ofH (by ((try(conv=>lhs;cbv));(exact rfl))) ?_
      refine⟨him,.ok f2 o2 n2,_,_,rfl,?_,hf2,?_,hgo⟩
      ·rw[K.pl_];omega
      ·rw[V.st_];simpa using hv
     | er f2 e2 =>
      dsimp only[RS.isOk,cond_true,cond_false,rdR,List.append_nil,List.cons_append,List.nil_append] at k2 ⊢
      refine wpV_ofH (by ((try(conv=>lhs;cbv));(repeat((first|(rewrite[k2])|(rewrite[K.add];rotate_left;focus((try simp only[K.df,I.df,V.df,true_and,and_true])<;>omega))|(rewrite[K.at_];rotate_left;focus((try simp only[K.df,I.df,V.df,true_and,and_true])<;>omega))|(rewrite[I.getN];rotate_left;focus((try simp only[K.df,I.df,V.df,true_and,and_true])<;>omega))|(rewrite[V.setc];rotate_left;focus((try simp only[K.df,I.df,V.df,true_and,and_true])<;>omega))|(rewrite[K.ltT];rotate_left;focus((try simp only[K.df,I.df,V.df,true_and,and_true])<;>omega)));(try(conv=>lhs;cbv))));(exact rfl))) ?_
      refine headQ_ofH (by ((try(conv=>lhs;cbv));(exact rfl))) ?_
      refine⟨him,.er f2 e2,_,_,rfl,?_,hf2,?_,hgo⟩
      ·rw[K.pl_];omega
      ·rw[V.st_];simpa using hv
    | er f' e' =>
     have:=hee _ _ rfl
     subst this
     dsimp only[RS.isOk,cond_true,cond_false,rdR,List.append_nil,List.cons_append,List.nil_append] at k2 ⊢
     refine wpV_ofH (by ((try(conv=>lhs;cbv));(repeat((first|(rewrite[k2])|(rewrite[K.add];rotate_left;focus((try simp only[K.df,I.df,V.df,true_and,and_true])<;>omega))|(rewrite[K.at_];rotate_left;focus((try simp only[K.df,I.df,V.df,true_and,and_true])<;>omega))|(rewrite[I.getN];rotate_left;focus((try simp only[K.df,I.df,V.df,true_and,and_true])<;>omega))|(rewrite[V.setc];rotate_left;focus((try simp only[K.df,I.df,V.df,true_and,and_true])<;>omega))|(rewrite[K.ltT];rotate_left;focus((try simp only[K.df,I.df,V.df,true_and,and_true])<;>omega)));(try(conv=>lhs;cbv))));(exact rfl))) ?_
     refine headQ_ofH (by ((try(conv=>lhs;cbv));(exact rfl))) ?_
     refine⟨him,.er f' e',_,_,rfl,?_,hf2,?_,hgo⟩
     ·rw[K.pl_];omega
     ·rw[V.st_];simpa using hv
   ·obtain rfl:i=m:=by omega
    rw[List.drop_of_length_le (by omega),vecGo] at hgo
    rw[← hgo] at hQ
    cases s' with
    | ok f' o' n' =>
     dsimp only[RS.isOk,cond_true,cond_false,rdR,List.append_nil,List.cons_append,List.nil_append] at hQ ⊢
     refine wpV_ofH (by ((try(conv=>lhs;cbv));(repeat((first|(rewrite[K.ltF];rotate_left;focus((try simp only[K.df,I.df,V.df,true_and,and_true])<;>omega)));(try(conv=>lhs;cbv))));(exact rfl))) ?_
     exact hQ J
    | er f' e' =>
     dsimp only[RS.isOk,cond_true,cond_false,rdR,List.append_nil,List.cons_append,List.nil_append] at hQ ⊢
     refine wpV_ofH (by ((try(conv=>lhs;cbv));(repeat((first|(rewrite[K.ltF];rotate_left;focus((try simp only[K.df,I.df,V.df,true_and,and_true])<;>omega)));(try(conv=>lhs;cbv))));(exact rfl))) ?_
     exact hQ J
  have hRf:R.2.fits bs.length:=by rw[← hR];exact vecGo_fits hf
  obtain⟨rv,rs⟩:=R
  dsimp only at tail hRf ⊢
  dsimp only[vecF]
  have om:A .ofN m=M:=by rw[K.ofN,hM]
  have fin:∀ J:Int,wpV A call (iterN 1100) (.seq (.seq (.region false [⟨some 19,.mov none (.t 0),[],none⟩,
  ⟨some 20,.nilc (.t 19),[],none⟩,
  ⟨some 21,.fad 1 (.t 20),[],none⟩,
  ⟨some 22,.load false 1 (.t 21),[],none⟩,
  ⟨some 23,.bin .neq (.t 22) (.k (.one (.iv (.int .i64 0)))),[],none⟩])
 (.cond (.t 23) (.seq (.region false [⟨some 24,.build [.iv (.arr 64 (List.replicate 64 (.int .i64 0)))] [],[],none⟩,
  ⟨none,.store 64 (.t 2) (.t 24),[],none⟩])
 (.ret)) (.skip)))
 (.seq (.region false [⟨some 25,.load true 64 (.t 3),[],none⟩,
  ⟨none,.store 64 (.t 2) (.t 25),[],none⟩])
 (.ret))) ⟨2,[rp,u,.one (.ptr 2 0),.one (.ptr 3 0),u,u,u,.one (.slo 4 0 m),i64 M,i64 J,bl false,u,u,u,u,u,u,u,u,u,u,u,u,u,u,u],rdR true es rs++[.var false [.iv (.arr 64 (W zeros))],.var false [.iv (.arr 64 (W rv))],.arr false false 1 (E l)]⟩ (finQ A v52 (.agg [.iv (.arr 64 (vec (if rs.err=0 then (rv,rs) else (zeros,rs)).1))],rdR true es (if rs.err=0 then (rv,rs) else (zeros,rs)).2)):=by
   intro J
   cases rs with
   | ok f2 o2 n2 =>
    rw[if_pos (show (RS.ok f2 o2 n2).err=0 from rfl)]
    dsimp only
    rw[hvW]
    dsimp only[RS.isOk,cond_true,cond_false,rdR,RS.err,List.append_nil,List.cons_append,List.nil_append] at ⊢
    refine wpV_ofH (by ((try(conv=>lhs;cbv));(repeat((first|(rewrite[K.neF];rotate_left;focus((try simp only[K.df,I.df,V.df,true_and,and_true])<;>omega)));(try(conv=>lhs;cbv))));(exact rfl))) ?_
    (show finV _ _ _=some _;((try(conv=>lhs;cbv));(try(with_reducible rfl)));(try rfl))
   | er f2 e2 =>
    have hRf:e2≠0:=hRf
    rw[if_neg (show ¬ (RS.er f2 e2).err=0 from hRf)]
    dsimp only
    rw[hvW]
    dsimp only[RS.isOk,cond_true,cond_false,rdR,RS.err,List.append_nil,List.cons_append,List.nil_append] at ⊢
    refine wpV_ofH (by ((try(conv=>lhs;cbv));(repeat((first|(rewrite[z0])|(rewrite[K.neT];rotate_left;focus((try simp only[K.df,I.df,V.df,true_and,and_true])<;>omega)));(try(conv=>lhs;cbv))));(exact rfl))) ?_
    (show finV _ _ _=some _;((try(conv=>lhs;cbv));(try(with_reducible rfl)));(try rfl))
  cases s1 with
  | ok f1 o1 n1 =>
   dsimp only[RS.isOk,cond_true,cond_false,rdR,List.append_nil,List.cons_append,List.nil_append] at k1' tail ⊢
   apply wpV_seq;refine wpV_ofH (by ((try(conv=>lhs;cbv));(repeat((first|(rewrite[z0]));(try(conv=>lhs;cbv))));(exact rfl))) ?_
   apply wpV_seq;refine wpV_ofH (by ((try(conv=>lhs;cbv));(repeat((first|(rewrite[z0]));(try(conv=>lhs;cbv))));(exact rfl))) ?_
   apply wpV_seq;apply wpV_seq;refine wpV_ofH (by ((try(conv=>lhs;cbv));(repeat((first|(rewrite[k1'])|(rewrite[om]));(try(conv=>lhs;cbv))));(exact rfl))) ?_
   refine tail _ (by ((try(conv=>lhs;cbv));(try(with_reducible rfl)))) _ fin
  | er f1 e1 =>
   dsimp only[RS.isOk,cond_true,cond_false,rdR,List.append_nil,List.cons_append,List.nil_append] at k1' tail ⊢
   apply wpV_seq;refine wpV_ofH (by ((try(conv=>lhs;cbv));(repeat((first|(rewrite[z0]));(try(conv=>lhs;cbv))));(exact rfl))) ?_
   apply wpV_seq;refine wpV_ofH (by ((try(conv=>lhs;cbv));(repeat((first|(rewrite[z0]));(try(conv=>lhs;cbv))));(exact rfl))) ?_
   apply wpV_seq;apply wpV_seq;refine wpV_ofH (by ((try(conv=>lhs;cbv));(repeat((first|(rewrite[k1'])|(rewrite[om]));(try(conv=>lhs;cbv))));(exact rfl))) ?_
   refine tail _ (by ((try(conv=>lhs;cbv));(try(with_reducible rfl)))) _ fin
end Go.Proofs.Ytlljgefgbglmbaa
