/- The reference: messages that may be, and their bytes: gone through. -/
import Derived.Test.YtlljgefgbglmbaaWEC
set_option linter.unusedSimpArgs false
set_option linter.unusedVariables false
set_option maxRecDepth 100000
set_option maxHeartbeats 40000000
set_option cbv.maxSteps 10000000
namespace Go.Proofs.Ytlljgefgbglmbaa
open Go GoV

theorem n36x:∀ l:List EvX,(∀ x,x∈l→x.1.doc.size≤1000000000000000∧x.1.gone.length≤1000)→∃ k,∀ x,x∈l→∀ b,Pn k 36 [evF b 2 x.1] [] (i64 (chk x.1)) []
 | [],_=>⟨0,fun w h=>by simp at h⟩
 | x::r,h=>by
  obtain⟨h0,h00⟩:=h x (by simp)
  obtain⟨k1,h1⟩:=n36 x.1 h0 h00
  obtain⟨k2,h2⟩:=n36x r fun w hw=>h w (by simp[hw])
  refine⟨k1+k2,fun w hw b n hn=>?_⟩
  rcases List.mem_cons.1 hw with rfl|hw
  ·exact h1 b 2 (.inl rfl) n (by omega)
  ·exact h2 w hw b n (by omega)
theorem n13 (m:Msg) (lx:List EvX) (h:MsgOK m lx):∃ k,∀ b z b2 z2,(z=8∨z=0∧lx=[])→(z2=6∨z2=0∧m.live=[])→Pn k 13 [msF b z b2 z2 m lx] [] (i64 (chkM m lx)) []:=by
 obtain⟨kg,hkg⟩:=n36x lx h.ex
 obtain⟨kc,hkc⟩:=n37 h.ls m.live h.wd
 obtain⟨N,hN⟩:∃ N,N=kg+kc+3000:=⟨_,rfl⟩
 refine⟨N+1,fun b z b2 z2 hz hz2=>playN N rfl rfl fun A call hA hcall=>?_⟩
 obtain⟨pl,mi,ml,nt,tn,ad,sb,K⟩:=kit hA
 obtain⟨EX,ix,sn,ll,cc,sg,X⟩:=lkit hA K zeroX exI 96
 obtain⟨W,gx,st',V⟩:=rkit hA
 have qa:=n35 h.la N (by omega)
 have qb:=n35 h.lb N (by omega)
 have qf:=n35 h.lf N (by omega)
 have qc:=hkc b2 z2 hz2 N (by omega)
 have qg:∀ x,x∈lx→∀ b,call 36 [evF b 2 x.1] []=some (i64 (chk x.1),[]):=fun x hx b=>by rw[hcall];exact hkg x hx b N (by omega)
 rw[← hcall] at qa qb qf qc
 have hzl:zeros.length=64:=by simp[zeros]
 have eqS:=eqv_vec h.ls hzl
 have eqB:=eqv_vec h.lb hzl
 have eqF:=eqv_vec h.lf hzl
 rw[← hA] at eqS eqB eqF
 have z0:[IV.int IntKind.i64 0,IV.int IntKind.i64 0,IV.int IntKind.i64 0,IV.int IntKind.i64 0,IV.int IntKind.i64 0,IV.int IntKind.i64 0,IV.int IntKind.i64 0,IV.int IntKind.i64 0,IV.int IntKind.i64 0,IV.int IntKind.i64 0,IV.int IntKind.i64 0,IV.int IntKind.i64 0,IV.int IntKind.i64 0,IV.int IntKind.i64 0,IV.int IntKind.i64 0,IV.int IntKind.i64 0,IV.int IntKind.i64 0,IV.int IntKind.i64 0,IV.int IntKind.i64 0,IV.int IntKind.i64 0,IV.int IntKind.i64 0,IV.int IntKind.i64 0,IV.int IntKind.i64 0,IV.int IntKind.i64 0,IV.int IntKind.i64 0,IV.int IntKind.i64 0,IV.int IntKind.i64 0,IV.int IntKind.i64 0,IV.int IntKind.i64 0,IV.int IntKind.i64 0,IV.int IntKind.i64 0,IV.int IntKind.i64 0,IV.int IntKind.i64 0,IV.int IntKind.i64 0,IV.int IntKind.i64 0,IV.int IntKind.i64 0,IV.int IntKind.i64 0,IV.int IntKind.i64 0,IV.int IntKind.i64 0,IV.int IntKind.i64 0,IV.int IntKind.i64 0,IV.int IntKind.i64 0,IV.int IntKind.i64 0,IV.int IntKind.i64 0,IV.int IntKind.i64 0,IV.int IntKind.i64 0,IV.int IntKind.i64 0,IV.int IntKind.i64 0,IV.int IntKind.i64 0,IV.int IntKind.i64 0,IV.int IntKind.i64 0,IV.int IntKind.i64 0,IV.int IntKind.i64 0,IV.int IntKind.i64 0,IV.int IntKind.i64 0,IV.int IntKind.i64 0,IV.int IntKind.i64 0,IV.int IntKind.i64 0,IV.int IntKind.i64 0,IV.int IntKind.i64 0,IV.int IntKind.i64 0,IV.int IntKind.i64 0,IV.int IntKind.i64 0,IV.int IntKind.i64 0]=vec zeros:=rfl
 rw[← z0] at eqS eqB eqF
 have hEX:exs lx=EX lx:=by rw[X.E_];rfl
 obtain⟨M,hM⟩:∃ M:Int,M=nt (ll lx):=⟨_,rfl⟩
 have hMl:M=lx.length:=by rw[hM,K.nt_,X.ll_]
 have ln:A .len (EX lx)=M:=by rw[X.len,hM]
 obtain⟨LN,hLN⟩:∃ x:Int,x=m.live.length:=⟨_,rfl⟩
 have lnW:A .len (eWs m.live)=LN:=by rw[hA,real_len,hLN];simp[eWs]
 have hnn:noneB m=(decide (m.seen=zeros)&&(decide (LN=0)&&decide (m.floor=zeros))):=by
  unfold noneB
  congr 2
  by_cases h0:m.live.length=0
  ·rw[decide_eq_true h0,decide_eq_true (by omega)]
  ·rw[decide_eq_false h0,decide_eq_false (by omega)]
 have x2:=h.x2
 clear hkg hkc h
 unfold chkM
 rw[hnn,show endsB m=decide (0≤m.fr∧m.fr<64∧0≤m.to∧m.to<64∧m.fr≠m.to) from rfl]
 obtain⟨mk,fr,to,ack,base,seen,live,floor⟩:=m
 dsimp only[msF,stF,vecF] at *
 rw[hEX]
 clear hnn
 generalize goodB ack=ga at *
 generalize goodB base=gb at *
 generalize goodB floor=gf at *
 generalize decide (seen=zeros)=bS at *
 generalize decide (base=zeros)=bB at *
 generalize decide (floor=zeros)=bF at *
 generalize canB seen live=cn at *
 generalize vec ack=va at *
 generalize vec base=vb at *
 generalize vec seen=vs at *
 generalize vec floor=vf at *
 generalize eWs live=lw at *
 by_cases hends:0≤fr∧fr<64∧0≤to∧to<64∧fr≠to
 ·rw[decide_eq_true hends,Bool.true_and]
  obtain⟨he1,he2,he3,he4,he5⟩:=hends
  by_cases hlen:lx.length≤1024
  ·rw[decide_eq_true hlen]
   cases ga with
   | false=>rw[Bool.false_and,cond_false];refine wpV_ofH (by ((try(conv=>lhs;cbv));(repeat((first|(rewrite[ln])|(rewrite[qa])|(rewrite[K.ltF];rotate_left;focus((try simp only[K.df,X.df,V.df,true_and,and_true])<;>omega))|(rewrite[K.gtF];rotate_left;focus((try simp only[K.df,X.df,V.df,true_and,and_true])<;>omega))|(rewrite[K.eqF];rotate_left;focus((try simp only[K.df,X.df,V.df,true_and,and_true])<;>omega)));(try(conv=>lhs;cbv))));(exact rfl))) ?_;(show finV _ _ _=some _;((try(conv=>lhs;cbv));(try(with_reducible rfl)));(try rfl))
   | true =>
    rw[Bool.true_and]
    cases gb with
    | false=>rw[Bool.false_and,cond_false];refine wpV_ofH (by ((try(conv=>lhs;cbv));(repeat((first|(rewrite[ln])|(rewrite[qa])|(rewrite[qb])|(rewrite[K.ltF];rotate_left;focus((try simp only[K.df,X.df,V.df,true_and,and_true])<;>omega))|(rewrite[K.gtF];rotate_left;focus((try simp only[K.df,X.df,V.df,true_and,and_true])<;>omega))|(rewrite[K.eqF];rotate_left;focus((try simp only[K.df,X.df,V.df,true_and,and_true])<;>omega)));(try(conv=>lhs;cbv))));(exact rfl))) ?_;(show finV _ _ _=some _;((try(conv=>lhs;cbv));(try(with_reducible rfl)));(try rfl))
    | true =>
     rw[Bool.true_and]
     cases gf with
     | false=>rw[Bool.false_and,cond_false];refine wpV_ofH (by ((try(conv=>lhs;cbv));(repeat((first|(rewrite[ln])|(rewrite[qa])|(rewrite[qb])|(rewrite[qf])|(rewrite[K.ltF];rotate_left;focus((try simp only[K.df,X.df,V.df,true_and,and_true])<;>omega))|(rewrite[K.gtF];rotate_left;focus((try simp only[K.df,X.df,V.df,true_and,and_true])<;>omega))|(rewrite[K.eqF];rotate_left;focus((try simp only[K.df,X.df,V.df,true_and,and_true])<;>omega)));(try(conv=>lhs;cbv))));(exact rfl))) ?_;(show finV _ _ _=some _;((try(conv=>lhs;cbv));(try(with_reducible rfl)));(try rfl))
     | true =>
      rw[Bool.true_and,cond_true]
      generalize hR:(lx.all fun x=>decide (chk x.1=0))=R
      apply wpV_seq;refine wpV_ofH (by ((try(conv=>lhs;cbv));(exact rfl))) ?_
      apply wpV_seq;apply wpV_seq;refine wpV_ofH (by ((try(conv=>lhs;cbv));(repeat((first|(rewrite[ln])|(rewrite[K.ltF];rotate_left;focus((try simp only[K.df,X.df,V.df,true_and,and_true])<;>omega))|(rewrite[K.gtF];rotate_left;focus((try simp only[K.df,X.df,V.df,true_and,and_true])<;>omega))|(rewrite[K.eqF];rotate_left;focus((try simp only[K.df,X.df,V.df,true_and,and_true])<;>omega)));(try(conv=>lhs;cbv))));(exact rfl))) ?_
      apply wpV_of (by rfl);show wpV _ _ _ _ _ _
      apply wpV_seq;apply wpV_seq;refine wpV_ofH (by ((try(conv=>lhs;cbv));(repeat((first|(rewrite[qa])|(rewrite[qb])|(rewrite[qf]));(try(conv=>lhs;cbv))));(exact rfl))) ?_
      apply wpV_of (by rfl);show wpV _ _ _ _ _ _
      apply wpV_seq;apply wpV_seq;refine wpV_ofH (by ((try(conv=>lhs;cbv));(repeat((first|(rewrite[ln]));(try(conv=>lhs;cbv))));(exact rfl))) ?_
      apply wpV_block
      refine wpV_loop lx.length (fun j st=>∃ J:Int,st=⟨0,(u::.one (.ptr 0 0)::u::u::u::u::u::u::u::u::u::u::u::u::u::u::u::u::u::u::u::u::u::u::u::u::u::u::u::u::u::u::u::u::u::u::u::u::u::u::u::u::u::u::u::u::u::u::u::u::u::u::u::u::u::.one (.iv (.sl b z (EX lx)))::i64 M::i64 J::u::u::u::u::u::u::u::u::u::u::u::u::u::u::u::u::u::u::u::u::u::u::u::u::u::u::u::u::u::u::u::u::u::u::u::u::u::u::u::u::u::u::u::u::u::u::u::u::u::u::u::u::u::u::u::u::u::u::u::u::u::u::u::u::u::u::u::u::u::u::u::[]),[.var false [.iv (.int .i64 mk),.iv (.int .i64 fr),.iv (.int .i64 to),.iv (.arr 64 va),.iv (.arr 64 vb),.iv (.sl b z (EX lx)),.iv (.arr 64 vs),.iv (.sl b2 z2 lw),.iv (.arr 64 vf)]]⟩∧J=j∧((lx.drop j).all fun x=>decide (chk x.1=0))=R) (by omega) (by ((try(conv=>lhs;cbv));(try(with_reducible rfl)))) ⟨0,rfl,rfl,hR⟩ ?_
      rintro j hj st ⟨J,rfl,hJ,hgo⟩
      by_cases hjl:j<lx.length
      ·obtain rfl:z=8:=by
        rcases hz with h|⟨h,h2⟩
        ·exact h
        ·rw[h2] at hjl;simp at hjl
       have g1:=X.get (l:=lx) (J:=J) (by omega)
       have hd:lx.drop j=ix lx J::lx.drop (j+1):=by
        rw[X.ix_,hJ,Int.toNat_natCast,List.drop_eq_getElem_cons (by omega),List.getD_eq_getElem?_getD,List.getElem?_eq_getElem (by omega)];rfl
       have hm:ix lx J∈lx:=by
        rw[X.ix_,hJ,Int.toNat_natCast,List.getD_eq_getElem?_getD,List.getElem?_eq_getElem hjl];exact List.getElem_mem _
       have kk:=qg _ hm
       have zz:=x2 _ hm
       rw[hd,List.all_cons] at hgo
       generalize ix lx J=x at *
       obtain⟨e,bb,zx⟩:=x
       dsimp only at kk zz hgo
       subst zz
       have kk:=kk bb
       unfold exI at g1
       dsimp only[evF] at kk g1
       generalize chk e=c at *
       generalize eDs e.gone=gs at *
       obtain⟨⟨r,n⟩,tt,kd,doc,f,txt,gone⟩:=e
       dsimp only at kk g1
       clear qg x2
       by_cases hc:c=0
       ·rw[decide_eq_true hc,Bool.true_and] at hgo
        subst hc
        refine wpV_ofH (by ((try(conv=>lhs;cbv));(repeat((first|(rewrite[g1])|(rewrite[kk])|(rewrite[K.add];rotate_left;focus((try simp only[K.df,X.df,V.df,true_and,and_true])<;>omega))|(rewrite[K.ltT];rotate_left;focus((try simp only[K.df,X.df,V.df,true_and,and_true])<;>omega))|(rewrite[K.neF];rotate_left;focus((try simp only[K.df,X.df,V.df,true_and,and_true])<;>omega)));(try(conv=>lhs;cbv))));(exact rfl))) ?_
        refine headQ_ofH (by ((try(conv=>lhs;cbv));(exact rfl))) ?_
        refine⟨hjl,_,rfl,?_,hgo⟩
        rw[K.pl_];omega
       ·rw[decide_eq_false hc,Bool.false_and] at hgo
        subst hgo
        rw[cond_false]
        refine wpV_ofH (by ((try(conv=>lhs;cbv));(repeat((first|(rewrite[g1])|(rewrite[kk])|(rewrite[K.ltT];rotate_left;focus((try simp only[K.df,X.df,V.df,true_and,and_true])<;>omega))|(rewrite[K.neT];rotate_left;focus((try simp only[K.df,X.df,V.df,true_and,and_true])<;>omega)));(try(conv=>lhs;cbv))));(exact rfl))) ?_
        show finQ _ _ _ _ _
        (show finV _ _ _=some _;((try(conv=>lhs;cbv));(try(with_reducible rfl)));(try rfl))
      ·obtain rfl:j=lx.length:=by omega
       rw[List.drop_of_length_le (Nat.le_refl _),List.all_nil] at hgo
       subst hgo
       rw[cond_true,← hMl]
       have hM0:0≤M:=by omega
       have hL0:0≤LN:=by omega
       clear qg x2 hR hM hEX
       obtain⟨nn,hnn⟩:∃ nn,nn=(bS&&(decide (LN=0)&&bF)):=⟨_,rfl⟩
       rw[← hnn]
       have cs:nn=true∧bS=true∧LN=0∧bF=true∨nn=false∧(bS=false∨bS=true∧0<LN∨bS=true∧LN=0∧bF=false):=by
        rw[hnn]
        cases bS<;>cases bF<;>(by_cases h0:LN=0)<;>simp[h0]<;>omega
       clear hnn hLN
       generalize hq:kindI mk nn M bB cn=q
       refine wpV_ofH (by ((try(conv=>lhs;cbv));(repeat((first|(rewrite[K.ltF];rotate_left;focus((try simp only[K.df,X.df,V.df,true_and,and_true])<;>omega)));(try(conv=>lhs;cbv))));(exact rfl))) ?_
       show wpV _ _ _ _ _ _
       rcases cs with ⟨rfl,rfl,rfl,rfl⟩|⟨rfl,cs⟩
       ·rcases (show mk=1∨mk=2∨mk=3∨mk≠1∧mk≠2∧mk≠3 by omega) with rfl|rfl|rfl|⟨k1,k2,k3⟩
        ·cases bB with
         | false =>
          obtain rfl:q=1:=by rw[← hq];simp[kindI]
          refine wpV_ofH (by ((try(conv=>lhs;cbv));(repeat((first|(rewrite[eqS])|(rewrite[eqB])|(rewrite[eqF])|(rewrite[lnW])|(rewrite[K.eqT];rotate_left;focus((try simp only[K.df,X.df,V.df,true_and,and_true])<;>omega))|(rewrite[K.gtF];rotate_left;focus((try simp only[K.df,X.df,V.df,true_and,and_true])<;>omega))|(rewrite[K.eqF];rotate_left;focus((try simp only[K.df,X.df,V.df,true_and,and_true])<;>omega)));(try(conv=>lhs;cbv))));(exact rfl))) ?_
          (show finV _ _ _=some _;((try(conv=>lhs;cbv));(try(with_reducible rfl)));(try rfl))
         | true =>
          rcases (show M=0∨0<M by omega) with rfl|hp
          ·obtain rfl:q=0:=by rw[← hq];simp[kindI]
           refine wpV_ofH (by ((try(conv=>lhs;cbv));(repeat((first|(rewrite[eqS])|(rewrite[eqB])|(rewrite[eqF])|(rewrite[lnW])|(rewrite[ln])|(rewrite[K.eqT];rotate_left;focus((try simp only[K.df,X.df,V.df,true_and,and_true])<;>omega))|(rewrite[K.gtF];rotate_left;focus((try simp only[K.df,X.df,V.df,true_and,and_true])<;>omega)));(try(conv=>lhs;cbv))));(exact rfl))) ?_
           (show finV _ _ _=some _;((try(conv=>lhs;cbv));(try(with_reducible rfl)));(try rfl))
          ·have hp':M≠0:=by omega
           obtain rfl:q=1:=by rw[← hq];simp[kindI,hp']
           refine wpV_ofH (by ((try(conv=>lhs;cbv));(repeat((first|(rewrite[eqS])|(rewrite[eqB])|(rewrite[eqF])|(rewrite[lnW])|(rewrite[ln])|(rewrite[K.eqT];rotate_left;focus((try simp only[K.df,X.df,V.df,true_and,and_true])<;>omega))|(rewrite[K.gtF];rotate_left;focus((try simp only[K.df,X.df,V.df,true_and,and_true])<;>omega))|(rewrite[K.eqF];rotate_left;focus((try simp only[K.df,X.df,V.df,true_and,and_true])<;>omega)));(try(conv=>lhs;cbv))));(exact rfl))) ?_
           (show finV _ _ _=some _;((try(conv=>lhs;cbv));(try(with_reducible rfl)));(try rfl))
        ·rcases (show M=0∨0<M by omega) with rfl|hp
         ·obtain rfl:q=1:=by rw[← hq];simp[kindI]
          refine wpV_ofH (by ((try(conv=>lhs;cbv));(repeat((first|(rewrite[eqS])|(rewrite[eqB])|(rewrite[eqF])|(rewrite[lnW])|(rewrite[ln])|(rewrite[K.eqT];rotate_left;focus((try simp only[K.df,X.df,V.df,true_and,and_true])<;>omega))|(rewrite[K.gtF];rotate_left;focus((try simp only[K.df,X.df,V.df,true_and,and_true])<;>omega))|(rewrite[K.eqF];rotate_left;focus((try simp only[K.df,X.df,V.df,true_and,and_true])<;>omega)));(try(conv=>lhs;cbv))));(exact rfl))) ?_
          (show finV _ _ _=some _;((try(conv=>lhs;cbv));(try(with_reducible rfl)));(try rfl))
         ·obtain rfl:q=0:=by rw[← hq];simp[kindI,hp]
          refine wpV_ofH (by ((try(conv=>lhs;cbv));(repeat((first|(rewrite[eqS])|(rewrite[eqB])|(rewrite[eqF])|(rewrite[lnW])|(rewrite[ln])|(rewrite[K.gtT];rotate_left;focus((try simp only[K.df,X.df,V.df,true_and,and_true])<;>omega))|(rewrite[K.eqT];rotate_left;focus((try simp only[K.df,X.df,V.df,true_and,and_true])<;>omega))|(rewrite[K.gtF];rotate_left;focus((try simp only[K.df,X.df,V.df,true_and,and_true])<;>omega))|(rewrite[K.eqF];rotate_left;focus((try simp only[K.df,X.df,V.df,true_and,and_true])<;>omega)));(try(conv=>lhs;cbv))));(exact rfl))) ?_
          (show finV _ _ _=some _;((try(conv=>lhs;cbv));(try(with_reducible rfl)));(try rfl))
        ·cases cn with
         | false =>
          obtain rfl:q=1:=by rw[← hq];simp[kindI]
          cases bB
          ·refine wpV_ofH (by ((try(conv=>lhs;cbv));(repeat((first|(rewrite[eqS])|(rewrite[eqB])|(rewrite[eqF])|(rewrite[lnW])|(rewrite[K.eqT];rotate_left;focus((try simp only[K.df,X.df,V.df,true_and,and_true])<;>omega))|(rewrite[K.gtF];rotate_left;focus((try simp only[K.df,X.df,V.df,true_and,and_true])<;>omega))|(rewrite[K.eqF];rotate_left;focus((try simp only[K.df,X.df,V.df,true_and,and_true])<;>omega)));(try(conv=>lhs;cbv))));(exact rfl))) ?_;(show finV _ _ _=some _;((try(conv=>lhs;cbv));(try(with_reducible rfl)));(try rfl))
          refine wpV_ofH (by ((try(conv=>lhs;cbv));(repeat((first|(rewrite[eqS])|(rewrite[eqB])|(rewrite[eqF])|(rewrite[lnW])|(rewrite[qc])|(rewrite[K.eqT];rotate_left;focus((try simp only[K.df,X.df,V.df,true_and,and_true])<;>omega))|(rewrite[K.gtF];rotate_left;focus((try simp only[K.df,X.df,V.df,true_and,and_true])<;>omega))|(rewrite[K.eqF];rotate_left;focus((try simp only[K.df,X.df,V.df,true_and,and_true])<;>omega)));(try(conv=>lhs;cbv))));(exact rfl))) ?_
          (show finV _ _ _=some _;((try(conv=>lhs;cbv));(try(with_reducible rfl)));(try rfl))
         | true =>
          cases bB with
          | false =>
           obtain rfl:q=1:=by rw[← hq];simp[kindI]
           refine wpV_ofH (by ((try(conv=>lhs;cbv));(repeat((first|(rewrite[eqS])|(rewrite[eqB])|(rewrite[eqF])|(rewrite[lnW])|(rewrite[K.eqT];rotate_left;focus((try simp only[K.df,X.df,V.df,true_and,and_true])<;>omega))|(rewrite[K.gtF];rotate_left;focus((try simp only[K.df,X.df,V.df,true_and,and_true])<;>omega))|(rewrite[K.eqF];rotate_left;focus((try simp only[K.df,X.df,V.df,true_and,and_true])<;>omega)));(try(conv=>lhs;cbv))));(exact rfl))) ?_
           (show finV _ _ _=some _;((try(conv=>lhs;cbv));(try(with_reducible rfl)));(try rfl))
          | true =>
           obtain rfl:q=0:=by rw[← hq];simp[kindI]
           refine wpV_ofH (by ((try(conv=>lhs;cbv));(repeat((first|(rewrite[eqS])|(rewrite[eqB])|(rewrite[eqF])|(rewrite[lnW])|(rewrite[qc])|(rewrite[K.eqT];rotate_left;focus((try simp only[K.df,X.df,V.df,true_and,and_true])<;>omega))|(rewrite[K.gtF];rotate_left;focus((try simp only[K.df,X.df,V.df,true_and,and_true])<;>omega))|(rewrite[K.eqF];rotate_left;focus((try simp only[K.df,X.df,V.df,true_and,and_true])<;>omega)));(try(conv=>lhs;cbv))));(exact rfl))) ?_
           (show finV _ _ _=some _;((try(conv=>lhs;cbv));(try(with_reducible rfl)));(try rfl))
        ·obtain rfl:q=1:=by rw[← hq];simp[kindI,k1,k2,k3]
         refine wpV_ofH (by ((try(conv=>lhs;cbv));(repeat((first|(rewrite[eqS])|(rewrite[eqB])|(rewrite[eqF])|(rewrite[lnW])|(rewrite[K.gtF];rotate_left;focus((try simp only[K.df,X.df,V.df,true_and,and_true])<;>omega))|(rewrite[K.eqF];rotate_left;focus((try simp only[K.df,X.df,V.df,true_and,and_true])<;>omega)));(try(conv=>lhs;cbv))));(exact rfl))) ?_
         (show finV _ _ _=some _;((try(conv=>lhs;cbv));(try(with_reducible rfl)));(try rfl))
       ·rcases cs with rfl|⟨rfl,hl⟩|⟨rfl,rfl,rfl⟩
        all_goals
         rcases (show mk=1∨mk=2∨mk=3∨mk≠1∧mk≠2∧mk≠3 by omega) with rfl|rfl|rfl|⟨k1,k2,k3⟩
         ·obtain rfl:q=1:=by rw[← hq];simp[kindI]
          refine wpV_ofH (by ((try(conv=>lhs;cbv));(repeat((first|(rewrite[eqS])|(rewrite[eqB])|(rewrite[eqF])|(rewrite[lnW])|(rewrite[K.gtT];rotate_left;focus((try simp only[K.df,X.df,V.df,true_and,and_true])<;>omega))|(rewrite[K.eqT];rotate_left;focus((try simp only[K.df,X.df,V.df,true_and,and_true])<;>omega))|(rewrite[K.gtF];rotate_left;focus((try simp only[K.df,X.df,V.df,true_and,and_true])<;>omega))|(rewrite[K.eqF];rotate_left;focus((try simp only[K.df,X.df,V.df,true_and,and_true])<;>omega)));(try(conv=>lhs;cbv))));(exact rfl))) ?_
          (show finV _ _ _=some _;((try(conv=>lhs;cbv));(try(with_reducible rfl)));(try rfl))
         ·obtain rfl:q=1:=by rw[← hq];simp[kindI]
          refine wpV_ofH (by ((try(conv=>lhs;cbv));(repeat((first|(rewrite[eqS])|(rewrite[eqB])|(rewrite[eqF])|(rewrite[lnW])|(rewrite[K.gtT];rotate_left;focus((try simp only[K.df,X.df,V.df,true_and,and_true])<;>omega))|(rewrite[K.eqT];rotate_left;focus((try simp only[K.df,X.df,V.df,true_and,and_true])<;>omega))|(rewrite[K.gtF];rotate_left;focus((try simp only[K.df,X.df,V.df,true_and,and_true])<;>omega))|(rewrite[K.eqF];rotate_left;focus((try simp only[K.df,X.df,V.df,true_and,and_true])<;>omega)));(try(conv=>lhs;cbv))));(exact rfl))) ?_
          (show finV _ _ _=some _;((try(conv=>lhs;cbv));(try(with_reducible rfl)));(try rfl))
         ·cases cn with
          | false =>
           obtain rfl:q=1:=by rw[← hq];simp[kindI]
           cases bB
           ·refine wpV_ofH (by ((try(conv=>lhs;cbv));(repeat((first|(rewrite[eqS])|(rewrite[eqB])|(rewrite[eqF])|(rewrite[lnW])|(rewrite[K.gtT];rotate_left;focus((try simp only[K.df,X.df,V.df,true_and,and_true])<;>omega))|(rewrite[K.eqT];rotate_left;focus((try simp only[K.df,X.df,V.df,true_and,and_true])<;>omega))|(rewrite[K.gtF];rotate_left;focus((try simp only[K.df,X.df,V.df,true_and,and_true])<;>omega))|(rewrite[K.eqF];rotate_left;focus((try simp only[K.df,X.df,V.df,true_and,and_true])<;>omega)));(try(conv=>lhs;cbv))));(exact rfl))) ?_;(show finV _ _ _=some _;((try(conv=>lhs;cbv));(try(with_reducible rfl)));(try rfl))
           refine wpV_ofH (by ((try(conv=>lhs;cbv));(repeat((first|(rewrite[eqS])|(rewrite[eqB])|(rewrite[eqF])|(rewrite[lnW])|(rewrite[qc])|(rewrite[K.gtT];rotate_left;focus((try simp only[K.df,X.df,V.df,true_and,and_true])<;>omega))|(rewrite[K.eqT];rotate_left;focus((try simp only[K.df,X.df,V.df,true_and,and_true])<;>omega))|(rewrite[K.gtF];rotate_left;focus((try simp only[K.df,X.df,V.df,true_and,and_true])<;>omega))|(rewrite[K.eqF];rotate_left;focus((try simp only[K.df,X.df,V.df,true_and,and_true])<;>omega)));(try(conv=>lhs;cbv))));(exact rfl))) ?_
           (show finV _ _ _=some _;((try(conv=>lhs;cbv));(try(with_reducible rfl)));(try rfl))
          | true =>
           cases bB with
           | false =>
            obtain rfl:q=1:=by rw[← hq];simp[kindI]
            refine wpV_ofH (by ((try(conv=>lhs;cbv));(repeat((first|(rewrite[eqS])|(rewrite[eqB])|(rewrite[eqF])|(rewrite[lnW])|(rewrite[K.gtT];rotate_left;focus((try simp only[K.df,X.df,V.df,true_and,and_true])<;>omega))|(rewrite[K.eqT];rotate_left;focus((try simp only[K.df,X.df,V.df,true_and,and_true])<;>omega))|(rewrite[K.gtF];rotate_left;focus((try simp only[K.df,X.df,V.df,true_and,and_true])<;>omega))|(rewrite[K.eqF];rotate_left;focus((try simp only[K.df,X.df,V.df,true_and,and_true])<;>omega)));(try(conv=>lhs;cbv))));(exact rfl))) ?_
            (show finV _ _ _=some _;((try(conv=>lhs;cbv));(try(with_reducible rfl)));(try rfl))
           | true =>
            obtain rfl:q=0:=by rw[← hq];simp[kindI]
            refine wpV_ofH (by ((try(conv=>lhs;cbv));(repeat((first|(rewrite[eqS])|(rewrite[eqB])|(rewrite[eqF])|(rewrite[lnW])|(rewrite[qc])|(rewrite[K.gtT];rotate_left;focus((try simp only[K.df,X.df,V.df,true_and,and_true])<;>omega))|(rewrite[K.eqT];rotate_left;focus((try simp only[K.df,X.df,V.df,true_and,and_true])<;>omega))|(rewrite[K.gtF];rotate_left;focus((try simp only[K.df,X.df,V.df,true_and,and_true])<;>omega))|(rewrite[K.eqF];rotate_left;focus((try simp only[K.df,X.df,V.df,true_and,and_true])<;>omega)));(try(conv=>lhs;cbv))));(exact rfl))) ?_
            (show finV _ _ _=some _;((try(conv=>lhs;cbv));(try(with_reducible rfl)));(try rfl))
         ·obtain rfl:q=1:=by rw[← hq];simp[kindI,k1,k2,k3]
          refine wpV_ofH (by ((try(conv=>lhs;cbv));(repeat((first|(rewrite[eqS])|(rewrite[eqB])|(rewrite[eqF])|(rewrite[lnW])|(rewrite[K.gtT];rotate_left;focus((try simp only[K.df,X.df,V.df,true_and,and_true])<;>omega))|(rewrite[K.gtF];rotate_left;focus((try simp only[K.df,X.df,V.df,true_and,and_true])<;>omega))|(rewrite[K.eqF];rotate_left;focus((try simp only[K.df,X.df,V.df,true_and,and_true])<;>omega)));(try(conv=>lhs;cbv))));(exact rfl))) ?_
          (show finV _ _ _=some _;((try(conv=>lhs;cbv));(try(with_reducible rfl)));(try rfl))
  ·rw[decide_eq_false hlen,Bool.and_false,Bool.and_false,Bool.and_false,cond_false]
   clear qg x2
   refine wpV_ofH (by ((try(conv=>lhs;cbv));(repeat((first|(rewrite[ln])|(rewrite[K.gtT];rotate_left;focus((try simp only[K.df,X.df,V.df,true_and,and_true])<;>omega))|(rewrite[K.ltF];rotate_left;focus((try simp only[K.df,X.df,V.df,true_and,and_true])<;>omega))|(rewrite[K.gtF];rotate_left;focus((try simp only[K.df,X.df,V.df,true_and,and_true])<;>omega))|(rewrite[K.eqF];rotate_left;focus((try simp only[K.df,X.df,V.df,true_and,and_true])<;>omega)));(try(conv=>lhs;cbv))));(exact rfl))) ?_
   (show finV _ _ _=some _;((try(conv=>lhs;cbv));(try(with_reducible rfl)));(try rfl))
 ·rw[decide_eq_false hends,Bool.false_and,cond_false]
  clear qg x2
  by_cases a1:fr<0
  ·refine wpV_ofH (by ((try(conv=>lhs;cbv));(repeat((first|(rewrite[K.ltT];rotate_left;focus((try simp only[K.df,X.df,V.df,true_and,and_true])<;>omega)));(try(conv=>lhs;cbv))));(exact rfl))) ?_;(show finV _ _ _=some _;((try(conv=>lhs;cbv));(try(with_reducible rfl)));(try rfl))
  by_cases a2:63<fr
  ·refine wpV_ofH (by ((try(conv=>lhs;cbv));(repeat((first|(rewrite[K.gtT];rotate_left;focus((try simp only[K.df,X.df,V.df,true_and,and_true])<;>omega))|(rewrite[K.ltF];rotate_left;focus((try simp only[K.df,X.df,V.df,true_and,and_true])<;>omega)));(try(conv=>lhs;cbv))));(exact rfl))) ?_;(show finV _ _ _=some _;((try(conv=>lhs;cbv));(try(with_reducible rfl)));(try rfl))
  by_cases a3:to<0
  ·refine wpV_ofH (by ((try(conv=>lhs;cbv));(repeat((first|(rewrite[K.ltT];rotate_left;focus((try simp only[K.df,X.df,V.df,true_and,and_true])<;>omega))|(rewrite[K.ltF];rotate_left;focus((try simp only[K.df,X.df,V.df,true_and,and_true])<;>omega))|(rewrite[K.gtF];rotate_left;focus((try simp only[K.df,X.df,V.df,true_and,and_true])<;>omega)));(try(conv=>lhs;cbv))));(exact rfl))) ?_;(show finV _ _ _=some _;((try(conv=>lhs;cbv));(try(with_reducible rfl)));(try rfl))
  by_cases a4:63<to
  ·refine wpV_ofH (by ((try(conv=>lhs;cbv));(repeat((first|(rewrite[K.gtT];rotate_left;focus((try simp only[K.df,X.df,V.df,true_and,and_true])<;>omega))|(rewrite[K.ltF];rotate_left;focus((try simp only[K.df,X.df,V.df,true_and,and_true])<;>omega))|(rewrite[K.gtF];rotate_left;focus((try simp only[K.df,X.df,V.df,true_and,and_true])<;>omega)));(try(conv=>lhs;cbv))));(exact rfl))) ?_;(show finV _ _ _=some _;((try(conv=>lhs;cbv));(try(with_reducible rfl)));(try rfl))
  have a5:fr=to:=by omega
  refine wpV_ofH (by ((try(conv=>lhs;cbv));(repeat((first|(rewrite[K.eqT];rotate_left;focus((try simp only[K.df,X.df,V.df,true_and,and_true])<;>omega))|(rewrite[K.ltF];rotate_left;focus((try simp only[K.df,X.df,V.df,true_and,and_true])<;>omega))|(rewrite[K.gtF];rotate_left;focus((try simp only[K.df,X.df,V.df,true_and,and_true])<;>omega)));(try(conv=>lhs;cbv))));(exact rfl))) ?_
  (show finV _ _ _=some _;((try(conv=>lhs;cbv));(try(with_reducible rfl)));(try rfl))
end Go.Proofs.Ytlljgefgbglmbaa
