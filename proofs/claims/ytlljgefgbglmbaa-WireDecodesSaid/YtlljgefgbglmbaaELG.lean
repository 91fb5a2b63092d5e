/- Lists of events are read by the reference: gone through. -/
import Derived.Test.YtlljgefgbglmbaaELF
set_option linter.unusedSimpArgs false
set_option linter.unusedVariables false
set_option maxRecDepth 100000
set_option maxHeartbeats 1000000
set_option cbv.maxSteps 10000000
namespace Go.Proofs.Ytlljgefgbglmbaa
open Go GoV

def lsG (b:Nat) (p:List Ev × RS):FV:=if p.2.isOk=true∨p.1.length=0 then .one (.slo b 0 p.1.length) else .one (.iv (.sl true 0 []))
def lsH (p:List Ev × RS):List Blk:=if p.2.isOk=true∨p.1.length=0 then [.arr false false 8 ((okL p.1).map exI)] else []
theorem n53 (bs:List Nat) (hb:∀ b,b∈bs→b<256) (hbl:bs.length≤1000000000000) (most:Int) (f:Bool) (o n:Nat) (hs:o+n=bs.length)
  (c:Nat) (S0:RS) (h0:numS bs most (.ok f o n)=(c,S0)) (m:Nat) (hm:m≤bs.length+1) (h1:m=c∨(evN bs S0 m).2.isOk=false) (h2:∀ j,j<m→j<c∧(evN bs S0 j).2.isOk=true) :
  ∃ k,Pn k 53 [rp,i64 most] (rdR true (by8 bs) (.ok f o n)) (lsG 2 (evN bs S0 m)) (rdR true (by8 bs) (evN bs S0 m).2++lsH (evN bs S0 m)):=by
 have hf:=numS_fits (most:=most) (s:=.ok f o n) hs
 rw[h0] at hf
 have hc:=(numS_lt bs most (.ok f o n)).1
 rw[h0] at hc
 dsimp only at hf hc
 obtain⟨k7,hk7⟩:=choose_le (P:=fun j t=>play real (lookT tab) (fun _=>clonePr clones) t 97 [rp] (rdR true (by8 bs) (evN bs S0 j).2)=some (evV 2 (evS bs (evN bs S0 j).2),rdR true (by8 bs) (evS bs (evN bs S0 j).2).2++evK (evS bs (evN bs S0 j).2))) m (fun j hj=>by
  have g:=(h2 j hj).2
  have gf:=evN_fits (bs:=bs) hf j
  cases hS:(evN bs S0 j).2 with
  | er f e=>rw[hS] at g;cases g
  | ok f o n=>rw[hS] at gf;exact n97 bs hb (by omega) f o n gf)
 refine⟨k7+bs.length+2001,playN (k7+bs.length+2000) rfl rfl fun A call hA hcall=>?_⟩
 obtain⟨pl,mi,ml,nt,tn,ad,sb,K⟩:=kit hA
 obtain⟨E,ix0,sn0,ll0,cc0,sg0,D⟩:=lkit hA K ((0,0):Int × Int) (fun p=>[.int .i64 p.1,.int .i64 p.2]) 16
 obtain⟨EX,ix,sn,ll,cc,sg,X⟩:=lkit hA K ((zeroEv,true,0):EvX) (fun x=>[.int .i64 x.1.d.1,.int .i64 x.1.d.2,.int .i64 x.1.t,.int .i64 x.1.k,.str x.1.doc,.int .i64 x.1.f,.str x.1.txt,.sl x.2.1 x.2.2 (E x.1.gone)]) 96
 have hE:∀ l,eDs l=E l:=fun l=>by rw[D.E_];rfl
 have hE0:E []=[]:=by rw[D.E_];rfl
 have hX0:EX []=[]:=by rw[X.E_];rfl
 have hEX:∀ l:List EvX,l.map exI=EX l:=fun l=>by
  rw[X.E_]
  exact List.map_congr_left fun x _=>by unfold exI;rw[hE]
 have kn:call 51 [rp,i64 most] (rdR true (by8 bs) (.ok f o n))=some (i64 c,rdR true (by8 bs) S0):=by
  rw[hcall]
  have:=n51 bs hb most (.ok f o n) hs (k7+bs.length+2000) (by omega)
  rw[h0] at this
  exact this
 have k90:∀ j,j<m→call 97 [rp] (rdR true (by8 bs) (evN bs S0 j).2)=some (evV 2 (evS bs (evN bs S0 j).2),rdR true (by8 bs) (evS bs (evN bs S0 j).2).2++evK (evS bs (evN bs S0 j).2)):=fun j hj=>by rw[hcall];exact hk7 j hj _ (by omega)
 clear hk7
 have hmc:m≤c:=by
  rcases Nat.lt_or_ge c m with h|h
  ·exact absurd (h2 c h).1 (by omega)
  ·exact h
 obtain⟨C,hC⟩:∃ C:Int,C=c:=⟨_,rfl⟩
 rw[← hC] at kn
 obtain⟨T,hT⟩:∃ T:Nat→List Ev × RS,∀ i,T i=evN bs S0 i:=⟨_,fun _=>rfl⟩
 have hT0:T 0=([],S0):=hT 0
 have hT1:∀ i,T (i+1)=((T i).1++[(evS bs (T i).2).1],(evS bs (T i).2).2):=fun i=>by rw[hT,hT];rfl
 have hTl:∀ i,(T i).1.length=i:=fun i=>by rw[hT];exact evN_len bs S0 i
 have hTf:∀ i,(T i).2.fits bs.length:=fun i=>by rw[hT];exact evN_fits hf i
 simp only[← hT] at h1 h2 k90 ⊢
 clear hT
 obtain⟨es,hes⟩:∃ es,es=by8 bs:=⟨_,rfl⟩
 rw[← hes] at kn k90 ⊢
 cases S0 with
 | er f1 e1 =>
  have hf:e1≠0:=hf
  have c0:c=0:=by
   have:=numS_er (bs:=bs) (most:=most) (s:=.ok f o n)
   rw[h0] at this
   exact this hf
  obtain rfl:m=0:=by omega
  rw[hT0,show lsG 2 (([],.er f1 e1):List Ev × RS)=.one (.slo 2 0 0) from rfl,show lsH (([],.er f1 e1):List Ev × RS)=[.arr false false 8 []] from rfl]
  have C0:C=0:=by omega
  dsimp only[rdR,RS.isOk,RS.err,cond_true,cond_false,List.append] at kn ⊢
  clear k90
  apply wpV_seq;refine wpV_ofH (by ((try(conv=>lhs;cbv));(exact rfl))) ?_
  apply wpV_seq;refine wpV_ofH (by ((try(conv=>lhs;cbv));(repeat((first|(rewrite[kn]));(try(conv=>lhs;cbv))));(exact rfl))) ?_
  apply wpV_seq;refine wpV_ofH (by ((try(conv=>lhs;cbv));(exact rfl))) ?_
  apply wpV_seq;apply wpV_seq;refine wpV_ofH (by ((try(conv=>lhs;cbv));(exact rfl))) ?_
  apply wpV_block
  refine wpV_loop 0 (fun i st=>∃ J:Int,st=⟨2,[rp,u,u,u,u,u,.one (.slo 2 0 0),u,u,u,u,i64 C,i64 J,u,u,u,u,u,u,u,u,u,u,u,u,u,u],[.var false [.iv (.sl true 0 []),.iv (.int .i64 e1)],.arr false false 1 es,.arr false false 8 []]⟩∧J=0) (by omega) (by ((try(conv=>lhs;cbv));(try(with_reducible rfl)))) ⟨0,rfl,rfl⟩ ?_
  rintro i hi st ⟨J,rfl,hJ⟩
  refine wpV_ofH (by ((try(conv=>lhs;cbv));(repeat((first|(rewrite[K.ltF];rotate_left;focus((try simp only[K.df,D.df,X.df,true_and,and_true])<;>omega)));(try(conv=>lhs;cbv))));(exact rfl))) ?_
  show wpV _ _ _ _ _ _
  refine wpV_ofH (by ((try(conv=>lhs;cbv));(exact rfl))) ?_
  (show finV _ _ _=some _;((try(conv=>lhs;cbv));(try(with_reducible rfl)));(try rfl))
 | ok f1 o1 n1 =>
  dsimp only[rdR,cond_true] at kn
  apply wpV_seq;refine wpV_ofH (by ((try(conv=>lhs;cbv));(exact rfl))) ?_
  apply wpV_seq;refine wpV_ofH (by ((try(conv=>lhs;cbv));(repeat((first|(rewrite[kn]));(try(conv=>lhs;cbv))));(exact rfl))) ?_
  apply wpV_seq;refine wpV_ofH (by ((try(conv=>lhs;cbv));(exact rfl))) ?_
  apply wpV_seq;apply wpV_seq;refine wpV_ofH (by ((try(conv=>lhs;cbv));(exact rfl))) ?_
  apply wpV_block
  refine wpV_loop m (fun i st=>∃ (J:Int) (ln:Nat),J=i∧ln=i∧∃ (f':Bool) (o' n':Nat) (lx:List EvX),(T i).2=.ok f' o' n'∧lx=okL (T i).1∧st=⟨2,[rp,u,u,u,u,u,.one (.slo 2 0 ln),u,u,u,u,i64 C,i64 J,u,u,u,u,u,u,u,u,u,u,u,u,u,u],[.var false [.slo 1 o' n',.iv (.int .i64 0)],.arr false false 1 es,.arr false false 8 (EX lx)]⟩) (by omega) (by ((try(conv=>lhs;cbv));(try(with_reducible rfl)))) ⟨0,0,rfl,rfl,f1,o1,n1,[],by rw[hT0],by rw[hT0];rfl,by rw[hX0]⟩ ?_
  rintro i hi st ⟨J,ln,hJ,hln,f',o',n',lx,hS,hlx,rfl⟩
  have hc2:(m:Int)≤C:=by omega
  have hlen:lx.length=i:=by rw[hlx,okL,List.length_map,hTl]
  by_cases him:i<m
  ·have k2:=k90 i him
   have t1:=hT1 i
   have tf:=hTf (i+1)
   rw[hS] at k2 t1
   generalize hx:evS bs (.ok f' o' n')=x at *
   obtain⟨⟨⟨d1,d2⟩,tt,kd,doc,fi,txt,gone⟩,s2⟩:=x
   dsimp only at t1
   rw[t1] at tf
   have hJ0:J<C:=by omega
   cases s2 with
   | ok f2 o2 n2 =>
    rw[evV_ok,evK_ok] at k2
    dsimp only[rdR,cond_true,List.append,hE] at k2
    have ap:∀ b z,A .apo 96 0 ln (EX lx) [[.int .i64 d1,.int .i64 d2,.int .i64 tt,.int .i64 kd,.str doc,.int .i64 fi,.str txt,.sl b z (E gone)]]=some (true,EX (sn lx (⟨(d1,d2),tt,kd,doc,fi,txt,gone⟩,b,z))):=fun b z=>X.apo (x:=(⟨(d1,d2),tt,kd,doc,fi,txt,gone⟩,b,z)) (by omega)
    have hie:A .isE (E gone)=gone.isEmpty:=by rw[← hE,hA];cases gone<;>rfl
    have sgl:A .seg (E gone) 0 gone.length=E gone:=by rw[← hE,hA,real_seg];unfold rSeg;rw[List.drop_zero,List.take_of_length_le (by simp[eDs])]
    clear k90 h2 hT1 hTl hTf
    simp only[hE] at k2
    generalize gone.length=gn at *
    generalize E gone=gs at *
    refine wpV_ofH (by ((try(conv=>lhs;cbv));(repeat((first|(rewrite[k2])|(rewrite[sgl])|(rewrite[ap])|(rewrite[K.add];rotate_left;focus((try simp only[K.df,D.df,X.df,true_and,and_true])<;>omega))|(rewrite[X.ln])|(rewrite[K.ltT];rotate_left;focus((try simp only[K.df,D.df,X.df,true_and,and_true])<;>omega))|(rewrite[K.neF];rotate_left;focus((try simp only[K.df,D.df,X.df,true_and,and_true])<;>omega)));(try(conv=>lhs;cbv))));(exact rfl))) ?_
    refine headQ_ofH (by ((try(conv=>lhs;cbv));(exact rfl))) ?_
    refine⟨him,_,_,?_,?_,f2,o2,n2,_,?_,?_,rfl⟩
    ·rw[K.pl_];omega
    ·rw[X.ll_,X.sn_,List.length_append,hlen];rfl
    ·rw[t1]
    ·rw[t1,X.sn_,hlx,hie];simp[okL]
   | er f2 e2 =>
    have tf:e2≠0:=tf
    rw[evV_er tf,evK_er tf] at k2
    dsimp only[rdR,cond_true,zeroC] at k2
    rw[List.append_nil] at k2
    have hm1:m=i+1:=by
     rcases Nat.lt_or_ge (i+1) m with h|h
     ·have:=(h2 (i+1) h).2;rw[t1] at this;cases this
     ·omega
    have hl2:=hTl (i+1)
    rw[hm1]
    generalize T (i+1)=q at *
    obtain⟨ql,qs⟩:=q
    obtain rfl:qs=.er f2 e2:=by injection t1
    dsimp only at hl2
    have hnz:¬ (RS.isOk (.er f2 e2)=true∨ql.length=0):=by rw[hl2];simp[RS.isOk]
    rw[show lsG 2 (ql,.er f2 e2)=.one (.iv (.sl true 0 [])) from if_neg hnz,show lsH (ql,.er f2 e2)=[] from if_neg hnz,List.append_nil]
    dsimp only[rdR,cond_true]
    clear k90 h2 hT1 hTl hTf t1
    refine wpV_ofH (by ((try(conv=>lhs;cbv));(repeat((first|(rewrite[k2])|(rewrite[K.ltT];rotate_left;focus((try simp only[K.df,D.df,X.df,true_and,and_true])<;>omega))|(rewrite[K.neT];rotate_left;focus((try simp only[K.df,D.df,X.df,true_and,and_true])<;>omega)));(try(conv=>lhs;cbv))));(exact rfl))) ?_
    show finQ _ _ _ _ _
    (show finV _ _ _=some _;((try(conv=>lhs;cbv));(try(with_reducible rfl)));(try rfl))
  ·obtain rfl:i=m:=by omega
   have hcc:i=c:=by
    rcases h1 with h|h
    ·exact h
    ·rw[hS] at h;cases h
   have hl2:=hTl i
   generalize T i=q at *
   obtain⟨ql,qs⟩:=q
   dsimp only at hS hlx hl2
   subst hS
   rw[show lsG 2 (ql,.ok f' o' n')=.one (.slo 2 0 ql.length) from rfl,show lsH (ql,.ok f' o' n')=[.arr false false 8 ((okL ql).map exI)] from rfl,hl2,hEX,← hlx,← hln]
   dsimp only[rdR,cond_true,List.append]
   clear k90 h2 hT1 hTl hTf hT0
   refine wpV_ofH (by ((try(conv=>lhs;cbv));(repeat((first|(rewrite[K.ltF];rotate_left;focus((try simp only[K.df,D.df,X.df,true_and,and_true])<;>omega)));(try(conv=>lhs;cbv))));(exact rfl))) ?_
   show wpV _ _ _ _ _ _
   refine wpV_ofH (by ((try(conv=>lhs;cbv));(exact rfl))) ?_
   (show finV _ _ _=some _;((try(conv=>lhs;cbv));(try(with_reducible rfl)));(try rfl))
end Go.Proofs.Ytlljgefgbglmbaa
