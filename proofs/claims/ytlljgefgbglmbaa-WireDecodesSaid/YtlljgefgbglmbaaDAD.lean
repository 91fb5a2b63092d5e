/- A state of any bytes is read: gone through. Printed by stgen.py. -/
import Derived.Test.YtlljgefgbglmbaaDAC
set_option linter.unusedSimpArgs false
set_option linter.unusedVariables false
set_option maxRecDepth 100000
set_option maxHeartbeats 20000000
set_option cbv.maxSteps 10000000
namespace Go.Proofs.Ytlljgefgbglmbaa
open Go GoV

def stV (b:Nat) (p:(List Int × List Wr) × RS):FV:=if p.2.err=0 then .agg [.iv (.arr 64 (vec p.1.1)),.slo b 0 p.1.2.length] else .agg [.iv (.arr 64 (vec zeros)),.iv (.sl true 0 [])]
def stK (p:(List Int × List Wr) × RS):List Blk:=if p.2.err=0 then [.arr false false 6 (eWs p.1.2)] else []
theorem stV_er {b:Nat} {x:List Int × List Wr} {f:Bool} {e:Int} (h:e≠0):stV b (x,.er f e)=.agg [.iv (.arr 64 (vec zeros)),.iv (.sl true 0 [])]:=if_neg h
theorem stK_er {x:List Int × List Wr} {f:Bool} {e:Int} (h:e≠0):stK (x,.er f e)=[]:=if_neg h
theorem stV_ok {b:Nat} {v:List Int} {l:List Wr} {f:Bool} {o n:Nat}:stV b ((v,l),.ok f o n)=.agg [.iv (.arr 64 (vec v)),.slo b 0 l.length]:=if_pos rfl
theorem stK_ok {v:List Int} {l:List Wr} {f:Bool} {o n:Nat}:stK ((v,l),.ok f o n)=[.arr false false 6 (eWs l)]:=if_pos rfl
theorem n47 (bs:List Nat) (hb:∀ b,b∈bs→b<256) (hbl:bs.length≤1000000000000000) (f:Bool) (o n:Nat) (hs:o+n=bs.length) :
  ∃ k,Pn k 47 [rp] (rdS true (by8 bs) (.ok f o n)) (stV 2 (stS bs (.ok f o n))) (rdS true (by8 bs) (stS bs (.ok f o n)).2++stK (stS bs (.ok f o n))):=by
 have l2:(st2 bs (.ok f o n)).1≤4096:=by have:=(numS_lt bs 4096 (st1 bs (.ok f o n)).2).2;unfold st2;omega
 obtain⟨kc,hkc⟩:=n34 (v:=(st1 bs (.ok f o n)).1) (vecS_len bs _) (st3 bs (.ok f o n)).1 (fun w hw=>by
  have:=wrGo_doc (bs:=bs) (n:=(st2 bs (.ok f o n)).1) (l:=[]) (s:=(st2 bs (.ok f o n)).2) (fun w hw=>by simp at hw) w hw
  omega)
 refine⟨kc+8001,playN (kc+8000) rfl rfl fun A call hA hcall=>?_⟩
 obtain⟨pl,mi,ml,nt,tn,ad,sb,K⟩:=kit hA
 obtain⟨EX,ix,sn,ll,cc,sg,X⟩:=lkit hA K zeroWr (fun w=>[.int .i64 w.d.1,.int .i64 w.d.2,.int .i64 w.t,.str w.doc,.int .i64 w.f,.str w.txt]) 64
 obtain⟨W,gx,st',V⟩:=rkit hA
 obtain⟨zs,hzs⟩:∃ zs:ByteArray→Nat,∀ s,zs s=s.size:=⟨_,fun _=>rfl⟩
 have hes:(by8 bs).length=bs.length:=by8_len bs
 have hEX:∀ l,eWs l=EX l:=fun l=>by rw[X.E_];rfl
 have hE0:EX []=[]:=by rw[X.E_];rfl
 have hvW:∀ v,vec v=W v:=fun v=>by rw[V.W_];rfl
 have z0:[IV.int IntKind.i64 0,IV.int IntKind.i64 0,IV.int IntKind.i64 0,IV.int IntKind.i64 0,IV.int IntKind.i64 0,IV.int IntKind.i64 0,IV.int IntKind.i64 0,IV.int IntKind.i64 0,IV.int IntKind.i64 0,IV.int IntKind.i64 0,IV.int IntKind.i64 0,IV.int IntKind.i64 0,IV.int IntKind.i64 0,IV.int IntKind.i64 0,IV.int IntKind.i64 0,IV.int IntKind.i64 0,IV.int IntKind.i64 0,IV.int IntKind.i64 0,IV.int IntKind.i64 0,IV.int IntKind.i64 0,IV.int IntKind.i64 0,IV.int IntKind.i64 0,IV.int IntKind.i64 0,IV.int IntKind.i64 0,IV.int IntKind.i64 0,IV.int IntKind.i64 0,IV.int IntKind.i64 0,IV.int IntKind.i64 0,IV.int IntKind.i64 0,IV.int IntKind.i64 0,IV.int IntKind.i64 0,IV.int IntKind.i64 0,IV.int IntKind.i64 0,IV.int IntKind.i64 0,IV.int IntKind.i64 0,IV.int IntKind.i64 0,IV.int IntKind.i64 0,IV.int IntKind.i64 0,IV.int IntKind.i64 0,IV.int IntKind.i64 0,IV.int IntKind.i64 0,IV.int IntKind.i64 0,IV.int IntKind.i64 0,IV.int IntKind.i64 0,IV.int IntKind.i64 0,IV.int IntKind.i64 0,IV.int IntKind.i64 0,IV.int IntKind.i64 0,IV.int IntKind.i64 0,IV.int IntKind.i64 0,IV.int IntKind.i64 0,IV.int IntKind.i64 0,IV.int IntKind.i64 0,IV.int IntKind.i64 0,IV.int IntKind.i64 0,IV.int IntKind.i64 0,IV.int IntKind.i64 0,IV.int IntKind.i64 0,IV.int IntKind.i64 0,IV.int IntKind.i64 0,IV.int IntKind.i64 0,IV.int IntKind.i64 0,IV.int IntKind.i64 0,IV.int IntKind.i64 0]=W zeros:=by rw[V.W_];rfl
 have kn:∀ (J:Int) (s:RS),s.fits bs.length→call 44 [rp,i64 J] (rdS s.isOk (by8 bs) s)=some (i64 (numS bs J s).1,rdS s.isOk (by8 bs) (numS bs J s).2):=fun J s h=>by rw[hcall];exact n44 bs hb J s h _ (by omega)
 have kt:∀ (J:Int) (s:RS),s.fits bs.length→call 92 [rp,i64 J] (rdS s.isOk (by8 bs) s)=some (.one (.iv (.str (textS bs J s).1)),rdS s.isOk (by8 bs) (textS bs J s).2):=fun J s h=>by rw[hcall];exact n92 bs hb J s h _ (by omega)
 have kd:∀ (s:RS),s.fits bs.length→call 91 [rp] (rdS s.isOk (by8 bs) s)=some (dotF (dotS bs s).1,rdS s.isOk (by8 bs) (dotS bs s).2):=fun s h=>by rw[hcall];exact n91 bs hb s h _ (by omega)
 have kf:∀ (s:RS),s.fits bs.length→call 87 [rp,i64 3] (rdS s.isOk (by8 bs) s)=some (.tup [],rdS s.isOk (by8 bs) (s.fail 3)):=fun s h=>by rw[hcall];exact n87 _ s (by decide) (by rw[hes];exact h) _ (by omega)
 have ke:∀ (s:RS),call 89 [rp] (rdS s.isOk (by8 bs) s)=some (i64 s.err,rdS s.isOk (by8 bs) s):=fun s=>by rw[hcall];exact n89 _ s _ (by omega)
 have keez:∀ {e:Int},call 89 [rp] [.var false [.iv (.sl true 0 []),.iv (.int .i64 e),.iv (.bool true)]]=some (i64 e,[.var false [.iv (.sl true 0 []),.iv (.int .i64 e),.iv (.bool true)]]):=fun {e}=>ke (.er true e)
 have kcc:∀ b,call 34 [stF b 6 (st1 bs (.ok f o n)).1 (st3 bs (.ok f o n)).1] []=some (bl (canB (st1 bs (.ok f o n)).1 (st3 bs (.ok f o n)).1),[]):=fun b=>by rw[hcall];exact hkc b 6 (.inl rfl) _ (by omega)
 have kez:∀ {J e:Int},e≠0→call 44 [rp,i64 J] [.var false [.iv (.sl true 0 []),.iv (.int .i64 e),.iv (.bool true)]]=some (i64 0,[.var false [.iv (.sl true 0 []),.iv (.int .i64 e),.iv (.bool true)]]):=fun {J e} h=>kn J (.er true e) h
 have ktz:∀ {J e:Int},e≠0→call 92 [rp,i64 J] [.var false [.iv (.sl true 0 []),.iv (.int .i64 e),.iv (.bool true)]]=some (.one (.iv (.str ⟨#[]⟩)),[.var false [.iv (.sl true 0 []),.iv (.int .i64 e),.iv (.bool true)]]):=fun {J e} h=>kt J (.er true e) h
 clear hkc
 have s00:=hs
 have k1:call 45 [rp] (rdS true (by8 bs) (.ok f o n))=some (vecF (vecS bs (.ok f o n)).1,rdS true (by8 bs) (vecS bs (.ok f o n)).2):=by rw[hcall];exact n45 bs hb f o n hs _ (by omega)
 have h1:=vecS_fits (bs:=bs) (s:=(.ok f o n)) s00
 obtain⟨R1,hR1⟩:∃ R,vecS bs (.ok f o n)=R:=⟨_,rfl⟩
 rw[hR1] at k1 h1
 obtain⟨v1,s1⟩:=R1
 dsimp only[vecF] at k1 h1
 rw[hvW] at k1
 cases s1 with
 | er f1 e1 =>
  have h1:e1≠0:=h1
  have h8:(st3 bs (.ok f o n)).2=.er f1 e1:=by simp only[st3,st2,st1,hR1,numS_ee,wrGo]
  rw[stS_er h8 h1,stV_er h1,stK_er h1,hvW,← z0]
  clear kcc
  dsimp only[RS.isOk,cond_true,cond_false,rdS,dotF,RS.err,List.append_nil] at k1 keez ⊢
  generalize by8 bs=es at *
  refine wpV_ofH (by ((try(conv=>lhs;cbv));(repeat((first|(rewrite[k1])|(rewrite[kez];rotate_left;focus((try simp only[K.df,X.df,V.df,hzs,true_and,and_true])<;>omega))|(rewrite[keez])|(rewrite[K.neT];rotate_left;focus((try simp only[K.df,X.df,V.df,hzs,true_and,and_true])<;>omega))|(rewrite[K.gtF];rotate_left;focus((try simp only[K.df,X.df,V.df,hzs,true_and,and_true])<;>omega))|(rewrite[K.eqF];rotate_left;focus((try simp only[K.df,X.df,V.df,hzs,true_and,and_true])<;>omega)));(try(conv=>lhs;cbv))));(exact rfl))) ?_
  (show finV _ _ _=some _;((try(conv=>lhs;cbv));(try(with_reducible rfl)));(try rfl))
 | ok f1 o1 n1 =>
  have k2:=kn 4096 (.ok f1 o1 n1) h1
  have h2:=numS_fits (bs:=bs) (most:=4096) (s:=(.ok f1 o1 n1)) h1
  have hz2:=numS_er (bs:=bs) (most:=4096) (s:=(.ok f1 o1 n1))
  have l2b:=(numS_lt bs 4096 (.ok f1 o1 n1)).2
  obtain⟨R2,hR2⟩:∃ R,numS bs 4096 (.ok f1 o1 n1)=R:=⟨_,rfl⟩
  rw[hR2] at k2 h2 l2b
  obtain⟨v2,s2⟩:=R2
  dsimp only at k2 h2 l2b
  rw[hR2] at hz2
  dsimp only at hz2
  obtain⟨V2,hV2⟩:∃ V:Int,V=(v2:Int):=⟨_,rfl⟩
  rw[← hV2] at k2
  cases s2 with
  | er f2 e2 =>
   have h2:e2≠0:=h2
   have hz2:v2=0:=hz2 h2
   subst hz2
   have h8:(st3 bs (.ok f o n)).2=.er f2 e2:=by simp only[st3,st2,st1,hR1,hR2,wrGo]
   rw[stS_er h8 h2,stV_er h2,stK_er h2,hvW,← z0]
   clear kcc
   dsimp only[RS.isOk,cond_true,cond_false,rdS,dotF,RS.err,List.append_nil] at k1 k2 keez ⊢
   generalize by8 bs=es at *
   refine wpV_ofH (by ((try(conv=>lhs;cbv));(repeat((first|(rewrite[k1])|(rewrite[k2])|(rewrite[keez])|(rewrite[K.neT];rotate_left;focus((try simp only[K.df,X.df,V.df,hzs,true_and,and_true])<;>omega))|(rewrite[K.gtF];rotate_left;focus((try simp only[K.df,X.df,V.df,hzs,true_and,and_true])<;>omega))|(rewrite[K.eqF];rotate_left;focus((try simp only[K.df,X.df,V.df,hzs,true_and,and_true])<;>omega)));(try(conv=>lhs;cbv))));(exact rfl))) ?_
   (show finV _ _ _=some _;((try(conv=>lhs;cbv));(try(with_reducible rfl)));(try rfl))
  | ok f2 o2 n2 =>
   have h2:o2+n2=bs.length:=h2
   have hrf:=wrGo_fits (n:=v2) (l:=[]) (s:=.ok f2 o2 n2) h2
   obtain⟨R,hR⟩:∃ R,wrGo bs v2 [] (.ok f2 o2 n2)=R:=⟨_,rfl⟩
   rw[hR] at hrf
   obtain⟨gl,s8⟩:=R
   dsimp only at hrf
   have h8:st3 bs (.ok f o n)=(gl,s8):=by simp only[st3,st2,st1,hR1,hR2,hR]
   have h9081:(st1 bs (.ok f o n)).1=v1:=by simp only[st1,hR1]
   have h9082:(st3 bs (.ok f o n)).2=s8:=by rw[h8]
   have h9083:(st3 bs (.ok f o n)).1=gl:=by rw[h8]
   rw[h9081,h9083] at kcc
   obtain⟨ck,hck⟩:∃ ck,canB v1 gl=ck:=⟨_,rfl⟩
   rw[hck] at kcc
   dsimp only[stF] at kcc
   rw[hEX,hvW] at kcc
   generalize hes':by8 bs=es at *
   dsimp only[RS.isOk,cond_true,cond_false,rdS,dotF] at k1 k2
   apply wpV_seq;refine wpV_ofH (by ((try(conv=>lhs;cbv));(repeat((first|(rewrite[z0]));(try(conv=>lhs;cbv))));(exact rfl))) ?_
   apply wpV_seq;refine wpV_ofH (by ((try(conv=>lhs;cbv));(repeat((first|(rewrite[k1]));(try(conv=>lhs;cbv))));(exact rfl))) ?_
   apply wpV_seq;apply wpV_seq;refine wpV_ofH (by ((try(conv=>lhs;cbv));(repeat((first|(rewrite[k2]));(try(conv=>lhs;cbv))));(exact rfl))) ?_
   apply wpV_block
   refine wpV_loop v2 (fun i st=>∃ (s':RS) (l:List Wr) (J:Int) (ln:Nat),st=⟨2,(rp::u::.one (.ptr 2 0)::.one (.ptr 3 0)::i64 J::u::u::u::u::u::u::u::u::u::u::u::u::u::u::u::u::u::u::u::u::u::u::u::u::u::u::u::u::u::u::u::u::u::u::u::u::u::u::u::u::u::u::u::u::u::u::u::u::u::u::u::[]),rdS true es s'++[.var false [.iv (.arr 64 (W zeros)),.iv (.sl true 0 [])],.var false [.iv (.arr 64 (W v1)),.slo 4 0 ln],.arr false false 6 (EX l)]⟩∧J=(v2:Int) - i∧s'.fits bs.length∧ln=l.length∧l.length=i∧wrGo bs (v2 - i) l s'=(gl,s8)) (by omega) (by ((try(conv=>lhs;cbv));(try(with_reducible rfl)))) ⟨.ok f2 o2 n2,[],V2,0,by rw[hE0];rfl,by omega,h2,rfl,rfl,hR⟩ ?_
   rintro i hi st ⟨s',l,J,ln,rfl,hJ,hfit,hln,hli,hgo⟩
   by_cases him:i<v2
   ·rw[show v2 - i=(v2 - i - 1)+1 by omega,wrGo] at hgo
    cases s' with
    | er f' e' =>
     have hfit:e'≠0:=hfit
     rw[if_neg (show ¬ (RS.er f' e').err=0 from hfit)] at hgo
     simp only[Prod.mk.injEq] at hgo
     obtain⟨rfl,rfl⟩:=hgo
     rw[stS_er h9082 hfit,stV_er hfit,stK_er hfit,hvW]
     dsimp only[RS.isOk,cond_true,cond_false,rdS,List.append_nil,List.cons_append,List.nil_append,RS.err] at keez ⊢
     refine wpV_ofH (by ((try(conv=>lhs;cbv));(repeat((first|(rewrite[keez])|(rewrite[K.gtT];rotate_left;focus((try simp only[K.df,X.df,V.df,hzs,true_and,and_true])<;>omega))|(rewrite[K.eqF];rotate_left;focus((try simp only[K.df,X.df,V.df,hzs,true_and,and_true])<;>omega)));(try(conv=>lhs;cbv))));(exact rfl))) ?_
     show wpV _ _ _ _ _ _
     refine wpV_ofH (by ((try(conv=>lhs;cbv));(repeat((first|(rewrite[keez])|(rewrite[z0])|(rewrite[K.neT];rotate_left;focus((try simp only[K.df,X.df,V.df,hzs,true_and,and_true])<;>omega))|(rewrite[K.eqF];rotate_left;focus((try simp only[K.df,X.df,V.df,hzs,true_and,and_true])<;>omega)));(try(conv=>lhs;cbv))));(exact rfl))) ?_
     (show finV _ _ _=some _;((try(conv=>lhs;cbv));(try(with_reducible rfl)));(try rfl))
    | ok f' o' n' =>
     rw[if_pos (show (RS.ok f' o' n').err=0 from rfl)] at hgo
     have kee:=ke (.ok f' o' n')
     have q1:=kd (.ok f' o' n') hfit
     have hq1:=dotS_fits (bs:=bs) (s:=(.ok f' o' n')) hfit
     obtain⟨T1,hT1⟩:∃ R,dotS bs (.ok f' o' n')=R:=⟨_,rfl⟩
     rw[hT1] at q1 hq1
     obtain⟨x1,t1⟩:=T1
     dsimp only at q1 hq1
     obtain⟨d1,d2⟩:=x1
     dsimp only[dotF] at q1
     cases t1 with
     | er g1 u1 =>
      have hq1:u1≠0:=hq1
      have hrd:wrRd bs (.ok f' o' n')=(⟨(d1,d2),0,⟨#[]⟩,0,⟨#[]⟩⟩,.er g1 u1):=by
       simp only[wrRd,wr5,wr4,wr3,wr2,wr1,hT1,numS_ee,textS_ee]<;>rfl
      rw[hrd] at hgo
      dsimp only at hgo
      have ap:=X.apo (l:=l) (x:=(⟨(d1,d2),0,⟨#[]⟩,0,⟨#[]⟩⟩:Wr)) (b:=64) (n:=ln) (by omega)
      dsimp only at ap
      dsimp only[RS.isOk,cond_true,cond_false,rdS,List.append_nil,List.cons_append,List.nil_append,dotF,RS.err] at q1 kee ⊢
      refine wpV_ofH (by ((try(conv=>lhs;cbv));(repeat((first|(rewrite[kee])|(rewrite[q1])|(rewrite[kez];rotate_left;focus((try simp only[K.df,X.df,V.df,hzs,true_and,and_true])<;>omega))|(rewrite[ktz];rotate_left;focus((try simp only[K.df,X.df,V.df,hzs,true_and,and_true])<;>omega))|(rewrite[ap])|(rewrite[K.sub];rotate_left;focus((try simp only[K.df,X.df,V.df,hzs,true_and,and_true])<;>omega))|(rewrite[X.ln])|(rewrite[K.gtT];rotate_left;focus((try simp only[K.df,X.df,V.df,hzs,true_and,and_true])<;>omega))|(rewrite[K.eqT];rotate_left;focus((try simp only[K.df,X.df,V.df,hzs,true_and,and_true])<;>omega)));(try(conv=>lhs;cbv))));(exact rfl))) ?_
      refine headQ_ofH (by ((try(conv=>lhs;cbv));(exact rfl))) ?_
      refine⟨him,.er g1 u1,_,_,_,rfl,?_,hq1,?_,?_,?_⟩
      ·rw[K.mi_];omega
      ·rw[X.ll_]
      ·rw[X.sn_,List.length_append,hli];rfl
      ·rw[X.sn_,show v2 - (i+1)=v2 - i - 1 by omega];exact hgo
     | ok g1 o3 n3 =>
      have q2:=kn 1099511627776 (.ok g1 o3 n3) hq1
      have hq2:=numS_fits (bs:=bs) (most:=1099511627776) (s:=(.ok g1 o3 n3)) hq1
      obtain⟨T2,hT2⟩:∃ R,numS bs 1099511627776 (.ok g1 o3 n3)=R:=⟨_,rfl⟩
      rw[hT2] at q2 hq2
      obtain⟨x2,t2⟩:=T2
      dsimp only at q2 hq2
      obtain⟨X2,hX2⟩:∃ V:Int,V=(x2:Int):=⟨_,rfl⟩
      rw[← hX2] at q2
      cases t2 with
      | er g2 u2 =>
       have hq2:u2≠0:=hq2
       have hrd:wrRd bs (.ok f' o' n')=(⟨(d1,d2),X2,⟨#[]⟩,0,⟨#[]⟩⟩,.er g2 u2):=by
        rw[hX2]
        simp only[wrRd,wr5,wr4,wr3,wr2,wr1,hT1,hT2,numS_ee,textS_ee]<;>rfl
       rw[hrd] at hgo
       dsimp only at hgo
       have ap:=X.apo (l:=l) (x:=(⟨(d1,d2),X2,⟨#[]⟩,0,⟨#[]⟩⟩:Wr)) (b:=64) (n:=ln) (by omega)
       dsimp only at ap
       dsimp only[RS.isOk,cond_true,cond_false,rdS,List.append_nil,List.cons_append,List.nil_append,dotF,RS.err] at q1 q2 kee ⊢
       refine wpV_ofH (by ((try(conv=>lhs;cbv));(repeat((first|(rewrite[kee])|(rewrite[q1])|(rewrite[q2])|(rewrite[kez];rotate_left;focus((try simp only[K.df,X.df,V.df,hzs,true_and,and_true])<;>omega))|(rewrite[ktz];rotate_left;focus((try simp only[K.df,X.df,V.df,hzs,true_and,and_true])<;>omega))|(rewrite[ap])|(rewrite[K.sub];rotate_left;focus((try simp only[K.df,X.df,V.df,hzs,true_and,and_true])<;>omega))|(rewrite[X.ln])|(rewrite[K.gtT];rotate_left;focus((try simp only[K.df,X.df,V.df,hzs,true_and,and_true])<;>omega))|(rewrite[K.eqT];rotate_left;focus((try simp only[K.df,X.df,V.df,hzs,true_and,and_true])<;>omega)));(try(conv=>lhs;cbv))));(exact rfl))) ?_
       refine headQ_ofH (by ((try(conv=>lhs;cbv));(exact rfl))) ?_
       refine⟨him,.er g2 u2,_,_,_,rfl,?_,hq2,?_,?_,?_⟩
       ·rw[K.mi_];omega
       ·rw[X.ll_]
       ·rw[X.sn_,List.length_append,hli];rfl
       ·rw[X.sn_,show v2 - (i+1)=v2 - i - 1 by omega];exact hgo
      | ok g2 o4 n4 =>
       have q3:=kt 12 (.ok g2 o4 n4) hq2
       have hq3:=textS_fits (bs:=bs) (most:=12) (s:=(.ok g2 o4 n4)) hq2
       obtain⟨T3,hT3⟩:∃ R,textS bs 12 (.ok g2 o4 n4)=R:=⟨_,rfl⟩
       rw[hT3] at q3 hq3
       obtain⟨x3,t3⟩:=T3
       dsimp only at q3 hq3
       cases t3 with
       | er g3 u3 =>
        have hq3:u3≠0:=hq3
        have hrd:wrRd bs (.ok f' o' n')=(⟨(d1,d2),X2,x3,0,⟨#[]⟩⟩,.er g3 u3):=by
         rw[hX2]
         simp only[wrRd,wr5,wr4,wr3,wr2,wr1,hT1,hT2,hT3,numS_ee,textS_ee]<;>rfl
        rw[hrd] at hgo
        dsimp only at hgo
        have ap:=X.apo (l:=l) (x:=(⟨(d1,d2),X2,x3,0,⟨#[]⟩⟩:Wr)) (b:=64) (n:=ln) (by omega)
        dsimp only at ap
        dsimp only[RS.isOk,cond_true,cond_false,rdS,List.append_nil,List.cons_append,List.nil_append,dotF,RS.err] at q1 q2 q3 kee ⊢
        refine wpV_ofH (by ((try(conv=>lhs;cbv));(repeat((first|(rewrite[kee])|(rewrite[q1])|(rewrite[q2])|(rewrite[q3])|(rewrite[kez];rotate_left;focus((try simp only[K.df,X.df,V.df,hzs,true_and,and_true])<;>omega))|(rewrite[ktz];rotate_left;focus((try simp only[K.df,X.df,V.df,hzs,true_and,and_true])<;>omega))|(rewrite[ap])|(rewrite[K.sub];rotate_left;focus((try simp only[K.df,X.df,V.df,hzs,true_and,and_true])<;>omega))|(rewrite[X.ln])|(rewrite[K.gtT];rotate_left;focus((try simp only[K.df,X.df,V.df,hzs,true_and,and_true])<;>omega))|(rewrite[K.eqT];rotate_left;focus((try simp only[K.df,X.df,V.df,hzs,true_and,and_true])<;>omega)));(try(conv=>lhs;cbv))));(exact rfl))) ?_
        refine headQ_ofH (by ((try(conv=>lhs;cbv));(exact rfl))) ?_
        refine⟨him,.er g3 u3,_,_,_,rfl,?_,hq3,?_,?_,?_⟩
        ·rw[K.mi_];omega
        ·rw[X.ll_]
        ·rw[X.sn_,List.length_append,hli];rfl
        ·rw[X.sn_,show v2 - (i+1)=v2 - i - 1 by omega];exact hgo
       | ok g3 o5 n5 =>
        have q4:=kn 4 (.ok g3 o5 n5) hq3
        have hq4:=numS_fits (bs:=bs) (most:=4) (s:=(.ok g3 o5 n5)) hq3
        obtain⟨T4,hT4⟩:∃ R,numS bs 4 (.ok g3 o5 n5)=R:=⟨_,rfl⟩
        rw[hT4] at q4 hq4
        obtain⟨x4,t4⟩:=T4
        dsimp only at q4 hq4
        obtain⟨X4,hX4⟩:∃ V:Int,V=(x4:Int):=⟨_,rfl⟩
        rw[← hX4] at q4
        cases t4 with
        | er g4 u4 =>
         have hq4:u4≠0:=hq4
         have hrd:wrRd bs (.ok f' o' n')=(⟨(d1,d2),X2,x3,X4,⟨#[]⟩⟩,.er g4 u4):=by
          rw[hX2,hX4]
          simp only[wrRd,wr5,wr4,wr3,wr2,wr1,hT1,hT2,hT3,hT4,numS_ee,textS_ee]<;>rfl
         rw[hrd] at hgo
         dsimp only at hgo
         have ap:=X.apo (l:=l) (x:=(⟨(d1,d2),X2,x3,X4,⟨#[]⟩⟩:Wr)) (b:=64) (n:=ln) (by omega)
         dsimp only at ap
         dsimp only[RS.isOk,cond_true,cond_false,rdS,List.append_nil,List.cons_append,List.nil_append,dotF,RS.err] at q1 q2 q3 q4 kee ⊢
         refine wpV_ofH (by ((try(conv=>lhs;cbv));(repeat((first|(rewrite[kee])|(rewrite[q1])|(rewrite[q2])|(rewrite[q3])|(rewrite[q4])|(rewrite[ktz];rotate_left;focus((try simp only[K.df,X.df,V.df,hzs,true_and,and_true])<;>omega))|(rewrite[ap])|(rewrite[K.sub];rotate_left;focus((try simp only[K.df,X.df,V.df,hzs,true_and,and_true])<;>omega))|(rewrite[X.ln])|(rewrite[K.gtT];rotate_left;focus((try simp only[K.df,X.df,V.df,hzs,true_and,and_true])<;>omega))|(rewrite[K.eqT];rotate_left;focus((try simp only[K.df,X.df,V.df,hzs,true_and,and_true])<;>omega)));(try(conv=>lhs;cbv))));(exact rfl))) ?_
         refine headQ_ofH (by ((try(conv=>lhs;cbv));(exact rfl))) ?_
         refine⟨him,.er g4 u4,_,_,_,rfl,?_,hq4,?_,?_,?_⟩
         ·rw[K.mi_];omega
         ·rw[X.ll_]
         ·rw[X.sn_,List.length_append,hli];rfl
         ·rw[X.sn_,show v2 - (i+1)=v2 - i - 1 by omega];exact hgo
        | ok g4 o6 n9006 =>
         have q5:=kt 160 (.ok g4 o6 n9006) hq4
         have hq5:=textS_fits (bs:=bs) (most:=160) (s:=(.ok g4 o6 n9006)) hq4
         obtain⟨T5,hT5⟩:∃ R,textS bs 160 (.ok g4 o6 n9006)=R:=⟨_,rfl⟩
         rw[hT5] at q5 hq5
         obtain⟨x5,t5⟩:=T5
         dsimp only at q5 hq5
         cases t5 with
         | er g5 u5 =>
          have hq5:u5≠0:=hq5
          have hrd:wrRd bs (.ok f' o' n')=(⟨(d1,d2),X2,x3,X4,x5⟩,.er g5 u5):=by
           rw[hX2,hX4]
           simp only[wrRd,wr5,wr4,wr3,wr2,wr1,hT1,hT2,hT3,hT4,hT5,numS_ee,textS_ee]<;>rfl
          rw[hrd] at hgo
          dsimp only at hgo
          have ap:=X.apo (l:=l) (x:=(⟨(d1,d2),X2,x3,X4,x5⟩:Wr)) (b:=64) (n:=ln) (by omega)
          dsimp only at ap
          dsimp only[RS.isOk,cond_true,cond_false,rdS,List.append_nil,List.cons_append,List.nil_append,dotF,RS.err] at q1 q2 q3 q4 q5 kee ⊢
          refine wpV_ofH (by ((try(conv=>lhs;cbv));(repeat((first|(rewrite[kee])|(rewrite[q1])|(rewrite[q2])|(rewrite[q3])|(rewrite[q4])|(rewrite[q5])|(rewrite[ap])|(rewrite[K.sub];rotate_left;focus((try simp only[K.df,X.df,V.df,hzs,true_and,and_true])<;>omega))|(rewrite[X.ln])|(rewrite[K.gtT];rotate_left;focus((try simp only[K.df,X.df,V.df,hzs,true_and,and_true])<;>omega))|(rewrite[K.eqT];rotate_left;focus((try simp only[K.df,X.df,V.df,hzs,true_and,and_true])<;>omega)));(try(conv=>lhs;cbv))));(exact rfl))) ?_
          refine headQ_ofH (by ((try(conv=>lhs;cbv));(exact rfl))) ?_
          refine⟨him,.er g5 u5,_,_,_,rfl,?_,hq5,?_,?_,?_⟩
          ·rw[K.mi_];omega
          ·rw[X.ll_]
          ·rw[X.sn_,List.length_append,hli];rfl
          ·rw[X.sn_,show v2 - (i+1)=v2 - i - 1 by omega];exact hgo
         | ok g5 o7 n7 =>
          have hrd:wrRd bs (.ok f' o' n')=(⟨(d1,d2),X2,x3,X4,x5⟩,.ok g5 o7 n7):=by
           rw[hX2,hX4]
           simp only[wrRd,wr5,wr4,wr3,wr2,wr1,hT1,hT2,hT3,hT4,hT5,numS_ee,textS_ee]<;>rfl
          rw[hrd] at hgo
          dsimp only at hgo
          have ap:=X.apo (l:=l) (x:=(⟨(d1,d2),X2,x3,X4,x5⟩:Wr)) (b:=64) (n:=ln) (by omega)
          dsimp only at ap
          dsimp only[RS.isOk,cond_true,cond_false,rdS,List.append_nil,List.cons_append,List.nil_append,dotF,RS.err] at q1 q2 q3 q4 q5 kee ⊢
          refine wpV_ofH (by ((try(conv=>lhs;cbv));(repeat((first|(rewrite[kee])|(rewrite[q1])|(rewrite[q2])|(rewrite[q3])|(rewrite[q4])|(rewrite[q5])|(rewrite[ap])|(rewrite[K.sub];rotate_left;focus((try simp only[K.df,X.df,V.df,hzs,true_and,and_true])<;>omega))|(rewrite[X.ln])|(rewrite[K.gtT];rotate_left;focus((try simp only[K.df,X.df,V.df,hzs,true_and,and_true])<;>omega))|(rewrite[K.eqT];rotate_left;focus((try simp only[K.df,X.df,V.df,hzs,true_and,and_true])<;>omega)));(try(conv=>lhs;cbv))));(exact rfl))) ?_
          refine headQ_ofH (by ((try(conv=>lhs;cbv));(exact rfl))) ?_
          refine⟨him,.ok g5 o7 n7,_,_,_,rfl,?_,hq5,?_,?_,?_⟩
          ·rw[K.mi_];omega
          ·rw[X.ll_]
          ·rw[X.sn_,List.length_append,hli];rfl
          ·rw[X.sn_,show v2 - (i+1)=v2 - i - 1 by omega];exact hgo
   ·obtain rfl:i=v2:=by omega
    rw[Nat.sub_self,wrGo] at hgo
    simp only[Prod.mk.injEq] at hgo
    obtain⟨rfl,rfl⟩:=hgo
    cases s' with
    | er f' e' =>
     have hfit:e'≠0:=hfit
     rw[stS_er h9082 hfit,stV_er hfit,stK_er hfit,hvW]
     dsimp only[RS.isOk,cond_true,cond_false,rdS,List.append_nil,List.cons_append,List.nil_append,RS.err] at keez ⊢
     refine wpV_ofH (by ((try(conv=>lhs;cbv));(repeat((first|(rewrite[K.gtF];rotate_left;focus((try simp only[K.df,X.df,V.df,hzs,true_and,and_true])<;>omega)));(try(conv=>lhs;cbv))));(exact rfl))) ?_
     show wpV _ _ _ _ _ _
     refine wpV_ofH (by ((try(conv=>lhs;cbv));(repeat((first|(rewrite[keez])|(rewrite[z0])|(rewrite[K.neT];rotate_left;focus((try simp only[K.df,X.df,V.df,hzs,true_and,and_true])<;>omega))|(rewrite[K.eqF];rotate_left;focus((try simp only[K.df,X.df,V.df,hzs,true_and,and_true])<;>omega)));(try(conv=>lhs;cbv))));(exact rfl))) ?_
     (show finV _ _ _=some _;((try(conv=>lhs;cbv));(try(with_reducible rfl)));(try rfl))
    | ok f' o' n' =>
     have kee:=ke (.ok f' o' n')
     have kff:=kf (.ok f' o' n') hfit
     have sgl:A .seg (EX l) 0 ln=EX l:=by rw[X.seg,X.sg_,List.drop_zero,List.take_of_length_le (by omega)]
     cases ck with
     | true =>
      rw[stS_ok h9082 (by rw[h9081,h9083];exact hck),h9081,h9083,stV_ok,stK_ok]
      dsimp only[RS.isOk,cond_true,cond_false,rdS,List.append_nil,List.cons_append,List.nil_append,RS.err,RS.fail] at kee kff ⊢
      rw[hEX,hvW,← hln]
      refine wpV_ofH (by ((try(conv=>lhs;cbv));(repeat((first|(rewrite[K.gtF];rotate_left;focus((try simp only[K.df,X.df,V.df,hzs,true_and,and_true])<;>omega)));(try(conv=>lhs;cbv))));(exact rfl))) ?_
      show wpV _ _ _ _ _ _
      refine wpV_ofH (by ((try(conv=>lhs;cbv));(repeat((first|(rewrite[kee])|(rewrite[sgl])|(rewrite[kcc])|(rewrite[z0])|(rewrite[K.eqT];rotate_left;focus((try simp only[K.df,X.df,V.df,hzs,true_and,and_true])<;>omega))|(rewrite[K.neF];rotate_left;focus((try simp only[K.df,X.df,V.df,hzs,true_and,and_true])<;>omega)));(try(conv=>lhs;cbv))));(exact rfl))) ?_
      (show finV _ _ _=some _;((try(conv=>lhs;cbv));(try(with_reducible rfl)));(try rfl))
     | false =>
      rw[stS_bad h9082 (by rw[h9081,h9083];exact hck),stV_er (by decide),stK_er (by decide),hvW]
      dsimp only[RS.isOk,cond_true,cond_false,rdS,List.append_nil,List.cons_append,List.nil_append,RS.err,RS.fail] at kee kff keez ⊢
      refine wpV_ofH (by ((try(conv=>lhs;cbv));(repeat((first|(rewrite[K.gtF];rotate_left;focus((try simp only[K.df,X.df,V.df,hzs,true_and,and_true])<;>omega)));(try(conv=>lhs;cbv))));(exact rfl))) ?_
      show wpV _ _ _ _ _ _
      refine wpV_ofH (by ((try(conv=>lhs;cbv));(repeat((first|(rewrite[kee])|(rewrite[sgl])|(rewrite[kcc])|(rewrite[kff])|(rewrite[keez])|(rewrite[z0])|(rewrite[K.eqT];rotate_left;focus((try simp only[K.df,X.df,V.df,hzs,true_and,and_true])<;>omega))|(rewrite[K.neT];rotate_left;focus((try simp only[K.df,X.df,V.df,hzs,true_and,and_true])<;>omega)));(try(conv=>lhs;cbv))));(exact rfl))) ?_
      (show finV _ _ _=some _;((try(conv=>lhs;cbv));(try(with_reducible rfl)));(try rfl))
end Go.Proofs.Ytlljgefgbglmbaa
