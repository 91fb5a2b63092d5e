/- The reference: an event of any bytes is read: gone through. -/
import Derived.Test.YtlljgefgbglmbaaELA
set_option linter.unusedSimpArgs false
set_option linter.unusedVariables false
set_option maxRecDepth 100000
set_option maxHeartbeats 2000000
set_option cbv.maxSteps 10000000
namespace Go.Proofs.Ytlljgefgbglmbaa
open Go GoV

/-- As the reference reads them: also behind an error. -/
def gonR (bs:List Nat):Nat→List (Int × Int)→RS→List (Int × Int) × RS
 | 0,l,s=>(l,s)
 | n+1,l,s=>gonR bs n (l++[(dotS bs s).1]) (dotS bs s).2
theorem gonR_er (bs:List Nat) (f:Bool) (e:Int):∀ (n:Nat) (l:List (Int × Int)),(gonR bs n l (.er f e)).2=.er f e
 | 0,_=>rfl
 | n+1,l=>by rw[gonR];exact gonR_er bs f e n _
theorem gonR_eq (bs:List Nat):∀ (n:Nat) (l:List (Int × Int)) (s:RS),s.fits bs.length→(gonR bs n l s).2=(gonGo bs n l s).2∧((gonGo bs n l s).2.isOk=true→(gonR bs n l s).1=(gonGo bs n l s).1)
 | 0,l,s,_=>⟨rfl,fun _=>rfl⟩
 | n+1,l,s,h=>by
  cases s with
  | ok f o k =>
   rw[gonR,gonGo,if_pos (show (RS.ok f o k).err=0 from rfl)]
   exact gonR_eq bs n _ _ (dotS_fits h)
  | er f e =>
   rw[gonR_er]
   rw[gonGo,if_neg (show ¬ (RS.er f e).err=0 from h)]
   exact⟨rfl,fun h=>by cases h⟩
theorem n97 (bs:List Nat) (hb:∀ b,b∈bs→b<256) (hbl:bs.length≤1000000000000000) (f:Bool) (o n:Nat) (hs:o+n=bs.length) :
  ∃ k,Pn k 97 [rp] (rdR true (by8 bs) (.ok f o n)) (evV 2 (evS bs (.ok f o n))) (rdR true (by8 bs) (evS bs (.ok f o n)).2++evK (evS bs (.ok f o n))):=by
 have gl:=gonGo_len (bs:=bs) (n:=(r7 bs (.ok f o n)).1) (l:=[]) (s:=(r7 bs (.ok f o n)).2)
 have l7:(r7 bs (.ok f o n)).1≤120:=by have:=(numS_lt bs 120 (r6 bs (.ok f o n)).2).2;unfold r7;omega
 obtain⟨kc,hkc⟩:=n36 (evRaw bs (.ok f o n)) (by have:=textS_size (bs:=bs) (most:=12) (s:=(r3 bs (.ok f o n)).2);unfold evRaw r4;dsimp only;omega) (by unfold evRaw r8;dsimp only;simp only[List.length_nil] at gl;omega)
 refine⟨kc+2001,playN (kc+2000) rfl rfl fun A call hA hcall=>?_⟩
 obtain⟨pl,mi,ml,nt,tn,ad,sb,K⟩:=kit hA
 obtain⟨E,ix,sn,ll,cc,sg,D⟩:=lkit hA K ((0,0):Int × Int) (fun p=>[.int .i64 p.1,.int .i64 p.2]) 16
 have hes:(by8 bs).length=bs.length:=by8_len bs
 have hE:∀ l,eDs l=E l:=fun l=>by rw[D.E_];rfl
 have hE0:E []=[]:=by rw[D.E_];rfl
 have kn:∀ (J:Int) (s:RS),s.fits bs.length→call 51 [rp,i64 J] (rdR s.isOk (by8 bs) s)=some (i64 (numS bs J s).1,rdR s.isOk (by8 bs) (numS bs J s).2):=fun J s h=>by rw[hcall];exact n51 bs hb J s h _ (by omega)
 have kt:∀ (J:Int) (s:RS),s.fits bs.length→call 99 [rp,i64 J] (rdR s.isOk (by8 bs) s)=some (.one (.iv (.str (textS bs J s).1)),rdR s.isOk (by8 bs) (textS bs J s).2):=fun J s h=>by rw[hcall];exact n99 bs hb J s h _ (by omega)
 have kd:∀ (s:RS),s.fits bs.length→call 98 [rp] (rdR s.isOk (by8 bs) s)=some (dotF (dotS bs s).1,rdR s.isOk (by8 bs) (dotS bs s).2):=fun s h=>by rw[hcall];exact n98 bs hb s h _ (by omega)
 have kf:∀ (s:RS),s.fits bs.length→call 95 [rp,i64 3] (rdR s.isOk (by8 bs) s)=some (.tup [],rdR s.isOk (by8 bs) (s.fail 3)):=fun s h=>by rw[hcall];exact n95 _ s (by decide) (by rw[hes];exact h) _ (by omega)
 have kcc:∀ b,call 36 [evF b 2 (evRaw bs (.ok f o n))] []=some (i64 (chk (evRaw bs (.ok f o n))),[]):=fun b=>by rw[hcall];exact hkc b 2 (.inl rfl) _ (by omega)
 have kez:∀ {J e:Int},e≠0→call 51 [rp,i64 J] [.var false [.iv (.sl true 0 []),.iv (.int .i64 e)]]=some (i64 0,[.var false [.iv (.sl true 0 []),.iv (.int .i64 e)]]):=fun {J e} h=>kn J (.er true e) h
 have ktz:∀ {J e:Int},e≠0→call 99 [rp,i64 J] [.var false [.iv (.sl true 0 []),.iv (.int .i64 e)]]=some (.one (.iv (.str ⟨#[]⟩)),[.var false [.iv (.sl true 0 []),.iv (.int .i64 e)]]):=fun {J e} h=>kt J (.er true e) h
 have kdz:∀ {e:Int},e≠0→call 98 [rp] [.var false [.iv (.sl true 0 []),.iv (.int .i64 e)]]=some (dotF (0,0),[.var false [.iv (.sl true 0 []),.iv (.int .i64 e)]]):=fun {e} h=>kd (.er true e) h
 clear hkc
 have s00:=hs
 clear gl
 have k1:=kd (.ok f o n) s00
 have h1:=dotS_fits (bs:=bs) (s:=(.ok f o n)) s00
 obtain⟨R1,hR1⟩:∃ R,dotS bs (.ok f o n)=R:=⟨_,rfl⟩
 rw[hR1] at k1 h1
 obtain⟨v1,s1⟩:=R1
 dsimp only at k1 h1
 obtain⟨p1,p2⟩:=v1
 dsimp only[dotF] at k1
 cases s1 with
 | er f1 e1 =>
  have h1:e1≠0:=h1
  have h8:(r8 bs (.ok f o n)).2=.er f1 e1:=by simp only[r8,r7,r6,r5,r4,r3,r2,r1,hR1,numS_ee,textS_ee,gonGo]
  rw[evS_er h8 h1,evV_er h1,evK_er h1]
  clear kcc
  dsimp only[RS.isOk,cond_true,cond_false,rdR,dotF,RS.err,List.append_nil] at k1 kdz ⊢
  generalize by8 bs=es at *
  refine wpV_ofH (by ((try(conv=>lhs;cbv));(repeat((first|(rewrite[k1])|(rewrite[kez];rotate_left;focus((try simp only[K.df,D.df,true_and,and_true])<;>omega))|(rewrite[ktz];rotate_left;focus((try simp only[K.df,D.df,true_and,and_true])<;>omega))|(rewrite[K.neT];rotate_left;focus((try simp only[K.df,D.df,true_and,and_true])<;>omega))|(rewrite[K.ltF];rotate_left;focus((try simp only[K.df,D.df,true_and,and_true])<;>omega))|(rewrite[K.eqF];rotate_left;focus((try simp only[K.df,D.df,true_and,and_true])<;>omega)));(try(conv=>lhs;cbv))));(exact rfl))) ?_
  (show finV _ _ _=some _;((try(conv=>lhs;cbv));(try(with_reducible rfl)));(try rfl))
 | ok f1 o1 n1 =>
  have k2:=kn 1099511627776 (.ok f1 o1 n1) h1
  have h2:=numS_fits (bs:=bs) (most:=1099511627776) (s:=(.ok f1 o1 n1)) h1
  obtain⟨R2,hR2⟩:∃ R,numS bs 1099511627776 (.ok f1 o1 n1)=R:=⟨_,rfl⟩
  rw[hR2] at k2 h2
  obtain⟨v2,s2⟩:=R2
  dsimp only at k2 h2
  obtain⟨V2,hV2⟩:∃ V:Int,V=(v2:Int):=⟨_,rfl⟩
  rw[← hV2] at k2
  cases s2 with
  | er f2 e2 =>
   have h2:e2≠0:=h2
   have h8:(r8 bs (.ok f o n)).2=.er f2 e2:=by simp only[r8,r7,r6,r5,r4,r3,r2,r1,hR1,hR2,numS_ee,textS_ee,gonGo]
   rw[evS_er h8 h2,evV_er h2,evK_er h2]
   clear kcc
   dsimp only[RS.isOk,cond_true,cond_false,rdR,dotF,RS.err,List.append_nil] at k1 k2 kdz ⊢
   generalize by8 bs=es at *
   refine wpV_ofH (by ((try(conv=>lhs;cbv));(repeat((first|(rewrite[k1])|(rewrite[k2])|(rewrite[kez];rotate_left;focus((try simp only[K.df,D.df,true_and,and_true])<;>omega))|(rewrite[ktz];rotate_left;focus((try simp only[K.df,D.df,true_and,and_true])<;>omega))|(rewrite[K.neT];rotate_left;focus((try simp only[K.df,D.df,true_and,and_true])<;>omega))|(rewrite[K.ltF];rotate_left;focus((try simp only[K.df,D.df,true_and,and_true])<;>omega))|(rewrite[K.eqF];rotate_left;focus((try simp only[K.df,D.df,true_and,and_true])<;>omega)));(try(conv=>lhs;cbv))));(exact rfl))) ?_
   (show finV _ _ _=some _;((try(conv=>lhs;cbv));(try(with_reducible rfl)));(try rfl))
  | ok f2 o2 n2 =>
   have k3:=kn 2 (.ok f2 o2 n2) h2
   have h3:=numS_fits (bs:=bs) (most:=2) (s:=(.ok f2 o2 n2)) h2
   obtain⟨R3,hR3⟩:∃ R,numS bs 2 (.ok f2 o2 n2)=R:=⟨_,rfl⟩
   rw[hR3] at k3 h3
   obtain⟨v3,s3⟩:=R3
   dsimp only at k3 h3
   obtain⟨V3,hV3⟩:∃ V:Int,V=(v3:Int):=⟨_,rfl⟩
   rw[← hV3] at k3
   cases s3 with
   | er f3 e3 =>
    have h3:e3≠0:=h3
    have h8:(r8 bs (.ok f o n)).2=.er f3 e3:=by simp only[r8,r7,r6,r5,r4,r3,r2,r1,hR1,hR2,hR3,numS_ee,textS_ee,gonGo]
    rw[evS_er h8 h3,evV_er h3,evK_er h3]
    clear kcc
    dsimp only[RS.isOk,cond_true,cond_false,rdR,dotF,RS.err,List.append_nil] at k1 k2 k3 kdz ⊢
    generalize by8 bs=es at *
    refine wpV_ofH (by ((try(conv=>lhs;cbv));(repeat((first|(rewrite[k1])|(rewrite[k2])|(rewrite[k3])|(rewrite[kez];rotate_left;focus((try simp only[K.df,D.df,true_and,and_true])<;>omega))|(rewrite[ktz];rotate_left;focus((try simp only[K.df,D.df,true_and,and_true])<;>omega))|(rewrite[K.neT];rotate_left;focus((try simp only[K.df,D.df,true_and,and_true])<;>omega))|(rewrite[K.ltF];rotate_left;focus((try simp only[K.df,D.df,true_and,and_true])<;>omega))|(rewrite[K.eqF];rotate_left;focus((try simp only[K.df,D.df,true_and,and_true])<;>omega)));(try(conv=>lhs;cbv))));(exact rfl))) ?_
    (show finV _ _ _=some _;((try(conv=>lhs;cbv));(try(with_reducible rfl)));(try rfl))
   | ok f3 o3 n3 =>
    have k4:=kt 12 (.ok f3 o3 n3) h3
    have h4:=textS_fits (bs:=bs) (most:=12) (s:=(.ok f3 o3 n3)) h3
    obtain⟨R4,hR4⟩:∃ R,textS bs 12 (.ok f3 o3 n3)=R:=⟨_,rfl⟩
    rw[hR4] at k4 h4
    obtain⟨v4,s4⟩:=R4
    dsimp only at k4 h4
    cases s4 with
    | er f4 e4 =>
     have h4:e4≠0:=h4
     have h8:(r8 bs (.ok f o n)).2=.er f4 e4:=by simp only[r8,r7,r6,r5,r4,r3,r2,r1,hR1,hR2,hR3,hR4,numS_ee,textS_ee,gonGo]
     rw[evS_er h8 h4,evV_er h4,evK_er h4]
     clear kcc
     dsimp only[RS.isOk,cond_true,cond_false,rdR,dotF,RS.err,List.append_nil] at k1 k2 k3 k4 kdz ⊢
     generalize by8 bs=es at *
     refine wpV_ofH (by ((try(conv=>lhs;cbv));(repeat((first|(rewrite[k1])|(rewrite[k2])|(rewrite[k3])|(rewrite[k4])|(rewrite[kez];rotate_left;focus((try simp only[K.df,D.df,true_and,and_true])<;>omega))|(rewrite[ktz];rotate_left;focus((try simp only[K.df,D.df,true_and,and_true])<;>omega))|(rewrite[K.neT];rotate_left;focus((try simp only[K.df,D.df,true_and,and_true])<;>omega))|(rewrite[K.ltF];rotate_left;focus((try simp only[K.df,D.df,true_and,and_true])<;>omega))|(rewrite[K.eqF];rotate_left;focus((try simp only[K.df,D.df,true_and,and_true])<;>omega)));(try(conv=>lhs;cbv))));(exact rfl))) ?_
     (show finV _ _ _=some _;((try(conv=>lhs;cbv));(try(with_reducible rfl)));(try rfl))
    | ok f4 o4 n4 =>
     have k5:=kn 4 (.ok f4 o4 n4) h4
     have h5:=numS_fits (bs:=bs) (most:=4) (s:=(.ok f4 o4 n4)) h4
     obtain⟨R5,hR5⟩:∃ R,numS bs 4 (.ok f4 o4 n4)=R:=⟨_,rfl⟩
     rw[hR5] at k5 h5
     obtain⟨v5,s5⟩:=R5
     dsimp only at k5 h5
     obtain⟨V5,hV5⟩:∃ V:Int,V=(v5:Int):=⟨_,rfl⟩
     rw[← hV5] at k5
     cases s5 with
     | er f5 e5 =>
      have h5:e5≠0:=h5
      have h8:(r8 bs (.ok f o n)).2=.er f5 e5:=by simp only[r8,r7,r6,r5,r4,r3,r2,r1,hR1,hR2,hR3,hR4,hR5,numS_ee,textS_ee,gonGo]
      rw[evS_er h8 h5,evV_er h5,evK_er h5]
      clear kcc
      dsimp only[RS.isOk,cond_true,cond_false,rdR,dotF,RS.err,List.append_nil] at k1 k2 k3 k4 k5 kdz ⊢
      generalize by8 bs=es at *
      refine wpV_ofH (by ((try(conv=>lhs;cbv));(repeat((first|(rewrite[k1])|(rewrite[k2])|(rewrite[k3])|(rewrite[k4])|(rewrite[k5])|(rewrite[kez];rotate_left;focus((try simp only[K.df,D.df,true_and,and_true])<;>omega))|(rewrite[ktz];rotate_left;focus((try simp only[K.df,D.df,true_and,and_true])<;>omega))|(rewrite[K.neT];rotate_left;focus((try simp only[K.df,D.df,true_and,and_true])<;>omega))|(rewrite[K.ltF];rotate_left;focus((try simp only[K.df,D.df,true_and,and_true])<;>omega))|(rewrite[K.eqF];rotate_left;focus((try simp only[K.df,D.df,true_and,and_true])<;>omega)));(try(conv=>lhs;cbv))));(exact rfl))) ?_
      (show finV _ _ _=some _;((try(conv=>lhs;cbv));(try(with_reducible rfl)));(try rfl))
     | ok f5 o5 n5 =>
      have k6:=kt 160 (.ok f5 o5 n5) h5
      have h6:=textS_fits (bs:=bs) (most:=160) (s:=(.ok f5 o5 n5)) h5
      obtain⟨R6,hR6⟩:∃ R,textS bs 160 (.ok f5 o5 n5)=R:=⟨_,rfl⟩
      rw[hR6] at k6 h6
      obtain⟨v6,s6⟩:=R6
      dsimp only at k6 h6
      cases s6 with
      | er f6 e6 =>
       have h6:e6≠0:=h6
       have h8:(r8 bs (.ok f o n)).2=.er f6 e6:=by simp only[r8,r7,r6,r5,r4,r3,r2,r1,hR1,hR2,hR3,hR4,hR5,hR6,numS_ee,textS_ee,gonGo]
       rw[evS_er h8 h6,evV_er h6,evK_er h6]
       clear kcc
       dsimp only[RS.isOk,cond_true,cond_false,rdR,dotF,RS.err,List.append_nil] at k1 k2 k3 k4 k5 k6 kdz ⊢
       generalize by8 bs=es at *
       refine wpV_ofH (by ((try(conv=>lhs;cbv));(repeat((first|(rewrite[k1])|(rewrite[k2])|(rewrite[k3])|(rewrite[k4])|(rewrite[k5])|(rewrite[k6])|(rewrite[kez];rotate_left;focus((try simp only[K.df,D.df,true_and,and_true])<;>omega))|(rewrite[K.neT];rotate_left;focus((try simp only[K.df,D.df,true_and,and_true])<;>omega))|(rewrite[K.ltF];rotate_left;focus((try simp only[K.df,D.df,true_and,and_true])<;>omega))|(rewrite[K.eqF];rotate_left;focus((try simp only[K.df,D.df,true_and,and_true])<;>omega)));(try(conv=>lhs;cbv))));(exact rfl))) ?_
       (show finV _ _ _=some _;((try(conv=>lhs;cbv));(try(with_reducible rfl)));(try rfl))
      | ok f6 o6 n6 =>
       have k7:=kn 120 (.ok f6 o6 n6) h6
       have h7:=numS_fits (bs:=bs) (most:=120) (s:=(.ok f6 o6 n6)) h6
       have hz7:=numS_er (bs:=bs) (most:=120) (s:=(.ok f6 o6 n6))
       have l7b:=(numS_lt bs 120 (.ok f6 o6 n6)).2
       obtain⟨R7,hR7⟩:∃ R,numS bs 120 (.ok f6 o6 n6)=R:=⟨_,rfl⟩
       rw[hR7] at k7 h7 l7b
       obtain⟨v7,s7⟩:=R7
       dsimp only at k7 h7 l7b
       rw[hR7] at hz7
       dsimp only at hz7
       obtain⟨V7,hV7⟩:∃ V:Int,V=(v7:Int):=⟨_,rfl⟩
       rw[← hV7] at k7
       cases s7 with
       | er f7 e7 =>
        have h7:e7≠0:=h7
        have hz7:v7=0:=hz7 h7
        subst hz7
        have h8:(r8 bs (.ok f o n)).2=.er f7 e7:=by simp only[r8,r7,r6,r5,r4,r3,r2,r1,hR1,hR2,hR3,hR4,hR5,hR6,hR7,numS_ee,textS_ee,gonGo]
        rw[evS_er h8 h7,evV_er h7,evK_er h7]
        clear kcc
        dsimp only[RS.isOk,cond_true,cond_false,rdR,dotF,RS.err,List.append_nil] at k1 k2 k3 k4 k5 k6 k7 kdz ⊢
        generalize by8 bs=es at *
        refine wpV_ofH (by ((try(conv=>lhs;cbv));(repeat((first|(rewrite[k1])|(rewrite[k2])|(rewrite[k3])|(rewrite[k4])|(rewrite[k5])|(rewrite[k6])|(rewrite[k7])|(rewrite[K.neT];rotate_left;focus((try simp only[K.df,D.df,true_and,and_true])<;>omega))|(rewrite[K.ltF];rotate_left;focus((try simp only[K.df,D.df,true_and,and_true])<;>omega))|(rewrite[K.eqF];rotate_left;focus((try simp only[K.df,D.df,true_and,and_true])<;>omega)));(try(conv=>lhs;cbv))));(exact rfl))) ?_
        (show finV _ _ _=some _;((try(conv=>lhs;cbv));(try(with_reducible rfl)));(try rfl))
       | ok f7 o7 n7 =>
        have h7:o7+n7=bs.length:=h7
        have hrf:=gonGo_fits (n:=v7) (l:=[]) (s:=.ok f7 o7 n7) h7
        obtain⟨R,hR⟩:∃ R,gonGo bs v7 [] (.ok f7 o7 n7)=R:=⟨_,rfl⟩
        have hq:=gonR_eq bs v7 [] (.ok f7 o7 n7) h7
        rw[hR] at hrf hq
        obtain⟨gl,s8⟩:=R
        obtain⟨RR,hRR⟩:∃ R,gonR bs v7 [] (.ok f7 o7 n7)=R:=⟨_,rfl⟩
        rw[hRR] at hq
        obtain⟨gl',s8'⟩:=RR
        dsimp only at hrf hq
        obtain⟨hq1,hq2⟩:=hq
        subst hq1
        have h8:r8 bs (.ok f o n)=(gl,s8'):=by simp only[r8,r7,r6,r5,r4,r3,r2,r1,hR1,hR2,hR3,hR4,hR5,hR6,hR7,hR]
        have hraw:evRaw bs (.ok f o n)=⟨(p1,p2),V2,V3,v4,V5,v6,gl⟩:=by
         unfold evRaw
         rw[h8,hV2,hV3,hV5]
         simp only[r7,r6,r5,r4,r3,r2,r1,hR1,hR2,hR3,hR4,hR5,hR6,hR7]
        have h9082:(r8 bs (.ok f o n)).2=s8':=by rw[h8]
        rw[hraw] at kcc
        have kd':=kd
        have kf':=kf
        obtain⟨ck,hck⟩:∃ ck,chk ⟨(p1,p2),V2,V3,v4,V5,v6,gl⟩=ck:=⟨_,rfl⟩
        rw[hck] at kcc
        dsimp only[evF] at kcc
        rw[hE] at kcc
        generalize hes':by8 bs=es at *
        dsimp only[RS.isOk,cond_true,cond_false,rdR,dotF] at k1 k2 k3 k4 k5 k6 k7 kdz
        apply wpV_seq;refine wpV_ofH (by ((try(conv=>lhs;cbv));(exact rfl))) ?_
        apply wpV_seq;refine wpV_ofH (by ((try(conv=>lhs;cbv));(repeat((first|(rewrite[k1]));(try(conv=>lhs;cbv))));(exact rfl))) ?_
        apply wpV_seq;refine wpV_ofH (by ((try(conv=>lhs;cbv));(repeat((first|(rewrite[k2]));(try(conv=>lhs;cbv))));(exact rfl))) ?_
        apply wpV_seq;refine wpV_ofH (by ((try(conv=>lhs;cbv));(repeat((first|(rewrite[k3]));(try(conv=>lhs;cbv))));(exact rfl))) ?_
        apply wpV_seq;refine wpV_ofH (by ((try(conv=>lhs;cbv));(repeat((first|(rewrite[k4]));(try(conv=>lhs;cbv))));(exact rfl))) ?_
        apply wpV_seq;refine wpV_ofH (by ((try(conv=>lhs;cbv));(repeat((first|(rewrite[k5]));(try(conv=>lhs;cbv))));(exact rfl))) ?_
        apply wpV_seq;refine wpV_ofH (by ((try(conv=>lhs;cbv));(repeat((first|(rewrite[k6]));(try(conv=>lhs;cbv))));(exact rfl))) ?_
        apply wpV_seq;refine wpV_ofH (by ((try(conv=>lhs;cbv));(repeat((first|(rewrite[k7]));(try(conv=>lhs;cbv))));(exact rfl))) ?_
        apply wpV_seq;apply wpV_seq;refine wpV_ofH (by ((try(conv=>lhs;cbv));(exact rfl))) ?_
        apply wpV_block
        refine wpV_loop v7 (fun i st=>∃ (s':RS) (l:List (Int × Int)) (J:Int) (ln:Nat),st=⟨2,(rp::u::.one (.ptr 2 0)::.one (.ptr 3 0)::u::u::u::u::u::u::u::u::u::u::u::u::u::u::u::u::u::u::u::u::u::i64 V7::i64 J::u::u::u::u::u::u::u::u::u::u::u::u::u::u::u::u::u::u::u::u::u::u::u::u::u::u::u::u::[]),rdR true es s'++[.var false zeroC,.var false [.iv (.int .i64 p1),.iv (.int .i64 p2),.iv (.int .i64 V2),.iv (.int .i64 V3),.iv (.str v4),.iv (.int .i64 V5),.iv (.str v6),.slo 4 0 ln],.arr false false 2 (E l)]⟩∧J=i∧s'.fits bs.length∧ln=l.length∧l.length=i∧gonR bs (v7 - i) l s'=(gl',s8')) (by omega) (by ((try(conv=>lhs;cbv));(try(with_reducible rfl)))) ⟨.ok f7 o7 n7,[],0,0,by rw[hE0];rfl,rfl,h7,rfl,rfl,hRR⟩ ?_
        rintro i hi st ⟨s',l,J,ln,rfl,hJ,hfit,hln,hli,hgo⟩
        by_cases him:i<v7
        ·rw[show v7 - i=(v7 - i - 1)+1 by omega,gonR] at hgo
         have kx:=kd' s' hfit
         have hf2:=dotS_fits (bs:=bs) (s:=s') hfit
         have hee:∀ f e,s'=.er f e→(dotS bs s').2=.er f e:=by rintro f e rfl;rfl
         generalize dotS bs s'=R2 at *
         obtain⟨⟨d1,d2⟩,s2⟩:=R2
         dsimp only at kx hf2 hgo hee
         have ap:A .apo 16 0 ln (E l) [[.int .i64 d1,.int .i64 d2]]=some (true,E (sn l (d1,d2))):=D.apo (x:=(d1,d2)) (by omega)
         cases s' with
         | er f' e' =>
          have h2:=hee _ _ rfl
          subst h2
          dsimp only[RS.isOk,cond_true,cond_false,rdR,List.append_nil,List.cons_append,List.nil_append,zeroC,dotF,RS.err] at kx ⊢
          refine wpV_ofH (by ((try(conv=>lhs;cbv));(repeat((first|(rewrite[kx])|(rewrite[ap])|(rewrite[K.add];rotate_left;focus((try simp only[K.df,D.df,true_and,and_true])<;>omega))|(rewrite[D.ln])|(rewrite[K.ltT];rotate_left;focus((try simp only[K.df,D.df,true_and,and_true])<;>omega)));(try(conv=>lhs;cbv))));(exact rfl))) ?_
          refine headQ_ofH (by ((try(conv=>lhs;cbv));(exact rfl))) ?_
          refine⟨him,.er f' e',_,_,_,rfl,?_,hf2,?_,?_,?_⟩
          ·rw[K.pl_];omega
          ·rw[D.ll_]
          ·rw[D.sn_,List.length_append,hli];rfl
          ·rw[D.sn_,show v7 - (i+1)=v7 - i - 1 by omega];exact hgo
         | ok f' o' n' =>
          cases s2 with
          | ok f2 o2 n2 =>
           dsimp only[RS.isOk,cond_true,cond_false,rdR,List.append_nil,List.cons_append,List.nil_append,zeroC,dotF,RS.err] at kx ⊢
           refine wpV_ofH (by ((try(conv=>lhs;cbv));(repeat((first|(rewrite[kx])|(rewrite[ap])|(rewrite[K.add];rotate_left;focus((try simp only[K.df,D.df,true_and,and_true])<;>omega))|(rewrite[D.ln])|(rewrite[K.ltT];rotate_left;focus((try simp only[K.df,D.df,true_and,and_true])<;>omega)));(try(conv=>lhs;cbv))));(exact rfl))) ?_
           refine headQ_ofH (by ((try(conv=>lhs;cbv));(exact rfl))) ?_
           refine⟨him,.ok f2 o2 n2,_,_,_,rfl,?_,hf2,?_,?_,?_⟩
           ·rw[K.pl_];omega
           ·rw[D.ll_]
           ·rw[D.sn_,List.length_append,hli];rfl
           ·rw[D.sn_,show v7 - (i+1)=v7 - i - 1 by omega];exact hgo
          | er f2 e2 =>
           dsimp only[RS.isOk,cond_true,cond_false,rdR,List.append_nil,List.cons_append,List.nil_append,zeroC,dotF,RS.err] at kx ⊢
           refine wpV_ofH (by ((try(conv=>lhs;cbv));(repeat((first|(rewrite[kx])|(rewrite[ap])|(rewrite[K.add];rotate_left;focus((try simp only[K.df,D.df,true_and,and_true])<;>omega))|(rewrite[D.ln])|(rewrite[K.ltT];rotate_left;focus((try simp only[K.df,D.df,true_and,and_true])<;>omega)));(try(conv=>lhs;cbv))));(exact rfl))) ?_
           refine headQ_ofH (by ((try(conv=>lhs;cbv));(exact rfl))) ?_
           refine⟨him,.er f2 e2,_,_,_,rfl,?_,hf2,?_,?_,?_⟩
           ·rw[K.pl_];omega
           ·rw[D.ll_]
           ·rw[D.sn_,List.length_append,hli];rfl
           ·rw[D.sn_,show v7 - (i+1)=v7 - i - 1 by omega];exact hgo
        ·obtain rfl:i=v7:=by omega
         rw[Nat.sub_self,gonR] at hgo
         simp only[Prod.mk.injEq] at hgo
         obtain⟨rfl,rfl⟩:=hgo
         cases s' with
         | er f' e' =>
          have hfit:e'≠0:=hfit
          rw[evS_er h9082 hfit,evV_er hfit,evK_er hfit]
          dsimp only[RS.isOk,cond_true,cond_false,rdR,List.append_nil,List.cons_append,List.nil_append,zeroC,RS.err]
          refine wpV_ofH (by ((try(conv=>lhs;cbv));(repeat((first|(rewrite[K.ltF];rotate_left;focus((try simp only[K.df,D.df,true_and,and_true])<;>omega)));(try(conv=>lhs;cbv))));(exact rfl))) ?_
          show wpV _ _ _ _ _ _
          refine wpV_ofH (by ((try(conv=>lhs;cbv));(repeat((first|(rewrite[K.neT];rotate_left;focus((try simp only[K.df,D.df,true_and,and_true])<;>omega))|(rewrite[K.eqF];rotate_left;focus((try simp only[K.df,D.df,true_and,and_true])<;>omega)));(try(conv=>lhs;cbv))));(exact rfl))) ?_
          (show finV _ _ _=some _;((try(conv=>lhs;cbv));(try(with_reducible rfl)));(try rfl))
         | ok f' o' n' =>
          have hgl:=hq2 rfl
          subst hgl
          have kff:=kf' (.ok f' o' n') hfit
          have sgl:A .seg (E l) 0 ln=E l:=by rw[D.seg,D.sg_,List.drop_zero,List.take_of_length_le (by omega)]
          by_cases hc0:ck=0
          ·rw[evS_ok h9082 (by rw[hraw,hck];exact hc0),evV_ok,evK_ok,hraw]
           dsimp only[RS.isOk,cond_true,cond_false,rdR,List.append_nil,List.cons_append,List.nil_append,zeroC,RS.err,RS.fail] at kff ⊢
           rw[hE,← hln]
           subst hc0
           refine wpV_ofH (by ((try(conv=>lhs;cbv));(repeat((first|(rewrite[K.ltF];rotate_left;focus((try simp only[K.df,D.df,true_and,and_true])<;>omega)));(try(conv=>lhs;cbv))));(exact rfl))) ?_
           show wpV _ _ _ _ _ _
           refine wpV_ofH (by ((try(conv=>lhs;cbv));(repeat((first|(rewrite[sgl])|(rewrite[kcc])|(rewrite[K.eqT];rotate_left;focus((try simp only[K.df,D.df,true_and,and_true])<;>omega))|(rewrite[K.neF];rotate_left;focus((try simp only[K.df,D.df,true_and,and_true])<;>omega)));(try(conv=>lhs;cbv))));(exact rfl))) ?_
           (show finV _ _ _=some _;((try(conv=>lhs;cbv));(try(with_reducible rfl)));(try rfl))
          ·rw[evS_bad h9082 (by rw[hraw,hck];exact hc0),evV_er (by decide),evK_er (by decide)]
           dsimp only[RS.isOk,cond_true,cond_false,rdR,List.append_nil,List.cons_append,List.nil_append,zeroC,RS.err,RS.fail] at kff ⊢
           refine wpV_ofH (by ((try(conv=>lhs;cbv));(repeat((first|(rewrite[K.ltF];rotate_left;focus((try simp only[K.df,D.df,true_and,and_true])<;>omega)));(try(conv=>lhs;cbv))));(exact rfl))) ?_
           show wpV _ _ _ _ _ _
           refine wpV_ofH (by ((try(conv=>lhs;cbv));(repeat((first|(rewrite[sgl])|(rewrite[kcc])|(rewrite[kff])|(rewrite[K.eqT];rotate_left;focus((try simp only[K.df,D.df,true_and,and_true])<;>omega))|(rewrite[K.neT];rotate_left;focus((try simp only[K.df,D.df,true_and,and_true])<;>omega)));(try(conv=>lhs;cbv))));(exact rfl))) ?_
           (show finV _ _ _=some _;((try(conv=>lhs;cbv));(try(with_reducible rfl)));(try rfl))
end Go.Proofs.Ytlljgefgbglmbaa
