/- Lists of events held against each other; a past behind bytes, and read; a reader's end: gone through. -/
import Derived.Test.YtlljgefgbglmbaaWEA
import Derived.Test.YtlljgefgbglmbaaELF
import Derived.Test.YtlljgefgbglmbaaEVF
import Derived.Test.YtlljgefgbglmbaaDAE
set_option linter.unusedSimpArgs false
set_option linter.unusedVariables false
set_option maxRecDepth 100000
set_option maxHeartbeats 4000000
set_option cbv.maxSteps 10000000
namespace Go.Proofs.Ytlljgefgbglmbaa
open Go GoV

def zeroX:EvX:=(zeroEv,true,0)
def exs (lx:List EvX):List (List IV):=lx.map exI
/-! ### A past -/
/-! ### Events, read as they were written -/
theorem n49 (es:List (List IV)) (f:Bool) (o n:Nat):Pn 3 49 [rp] (rdS true es (.ok f o n)) (i64 (if 0<n then 3 else 0)) (rdS true es (.ok f o n)):=by
 refine playN 2 rfl rfl fun A call hA hcall=>?_
 obtain⟨pl,mi,ml,nt,tn,ad,sb,K⟩:=kit hA
 obtain⟨EX,ix,sn,ll,cc,sg,X⟩:=lkit hA K zeroX exI 96
 obtain⟨W,gx,st',V⟩:=rkit hA
 have k1:=n93 es (.ok f o n) 2 (by omega)
 have k2:=n89 es (.ok f o n) 2 (by omega)
 rw[← hcall] at k1 k2
 dsimp only[rdS,cond_true,RS.isOk,RS.err,RS.left] at *
 obtain⟨N,hN⟩:∃ N:Int,N=n:=⟨_,rfl⟩
 rw[← hN] at k1
 by_cases h:0<n
 ·rw[if_pos h]
  refine wpV_ofH (by ((try(conv=>lhs;cbv));(repeat((first|(rewrite[k1])|(rewrite[k2])|(rewrite[K.gtT];rotate_left;focus((try simp only[K.df,X.df,V.df,true_and,and_true])<;>omega))|(rewrite[K.eqT];rotate_left;focus((try simp only[K.df,X.df,V.df,true_and,and_true])<;>omega)));(try(conv=>lhs;cbv))));(exact rfl))) ?_
  (show finV _ _ _=some _;((try(conv=>lhs;cbv));(try(with_reducible rfl)));(try rfl))
 ·rw[if_neg h]
  refine wpV_ofH (by ((try(conv=>lhs;cbv));(repeat((first|(rewrite[k1])|(rewrite[k2])|(rewrite[K.gtF];rotate_left;focus((try simp only[K.df,X.df,V.df,true_and,and_true])<;>omega)));(try(conv=>lhs;cbv))));(exact rfl))) ?_
  (show finV _ _ _=some _;((try(conv=>lhs;cbv));(try(with_reducible rfl)));(try rfl))
set_option maxHeartbeats 40000000

structure Msg where
 k:Int
 fr:Int
 to:Int
 ack:List Int
 base:List Int
 seen:List Int
 live:List Wr
 floor:List Int
abbrev msF (b:Bool) (z:Nat) (b2:Bool) (z2:Nat) (m:Msg) (lx:List EvX):FV:=.agg [.iv (.int .i64 m.k),.iv (.int .i64 m.fr),.iv (.int .i64 m.to),.iv (.arr 64 (vec m.ack)),.iv (.arr 64 (vec m.base)),.iv (.sl b z (exs lx)),.iv (.arr 64 (vec m.seen)),.iv (.sl b2 z2 (eWs m.live)),.iv (.arr 64 (vec m.floor))]
def endsB (m:Msg):Bool:=decide (0≤m.fr∧m.fr<64∧0≤m.to∧m.to<64∧m.fr≠m.to)
def noneB (m:Msg):Bool:=decide (m.seen=zeros)&&(decide (m.live.length=0)&&decide (m.floor=zeros))
def kindI (k:Int) (nn:Bool) (M:Int) (bB cn:Bool):Int:=if k=1∧nn=true∧M=0∧bB=true then 0 else if k=2∧nn=true∧0<M then 0 else if k=3∧cn=true∧bB=true then 0 else 1
def chkM (m:Msg) (lx:List EvX):Int :=
 cond (endsB m&&(goodB m.ack&&(goodB m.base&&(goodB m.floor&&decide (lx.length≤1024)))))
  (cond (lx.all (fun x=>decide (chk x.1=0))) (kindI m.k (noneB m) lx.length (decide (m.base=zeros)) (canB m.seen m.live)) 1) 1
theorem n33s:∀ l:List EvX,(∀ x,x∈l→x.1.doc.size≤1000000000000000∧x.1.gone.length≤1000)→∃ k,∀ x,x∈l→∀ b,Pn k 33 [evF b 2 x.1] [] (i64 (chk x.1)) []
 | [],_=>⟨0,fun w h=>by simp at h⟩
 | x::r,h=>by
  obtain⟨h0,h00⟩:=h x (by simp)
  obtain⟨k1,h1⟩:=n33 x.1 h0 h00
  obtain⟨k2,h2⟩:=n33s r fun w hw=>h w (by simp[hw])
  refine⟨k1+k2,fun w hw b n hn=>?_⟩
  rcases List.mem_cons.1 hw with rfl|hw
  ·exact h1 b 2 (.inl rfl) n (by omega)
  ·exact h2 w hw b n (by omega)
structure MsgOK (m:Msg) (lx:List EvX):Prop where
 la:m.ack.length=64
 lb:m.base.length=64
 ls:m.seen.length=64
 lf:m.floor.length=64
 ex:∀ x,x∈lx→x.1.doc.size≤1000000000000000∧x.1.gone.length≤1000
 x2:∀ x,x∈lx→x.2.2=2
 wd:∀ w,w∈m.live→w.doc.size≤1000000000000000
theorem n12 (m:Msg) (lx:List EvX) (h:MsgOK m lx):∃ k,∀ b z b2 z2,(z=8∨z=0∧lx=[])→(z2=6∨z2=0∧m.live=[])→Pn k 12 [msF b z b2 z2 m lx] [] (i64 (chkM m lx)) []:=by
 obtain⟨kg,hkg⟩:=n33s lx h.ex
 obtain⟨ka,hka⟩:=n32 h.la
 obtain⟨kb,hkb⟩:=n32 h.lb
 obtain⟨kf,hkf⟩:=n32 h.lf
 obtain⟨kc,hkc⟩:=n34 h.ls m.live h.wd
 obtain⟨N,hN⟩:∃ N,N=kg+ka+kb+kf+kc+3000:=⟨_,rfl⟩
 refine⟨N+1,fun b z b2 z2 hz hz2=>playN N rfl rfl fun A call hA hcall=>?_⟩
 obtain⟨pl,mi,ml,nt,tn,ad,sb,K⟩:=kit hA
 obtain⟨EX,ix,sn,ll,cc,sg,X⟩:=lkit hA K zeroX exI 96
 obtain⟨W,gx,st',V⟩:=rkit hA
 have qa:=hka N (by omega)
 have qb:=hkb N (by omega)
 have qf:=hkf N (by omega)
 have qc:=hkc b2 z2 hz2 N (by omega)
 have qg:∀ x,x∈lx→∀ b,call 33 [evF b 2 x.1] []=some (i64 (chk x.1),[]):=fun x hx b=>by rw[hcall];exact hkg x hx b N (by omega)
 rw[← hcall] at qa qb qf qc
 have hzl:zeros.length=64:=by simp[zeros]
 have eqS:=eqv_vec h.ls hzl
 have eqB:=eqv_vec h.lb hzl
 have eqF:=eqv_vec h.lf hzl
 rw[← hA] at eqS eqB eqF
 have z0:[IV.int IntKind.i64 0,IV.int IntKind.i64 0,IV.int IntKind.i64 0,IV.int IntKind.i64 0,IV.int IntKind.i64 0,IV.int IntKind.i64 0,IV.int IntKind.i64 0,IV.int IntKind.i64 0,IV.int IntKind.i64 0,IV.int IntKind.i64 0,IV.int IntKind.i64 0,IV.int IntKind.i64 0,IV.int IntKind.i64 0,IV.int IntKind.i64 0,IV.int IntKind.i64 0,IV.int IntKind.i64 0,IV.int IntKind.i64 0,IV.int IntKind.i64 0,IV.int IntKind.i64 0,IV.int IntKind.i64 0,IV.int IntKind.i64 0,IV.int IntKind.i64 0,IV.int IntKind.i64 0,IV.int IntKind.i64 0,IV.int IntKind.i64 0,IV.int IntKind.i64 0,IV.int IntKind.i64 0,IV.int IntKind.i64 0,IV.int IntKind.i64 0,IV.int IntKind.i64 0,IV.int IntKind.i64 0,IV.int IntKind.i64 0,IV.int IntKind.i64 0,IV.int IntKind.i64 0,IV.int IntKind.i64 0,IV.int IntKind.i64 0,IV.int IntKind.i64 0,IV.int IntKind.i64 0,IV.int IntKind.i64 0,IV.int IntKind.i64 0,IV.int IntKind.i64 0,IV.int IntKind.i64 0,IV.int IntKind.i64 0,IV.int IntKind.i64 0,IV.int IntKind.i64 0,IV.int IntKind.i64 0,IV.int IntKind.i64 0,IV.int IntKind.i64 0,IV.int IntKind.i64 0,IV.int IntKind.i64 0,IV.int IntKind.i64 0,IV.int IntKind.i64 0,IV.int IntKind.i64 0,IV.int IntKind.i64 0,IV.int IntKind.i64 0,IV.int IntKind.i64 0,IV.int IntKind.i64 0,IV.int IntKind.i64 0,IV.int IntKind.i64 0,IV.int IntKind.i64 0,IV.int IntKind.i64 0,IV.int IntKind.i64 0,IV.int IntKind.i64 0,IV.int IntKind.i64 0]=vec zeros:=rfl
 rw[← z0] at eqS eqB eqF
 have hEX:exs lx=EX lx:=by rw[X.E_];rfl
 obtain⟨M,hM⟩:∃ M:Int,M=nt (ll lx):=⟨_,rfl⟩
 have hMl:M=lx.length:=by rw[hM,K.nt_,X.ll_]
 have ln:A .len (EX lx)=M:=by rw[X.len,hM]
 obtain⟨LN,hLN⟩:∃ x:Int,x=m.live.length:=⟨_,rfl⟩
 have lnW:A .len (eWs m.live)=LN:=by rw[hA,real_len,hLN];simp[eWs]
 have hnn:noneB m=(decide (m.seen=zeros)&&(decide (LN=0)&&decide (m.floor=zeros))):=by
  unfold noneB
  congr 2
  by_cases h0:m.live.length=0
  ·rw[decide_eq_true h0,decide_eq_true (by omega)]
  ·rw[decide_eq_false h0,decide_eq_false (by omega)]
 have x2:=h.x2
 clear hkg hka hkb hkf hkc h
 unfold chkM
 rw[hnn,show endsB m=decide (0≤m.fr∧m.fr<64∧0≤m.to∧m.to<64∧m.fr≠m.to) from rfl]
 obtain⟨mk,fr,to,ack,base,seen,live,floor⟩:=m
 dsimp only[msF,stF,vecF] at *
 rw[hEX]
 clear hnn
 generalize goodB ack=ga at *
 generalize goodB base=gb at *
 generalize goodB floor=gf at *
 generalize decide (seen=zeros)=bS at *
 generalize decide (base=zeros)=bB at *
 generalize decide (floor=zeros)=bF at *
 generalize canB seen live=cn at *
 generalize vec ack=va at *
 generalize vec base=vb at *
 generalize vec seen=vs at *
 generalize vec floor=vf at *
 generalize eWs live=lw at *
 by_cases hends:0≤fr∧fr<64∧0≤to∧to<64∧fr≠to
 ·rw[decide_eq_true hends,Bool.true_and]
  obtain⟨he1,he2,he3,he4,he5⟩:=hends
  cases ga with
  | false=>rw[Bool.false_and,cond_false];refine wpV_ofH (by ((try(conv=>lhs;cbv));(repeat((first|(rewrite[qa])|(rewrite[K.ltT];rotate_left;focus((try simp only[K.df,X.df,V.df,true_and,and_true])<;>omega))|(rewrite[K.geT];rotate_left;focus((try simp only[K.df,X.df,V.df,true_and,and_true])<;>omega))|(rewrite[K.neT];rotate_left;focus((try simp only[K.df,X.df,V.df,true_and,and_true])<;>omega)));(try(conv=>lhs;cbv))));(exact rfl))) ?_;(show finV _ _ _=some _;((try(conv=>lhs;cbv));(try(with_reducible rfl)));(try rfl))
  | true =>
   rw[Bool.true_and]
   cases gb with
   | false=>rw[Bool.false_and,cond_false];refine wpV_ofH (by ((try(conv=>lhs;cbv));(repeat((first|(rewrite[qa])|(rewrite[qb])|(rewrite[K.ltT];rotate_left;focus((try simp only[K.df,X.df,V.df,true_and,and_true])<;>omega))|(rewrite[K.geT];rotate_left;focus((try simp only[K.df,X.df,V.df,true_and,and_true])<;>omega))|(rewrite[K.neT];rotate_left;focus((try simp only[K.df,X.df,V.df,true_and,and_true])<;>omega)));(try(conv=>lhs;cbv))));(exact rfl))) ?_;(show finV _ _ _=some _;((try(conv=>lhs;cbv));(try(with_reducible rfl)));(try rfl))
   | true =>
    rw[Bool.true_and]
    cases gf with
    | false=>rw[Bool.false_and,cond_false];refine wpV_ofH (by ((try(conv=>lhs;cbv));(repeat((first|(rewrite[qa])|(rewrite[qb])|(rewrite[qf])|(rewrite[K.ltT];rotate_left;focus((try simp only[K.df,X.df,V.df,true_and,and_true])<;>omega))|(rewrite[K.geT];rotate_left;focus((try simp only[K.df,X.df,V.df,true_and,and_true])<;>omega))|(rewrite[K.neT];rotate_left;focus((try simp only[K.df,X.df,V.df,true_and,and_true])<;>omega)));(try(conv=>lhs;cbv))));(exact rfl))) ?_;(show finV _ _ _=some _;((try(conv=>lhs;cbv));(try(with_reducible rfl)));(try rfl))
    | true =>
     rw[Bool.true_and]
     by_cases hlen:lx.length≤1024
     ·rw[decide_eq_true hlen,cond_true]
      generalize hR:(lx.all fun x=>decide (chk x.1=0))=R
      apply wpV_seq;refine wpV_ofH (by ((try(conv=>lhs;cbv));(exact rfl))) ?_
      apply wpV_seq;refine wpV_ofH (by ((try(conv=>lhs;cbv));(repeat((first|(rewrite[K.ltT];rotate_left;focus((try simp only[K.df,X.df,V.df,true_and,and_true])<;>omega))|(rewrite[K.geT];rotate_left;focus((try simp only[K.df,X.df,V.df,true_and,and_true])<;>omega))|(rewrite[K.neT];rotate_left;focus((try simp only[K.df,X.df,V.df,true_and,and_true])<;>omega)));(try(conv=>lhs;cbv))));(exact rfl))) ?_
      apply wpV_seq;apply wpV_seq;refine wpV_ofH (by ((try(conv=>lhs;cbv));(repeat((first|(rewrite[qa])|(rewrite[qb])|(rewrite[qf])|(rewrite[ln])|(rewrite[K.gtF];rotate_left;focus((try simp only[K.df,X.df,V.df,true_and,and_true])<;>omega)));(try(conv=>lhs;cbv))));(exact rfl))) ?_
      apply wpV_of (by rfl);show wpV _ _ _ _ _ _
      apply wpV_seq;apply wpV_seq;refine wpV_ofH (by ((try(conv=>lhs;cbv));(repeat((first|(rewrite[ln]));(try(conv=>lhs;cbv))));(exact rfl))) ?_
      apply wpV_block
      refine wpV_loop lx.length (fun j st=>∃ J:Int,st=⟨0,(u::.one (.ptr 0 0)::u::u::u::u::u::u::u::u::u::u::u::u::u::u::u::u::u::u::u::u::u::u::u::u::u::u::u::u::u::u::u::u::u::u::u::u::u::u::u::u::u::u::u::u::u::u::u::u::u::u::u::u::u::u::u::u::u::.one (.iv (.sl b z (EX lx)))::i64 M::i64 J::u::u::u::u::u::u::u::u::u::u::u::u::u::u::u::u::u::u::u::u::u::u::u::u::u::u::u::u::u::u::u::u::u::u::u::u::u::u::u::u::u::u::u::u::u::u::u::u::u::u::u::u::u::u::u::u::u::u::u::u::u::u::u::u::u::u::u::u::u::u::u::u::[]),[.var false [.iv (.int .i64 mk),.iv (.int .i64 fr),.iv (.int .i64 to),.iv (.arr 64 va),.iv (.arr 64 vb),.iv (.sl b z (EX lx)),.iv (.arr 64 vs),.iv (.sl b2 z2 lw),.iv (.arr 64 vf)]]⟩∧J=j∧((lx.drop j).all fun x=>decide (chk x.1=0))=R) (by omega) (by ((try(conv=>lhs;cbv));(try(with_reducible rfl)))) ⟨0,rfl,rfl,hR⟩ ?_
      rintro j hj st ⟨J,rfl,hJ,hgo⟩
      by_cases hjl:j<lx.length
      ·obtain rfl:z=8:=by
        rcases hz with h|⟨h,h2⟩
        ·exact h
        ·rw[h2] at hjl;simp at hjl
       have g1:=X.get (l:=lx) (J:=J) (by omega)
       have hd:lx.drop j=ix lx J::lx.drop (j+1):=by
        rw[X.ix_,hJ,Int.toNat_natCast,List.drop_eq_getElem_cons (by omega),List.getD_eq_getElem?_getD,List.getElem?_eq_getElem (by omega)];rfl
       have hm:ix lx J∈lx:=by
        rw[X.ix_,hJ,Int.toNat_natCast,List.getD_eq_getElem?_getD,List.getElem?_eq_getElem hjl];exact List.getElem_mem _
       have kk:=qg _ hm
       have zz:=x2 _ hm
       rw[hd,List.all_cons] at hgo
       generalize ix lx J=x at *
       obtain⟨e,bb,zx⟩:=x
       dsimp only at kk zz hgo
       subst zz
       have kk:=kk bb
       unfold exI at g1
       dsimp only[evF] at kk g1
       generalize chk e=c at *
       generalize eDs e.gone=gs at *
       obtain⟨⟨r,n⟩,tt,kd,doc,f,txt,gone⟩:=e
       dsimp only at kk g1
       clear qg x2
       by_cases hc:c=0
       ·rw[decide_eq_true hc,Bool.true_and] at hgo
        subst hc
        refine wpV_ofH (by ((try(conv=>lhs;cbv));(repeat((first|(rewrite[g1])|(rewrite[kk])|(rewrite[K.add];rotate_left;focus((try simp only[K.df,X.df,V.df,true_and,and_true])<;>omega))|(rewrite[K.ltT];rotate_left;focus((try simp only[K.df,X.df,V.df,true_and,and_true])<;>omega))|(rewrite[K.neF];rotate_left;focus((try simp only[K.df,X.df,V.df,true_and,and_true])<;>omega)));(try(conv=>lhs;cbv))));(exact rfl))) ?_
        refine headQ_ofH (by ((try(conv=>lhs;cbv));(exact rfl))) ?_
        refine⟨hjl,_,rfl,?_,hgo⟩
        rw[K.pl_];omega
       ·rw[decide_eq_false hc,Bool.false_and] at hgo
        subst hgo
        rw[cond_false]
        refine wpV_ofH (by ((try(conv=>lhs;cbv));(repeat((first|(rewrite[g1])|(rewrite[kk])|(rewrite[K.ltT];rotate_left;focus((try simp only[K.df,X.df,V.df,true_and,and_true])<;>omega))|(rewrite[K.neT];rotate_left;focus((try simp only[K.df,X.df,V.df,true_and,and_true])<;>omega)));(try(conv=>lhs;cbv))));(exact rfl))) ?_
        show finQ _ _ _ _ _
        (show finV _ _ _=some _;((try(conv=>lhs;cbv));(try(with_reducible rfl)));(try rfl))
      ·obtain rfl:j=lx.length:=by omega
       rw[List.drop_of_length_le (Nat.le_refl _),List.all_nil] at hgo
       subst hgo
       rw[cond_true,← hMl]
       have hM0:0≤M:=by omega
       have hL0:0≤LN:=by omega
       clear qg x2 hR hM hEX
       generalize hq:kindI mk (bS&&(decide (LN=0)&&bF)) M bB cn=q
       refine wpV_ofH (by ((try(conv=>lhs;cbv));(repeat((first|(rewrite[K.ltF];rotate_left;focus((try simp only[K.df,X.df,V.df,true_and,and_true])<;>omega)));(try(conv=>lhs;cbv))));(exact rfl))) ?_
       show wpV _ _ _ _ _ _
       rcases (show mk=1∨mk=2∨mk=3∨mk≠1∧mk≠2∧mk≠3 by omega) with rfl|rfl|rfl|⟨k1,k2,k3⟩
       ·skip
        cases bS with
        | false =>
         obtain rfl:q=1:=by rw[← hq];simp[kindI]
         refine wpV_ofH (by ((try(conv=>lhs;cbv));(repeat((first|(rewrite[eqS])|(rewrite[K.eqT];rotate_left;focus((try simp only[K.df,X.df,V.df,true_and,and_true])<;>omega))|(rewrite[K.eqF];rotate_left;focus((try simp only[K.df,X.df,V.df,true_and,and_true])<;>omega)));(try(conv=>lhs;cbv))));(exact rfl))) ?_
         (show finV _ _ _=some _;((try(conv=>lhs;cbv));(try(with_reducible rfl)));(try rfl))
        | true =>
         rcases (show LN=0∨0<LN by omega) with rfl|hl
         ·cases bF with
          | false =>
           obtain rfl:q=1:=by rw[← hq];simp[kindI]
           refine wpV_ofH (by ((try(conv=>lhs;cbv));(repeat((first|(rewrite[eqS])|(rewrite[eqF])|(rewrite[lnW])|(rewrite[K.eqT];rotate_left;focus((try simp only[K.df,X.df,V.df,true_and,and_true])<;>omega))|(rewrite[K.eqF];rotate_left;focus((try simp only[K.df,X.df,V.df,true_and,and_true])<;>omega)));(try(conv=>lhs;cbv))));(exact rfl))) ?_
           (show finV _ _ _=some _;((try(conv=>lhs;cbv));(try(with_reducible rfl)));(try rfl))
          | true =>
           rcases (show M=0∨0<M by omega) with rfl|hp
           ·cases bB with
            | false =>
             obtain rfl:q=1:=by rw[← hq];simp[kindI]
             refine wpV_ofH (by ((try(conv=>lhs;cbv));(repeat((first|(rewrite[eqS])|(rewrite[eqB])|(rewrite[eqF])|(rewrite[lnW])|(rewrite[ln])|(rewrite[K.eqT];rotate_left;focus((try simp only[K.df,X.df,V.df,true_and,and_true])<;>omega))|(rewrite[K.eqF];rotate_left;focus((try simp only[K.df,X.df,V.df,true_and,and_true])<;>omega)));(try(conv=>lhs;cbv))));(exact rfl))) ?_
             (show finV _ _ _=some _;((try(conv=>lhs;cbv));(try(with_reducible rfl)));(try rfl))
            | true =>
             obtain rfl:q=0:=by rw[← hq];simp[kindI]
             refine wpV_ofH (by ((try(conv=>lhs;cbv));(repeat((first|(rewrite[eqS])|(rewrite[eqB])|(rewrite[eqF])|(rewrite[lnW])|(rewrite[ln])|(rewrite[K.eqT];rotate_left;focus((try simp only[K.df,X.df,V.df,true_and,and_true])<;>omega)));(try(conv=>lhs;cbv))));(exact rfl))) ?_
             (show finV _ _ _=some _;((try(conv=>lhs;cbv));(try(with_reducible rfl)));(try rfl))
           ·have hp':M≠0:=by omega
            obtain rfl:q=1:=by rw[← hq];simp[kindI,hp']
            refine wpV_ofH (by ((try(conv=>lhs;cbv));(repeat((first|(rewrite[eqS])|(rewrite[eqF])|(rewrite[lnW])|(rewrite[ln])|(rewrite[K.eqT];rotate_left;focus((try simp only[K.df,X.df,V.df,true_and,and_true])<;>omega))|(rewrite[K.eqF];rotate_left;focus((try simp only[K.df,X.df,V.df,true_and,and_true])<;>omega)));(try(conv=>lhs;cbv))));(exact rfl))) ?_
            (show finV _ _ _=some _;((try(conv=>lhs;cbv));(try(with_reducible rfl)));(try rfl))
         ·have hl':LN≠0:=by omega
          obtain rfl:q=1:=by rw[← hq];simp[kindI,hl']
          refine wpV_ofH (by ((try(conv=>lhs;cbv));(repeat((first|(rewrite[eqS])|(rewrite[lnW])|(rewrite[K.eqT];rotate_left;focus((try simp only[K.df,X.df,V.df,true_and,and_true])<;>omega))|(rewrite[K.eqF];rotate_left;focus((try simp only[K.df,X.df,V.df,true_and,and_true])<;>omega)));(try(conv=>lhs;cbv))));(exact rfl))) ?_
          (show finV _ _ _=some _;((try(conv=>lhs;cbv));(try(with_reducible rfl)));(try rfl))
       ·skip
        cases bS with
        | false =>
         obtain rfl:q=1:=by rw[← hq];simp[kindI]
         refine wpV_ofH (by ((try(conv=>lhs;cbv));(repeat((first|(rewrite[eqS])|(rewrite[K.eqT];rotate_left;focus((try simp only[K.df,X.df,V.df,true_and,and_true])<;>omega))|(rewrite[K.eqF];rotate_left;focus((try simp only[K.df,X.df,V.df,true_and,and_true])<;>omega)));(try(conv=>lhs;cbv))));(exact rfl))) ?_
         (show finV _ _ _=some _;((try(conv=>lhs;cbv));(try(with_reducible rfl)));(try rfl))
        | true =>
         rcases (show LN=0∨0<LN by omega) with rfl|hl
         ·cases bF with
          | false =>
           obtain rfl:q=1:=by rw[← hq];simp[kindI]
           refine wpV_ofH (by ((try(conv=>lhs;cbv));(repeat((first|(rewrite[eqS])|(rewrite[eqF])|(rewrite[lnW])|(rewrite[K.eqT];rotate_left;focus((try simp only[K.df,X.df,V.df,true_and,and_true])<;>omega))|(rewrite[K.eqF];rotate_left;focus((try simp only[K.df,X.df,V.df,true_and,and_true])<;>omega)));(try(conv=>lhs;cbv))));(exact rfl))) ?_
           (show finV _ _ _=some _;((try(conv=>lhs;cbv));(try(with_reducible rfl)));(try rfl))
          | true =>
           rcases (show M=0∨0<M by omega) with rfl|hp
           ·skip
            obtain rfl:q=1:=by rw[← hq];simp[kindI]
            refine wpV_ofH (by ((try(conv=>lhs;cbv));(repeat((first|(rewrite[eqS])|(rewrite[eqF])|(rewrite[lnW])|(rewrite[ln])|(rewrite[K.eqT];rotate_left;focus((try simp only[K.df,X.df,V.df,true_and,and_true])<;>omega))|(rewrite[K.gtF];rotate_left;focus((try simp only[K.df,X.df,V.df,true_and,and_true])<;>omega))|(rewrite[K.eqF];rotate_left;focus((try simp only[K.df,X.df,V.df,true_and,and_true])<;>omega)));(try(conv=>lhs;cbv))));(exact rfl))) ?_
            (show finV _ _ _=some _;((try(conv=>lhs;cbv));(try(with_reducible rfl)));(try rfl))
           ·skip
            obtain rfl:q=0:=by rw[← hq];simp[kindI,hp]
            refine wpV_ofH (by ((try(conv=>lhs;cbv));(repeat((first|(rewrite[eqS])|(rewrite[eqF])|(rewrite[lnW])|(rewrite[ln])|(rewrite[K.gtT];rotate_left;focus((try simp only[K.df,X.df,V.df,true_and,and_true])<;>omega))|(rewrite[K.eqT];rotate_left;focus((try simp only[K.df,X.df,V.df,true_and,and_true])<;>omega))|(rewrite[K.eqF];rotate_left;focus((try simp only[K.df,X.df,V.df,true_and,and_true])<;>omega)));(try(conv=>lhs;cbv))));(exact rfl))) ?_
            (show finV _ _ _=some _;((try(conv=>lhs;cbv));(try(with_reducible rfl)));(try rfl))
         ·have hl':LN≠0:=by omega
          obtain rfl:q=1:=by rw[← hq];simp[kindI,hl']
          refine wpV_ofH (by ((try(conv=>lhs;cbv));(repeat((first|(rewrite[eqS])|(rewrite[lnW])|(rewrite[K.eqT];rotate_left;focus((try simp only[K.df,X.df,V.df,true_and,and_true])<;>omega))|(rewrite[K.eqF];rotate_left;focus((try simp only[K.df,X.df,V.df,true_and,and_true])<;>omega)));(try(conv=>lhs;cbv))));(exact rfl))) ?_
          (show finV _ _ _=some _;((try(conv=>lhs;cbv));(try(with_reducible rfl)));(try rfl))
       ·skip
        cases bS with
        | false =>
         cases cn with
         | false =>
          obtain rfl:q=1:=by rw[← hq];simp[kindI]
          refine wpV_ofH (by ((try(conv=>lhs;cbv));(repeat((first|(rewrite[eqS])|(rewrite[qc])|(rewrite[K.eqT];rotate_left;focus((try simp only[K.df,X.df,V.df,true_and,and_true])<;>omega))|(rewrite[K.eqF];rotate_left;focus((try simp only[K.df,X.df,V.df,true_and,and_true])<;>omega)));(try(conv=>lhs;cbv))));(exact rfl))) ?_
          (show finV _ _ _=some _;((try(conv=>lhs;cbv));(try(with_reducible rfl)));(try rfl))
         | true =>
          cases bB with
          | false =>
           obtain rfl:q=1:=by rw[← hq];simp[kindI]
           refine wpV_ofH (by ((try(conv=>lhs;cbv));(repeat((first|(rewrite[eqS])|(rewrite[eqB])|(rewrite[qc])|(rewrite[K.eqT];rotate_left;focus((try simp only[K.df,X.df,V.df,true_and,and_true])<;>omega))|(rewrite[K.eqF];rotate_left;focus((try simp only[K.df,X.df,V.df,true_and,and_true])<;>omega)));(try(conv=>lhs;cbv))));(exact rfl))) ?_
           (show finV _ _ _=some _;((try(conv=>lhs;cbv));(try(with_reducible rfl)));(try rfl))
          | true =>
           obtain rfl:q=0:=by rw[← hq];simp[kindI]
           refine wpV_ofH (by ((try(conv=>lhs;cbv));(repeat((first|(rewrite[eqS])|(rewrite[eqB])|(rewrite[qc])|(rewrite[K.eqT];rotate_left;focus((try simp only[K.df,X.df,V.df,true_and,and_true])<;>omega))|(rewrite[K.eqF];rotate_left;focus((try simp only[K.df,X.df,V.df,true_and,and_true])<;>omega)));(try(conv=>lhs;cbv))));(exact rfl))) ?_
           (show finV _ _ _=some _;((try(conv=>lhs;cbv));(try(with_reducible rfl)));(try rfl))
        | true =>
         rcases (show LN=0∨0<LN by omega) with rfl|hl
         ·cases bF with
          | false =>
           cases cn with
           | false =>
            obtain rfl:q=1:=by rw[← hq];simp[kindI]
            refine wpV_ofH (by ((try(conv=>lhs;cbv));(repeat((first|(rewrite[eqS])|(rewrite[eqF])|(rewrite[lnW])|(rewrite[qc])|(rewrite[K.eqT];rotate_left;focus((try simp only[K.df,X.df,V.df,true_and,and_true])<;>omega))|(rewrite[K.eqF];rotate_left;focus((try simp only[K.df,X.df,V.df,true_and,and_true])<;>omega)));(try(conv=>lhs;cbv))));(exact rfl))) ?_
            (show finV _ _ _=some _;((try(conv=>lhs;cbv));(try(with_reducible rfl)));(try rfl))
           | true =>
            cases bB with
            | false =>
             obtain rfl:q=1:=by rw[← hq];simp[kindI]
             refine wpV_ofH (by ((try(conv=>lhs;cbv));(repeat((first|(rewrite[eqS])|(rewrite[eqB])|(rewrite[eqF])|(rewrite[lnW])|(rewrite[qc])|(rewrite[K.eqT];rotate_left;focus((try simp only[K.df,X.df,V.df,true_and,and_true])<;>omega))|(rewrite[K.eqF];rotate_left;focus((try simp only[K.df,X.df,V.df,true_and,and_true])<;>omega)));(try(conv=>lhs;cbv))));(exact rfl))) ?_
             (show finV _ _ _=some _;((try(conv=>lhs;cbv));(try(with_reducible rfl)));(try rfl))
            | true =>
             obtain rfl:q=0:=by rw[← hq];simp[kindI]
             refine wpV_ofH (by ((try(conv=>lhs;cbv));(repeat((first|(rewrite[eqS])|(rewrite[eqB])|(rewrite[eqF])|(rewrite[lnW])|(rewrite[qc])|(rewrite[K.eqT];rotate_left;focus((try simp only[K.df,X.df,V.df,true_and,and_true])<;>omega))|(rewrite[K.eqF];rotate_left;focus((try simp only[K.df,X.df,V.df,true_and,and_true])<;>omega)));(try(conv=>lhs;cbv))));(exact rfl))) ?_
             (show finV _ _ _=some _;((try(conv=>lhs;cbv));(try(with_reducible rfl)));(try rfl))
          | true =>
           cases cn with
           | false =>
            obtain rfl:q=1:=by rw[← hq];simp[kindI]
            refine wpV_ofH (by ((try(conv=>lhs;cbv));(repeat((first|(rewrite[eqS])|(rewrite[eqF])|(rewrite[lnW])|(rewrite[qc])|(rewrite[K.eqT];rotate_left;focus((try simp only[K.df,X.df,V.df,true_and,and_true])<;>omega))|(rewrite[K.eqF];rotate_left;focus((try simp only[K.df,X.df,V.df,true_and,and_true])<;>omega)));(try(conv=>lhs;cbv))));(exact rfl))) ?_
            (show finV _ _ _=some _;((try(conv=>lhs;cbv));(try(with_reducible rfl)));(try rfl))
           | true =>
            cases bB with
            | false =>
             obtain rfl:q=1:=by rw[← hq];simp[kindI]
             refine wpV_ofH (by ((try(conv=>lhs;cbv));(repeat((first|(rewrite[eqS])|(rewrite[eqB])|(rewrite[eqF])|(rewrite[lnW])|(rewrite[qc])|(rewrite[K.eqT];rotate_left;focus((try simp only[K.df,X.df,V.df,true_and,and_true])<;>omega))|(rewrite[K.eqF];rotate_left;focus((try simp only[K.df,X.df,V.df,true_and,and_true])<;>omega)));(try(conv=>lhs;cbv))));(exact rfl))) ?_
             (show finV _ _ _=some _;((try(conv=>lhs;cbv));(try(with_reducible rfl)));(try rfl))
            | true =>
             obtain rfl:q=0:=by rw[← hq];simp[kindI]
             refine wpV_ofH (by ((try(conv=>lhs;cbv));(repeat((first|(rewrite[eqS])|(rewrite[eqB])|(rewrite[eqF])|(rewrite[lnW])|(rewrite[qc])|(rewrite[K.eqT];rotate_left;focus((try simp only[K.df,X.df,V.df,true_and,and_true])<;>omega))|(rewrite[K.eqF];rotate_left;focus((try simp only[K.df,X.df,V.df,true_and,and_true])<;>omega)));(try(conv=>lhs;cbv))));(exact rfl))) ?_
             (show finV _ _ _=some _;((try(conv=>lhs;cbv));(try(with_reducible rfl)));(try rfl))
         ·have hl':LN≠0:=by omega
          cases cn with
          | false =>
           obtain rfl:q=1:=by rw[← hq];simp[kindI,hl']
           refine wpV_ofH (by ((try(conv=>lhs;cbv));(repeat((first|(rewrite[eqS])|(rewrite[lnW])|(rewrite[qc])|(rewrite[K.eqT];rotate_left;focus((try simp only[K.df,X.df,V.df,true_and,and_true])<;>omega))|(rewrite[K.eqF];rotate_left;focus((try simp only[K.df,X.df,V.df,true_and,and_true])<;>omega)));(try(conv=>lhs;cbv))));(exact rfl))) ?_
           (show finV _ _ _=some _;((try(conv=>lhs;cbv));(try(with_reducible rfl)));(try rfl))
          | true =>
           cases bB with
           | false =>
            obtain rfl:q=1:=by rw[← hq];simp[kindI,hl']
            refine wpV_ofH (by ((try(conv=>lhs;cbv));(repeat((first|(rewrite[eqS])|(rewrite[eqB])|(rewrite[lnW])|(rewrite[qc])|(rewrite[K.eqT];rotate_left;focus((try simp only[K.df,X.df,V.df,true_and,and_true])<;>omega))|(rewrite[K.eqF];rotate_left;focus((try simp only[K.df,X.df,V.df,true_and,and_true])<;>omega)));(try(conv=>lhs;cbv))));(exact rfl))) ?_
            (show finV _ _ _=some _;((try(conv=>lhs;cbv));(try(with_reducible rfl)));(try rfl))
           | true =>
            obtain rfl:q=0:=by rw[← hq];simp[kindI,hl']
            refine wpV_ofH (by ((try(conv=>lhs;cbv));(repeat((first|(rewrite[eqS])|(rewrite[eqB])|(rewrite[lnW])|(rewrite[qc])|(rewrite[K.eqT];rotate_left;focus((try simp only[K.df,X.df,V.df,true_and,and_true])<;>omega))|(rewrite[K.eqF];rotate_left;focus((try simp only[K.df,X.df,V.df,true_and,and_true])<;>omega)));(try(conv=>lhs;cbv))));(exact rfl))) ?_
            (show finV _ _ _=some _;((try(conv=>lhs;cbv));(try(with_reducible rfl)));(try rfl))
       ·skip
        cases bS with
        | false =>
         obtain rfl:q=1:=by rw[← hq];simp[kindI,k1,k2,k3]
         refine wpV_ofH (by ((try(conv=>lhs;cbv));(repeat((first|(rewrite[eqS])|(rewrite[K.eqF];rotate_left;focus((try simp only[K.df,X.df,V.df,true_and,and_true])<;>omega)));(try(conv=>lhs;cbv))));(exact rfl))) ?_
         (show finV _ _ _=some _;((try(conv=>lhs;cbv));(try(with_reducible rfl)));(try rfl))
        | true =>
         rcases (show LN=0∨0<LN by omega) with rfl|hl
         ·cases bF with
          | false =>
           obtain rfl:q=1:=by rw[← hq];simp[kindI,k1,k2,k3]
           refine wpV_ofH (by ((try(conv=>lhs;cbv));(repeat((first|(rewrite[eqS])|(rewrite[eqF])|(rewrite[lnW])|(rewrite[K.eqT];rotate_left;focus((try simp only[K.df,X.df,V.df,true_and,and_true])<;>omega))|(rewrite[K.eqF];rotate_left;focus((try simp only[K.df,X.df,V.df,true_and,and_true])<;>omega)));(try(conv=>lhs;cbv))));(exact rfl))) ?_
           (show finV _ _ _=some _;((try(conv=>lhs;cbv));(try(with_reducible rfl)));(try rfl))
          | true =>
           obtain rfl:q=1:=by rw[← hq];simp[kindI,k1,k2,k3]
           refine wpV_ofH (by ((try(conv=>lhs;cbv));(repeat((first|(rewrite[eqS])|(rewrite[eqF])|(rewrite[lnW])|(rewrite[K.eqT];rotate_left;focus((try simp only[K.df,X.df,V.df,true_and,and_true])<;>omega))|(rewrite[K.eqF];rotate_left;focus((try simp only[K.df,X.df,V.df,true_and,and_true])<;>omega)));(try(conv=>lhs;cbv))));(exact rfl))) ?_
           (show finV _ _ _=some _;((try(conv=>lhs;cbv));(try(with_reducible rfl)));(try rfl))
         ·have hl':LN≠0:=by omega
          obtain rfl:q=1:=by rw[← hq];simp[kindI,hl',k1,k2,k3]
          refine wpV_ofH (by ((try(conv=>lhs;cbv));(repeat((first|(rewrite[eqS])|(rewrite[lnW])|(rewrite[K.eqF];rotate_left;focus((try simp only[K.df,X.df,V.df,true_and,and_true])<;>omega)));(try(conv=>lhs;cbv))));(exact rfl))) ?_
          (show finV _ _ _=some _;((try(conv=>lhs;cbv));(try(with_reducible rfl)));(try rfl))
     ·rw[decide_eq_false hlen,cond_false]
      refine wpV_ofH (by ((try(conv=>lhs;cbv));(repeat((first|(rewrite[qa])|(rewrite[qb])|(rewrite[qf])|(rewrite[ln])|(rewrite[K.ltT];rotate_left;focus((try simp only[K.df,X.df,V.df,true_and,and_true])<;>omega))|(rewrite[K.gtT];rotate_left;focus((try simp only[K.df,X.df,V.df,true_and,and_true])<;>omega))|(rewrite[K.geT];rotate_left;focus((try simp only[K.df,X.df,V.df,true_and,and_true])<;>omega))|(rewrite[K.neT];rotate_left;focus((try simp only[K.df,X.df,V.df,true_and,and_true])<;>omega)));(try(conv=>lhs;cbv))));(exact rfl))) ?_
      (show finV _ _ _=some _;((try(conv=>lhs;cbv));(try(with_reducible rfl)));(try rfl))
 ·rw[decide_eq_false hends,Bool.false_and,cond_false]
  rcases (show fr<0∨0≤fr∧64≤fr∨0≤fr∧fr<64∧to<0∨0≤fr∧fr<64∧0≤to∧64≤to∨0≤fr∧fr<64∧0≤to∧to<64∧fr=to by omega) with h|h|h|h|h
  all_goals
   refine wpV_ofH (by ((try(conv=>lhs;cbv));(repeat((first|(rewrite[K.ltT];rotate_left;focus((try simp only[K.df,X.df,V.df,true_and,and_true])<;>omega))|(rewrite[K.geT];rotate_left;focus((try simp only[K.df,X.df,V.df,true_and,and_true])<;>omega))|(rewrite[K.ltF];rotate_left;focus((try simp only[K.df,X.df,V.df,true_and,and_true])<;>omega))|(rewrite[K.geF];rotate_left;focus((try simp only[K.df,X.df,V.df,true_and,and_true])<;>omega))|(rewrite[K.neF];rotate_left;focus((try simp only[K.df,X.df,V.df,true_and,and_true])<;>omega)));(try(conv=>lhs;cbv))));(exact rfl))) ?_
   (show finV _ _ _=some _;((try(conv=>lhs;cbv));(try(with_reducible rfl)));(try rfl))
set_option maxHeartbeats 20000000

theorem chkM_ok {m:Msg} {lx:List EvX} (h:chkM m lx=0):(endsB m&&(goodB m.ack&&(goodB m.base&&(goodB m.floor&&decide (lx.length≤1024)))))=true∧(lx.all (fun x=>decide (chk x.1=0)))=true∧kindI m.k (noneB m) lx.length (decide (m.base=zeros)) (canB m.seen m.live)=0:=by
 unfold chkM at h
 cases h1:(endsB m&&(goodB m.ack&&(goodB m.base&&(goodB m.floor&&decide (lx.length≤1024))))) with
 | false=>rw[h1,cond_false] at h;exact absurd h (by decide)
 | true =>
  rw[h1,cond_true] at h
  cases h2:(lx.all (fun x=>decide (chk x.1=0))) with
  | false=>rw[h2,cond_false] at h;exact absurd h (by decide)
  | true=>rw[h2,cond_true] at h;exact⟨rfl,rfl,h⟩
theorem chkM_k {m:Msg} {lx:List EvX} (h:chkM m lx=0):m.k=1∨m.k=2∨m.k=3:=by
 have h1:=(chkM_ok h).2.2
 unfold kindI at h1
 split at h1
 ·rename_i h;exact .inl h.1
 ·split at h1
  ·rename_i h;exact .inr (.inl h.1)
  ·split at h1
   ·rename_i h;exact .inr (.inr h.1)
   ·exact absurd h1 (by decide)
theorem none_0 {m:Msg} (h:noneB m=true):m.seen=zeros∧m.live=[]∧m.floor=zeros:=by
 unfold noneB at h
 simp only[Bool.and_eq_true,decide_eq_true_eq] at h
 exact⟨h.1,List.length_eq_zero_iff.1 h.2.1,h.2.2⟩
theorem chkM_1 {m:Msg} {lx:List EvX} (h:chkM m lx=0) (hk:m.k=1):lx.length=0∧m.base=zeros∧m.seen=zeros∧m.live=[]∧m.floor=zeros:=by
 have h1:=(chkM_ok h).2.2
 unfold kindI at h1
 rw[hk] at h1
 split at h1
 ·rename_i h
  obtain⟨_,a,b,c⟩:=h
  obtain⟨x,y,z⟩:=none_0 a
  exact⟨by omega,by simpa using c,x,y,z⟩
 ·simp at h1
theorem chkM_2 {m:Msg} {lx:List EvX} (h:chkM m lx=0) (hk:m.k=2):m.seen=zeros∧m.live=[]∧m.floor=zeros:=by
 have h1:=(chkM_ok h).2.2
 unfold kindI at h1
 rw[hk] at h1
 rw[if_neg (by simp)] at h1
 split at h1
 ·rename_i h;exact none_0 h.2.1
 ·simp at h1
end Go.Proofs.Ytlljgefgbglmbaa
