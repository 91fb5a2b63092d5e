/- A vector of any bytes is read: gone through. -/
import Derived.Test.YtlljgefgbglmbaaCGK
set_option linter.unusedSimpArgs false
set_option linter.unusedVariables false
set_option maxRecDepth 100000
set_option maxHeartbeats 1000000
set_option cbv.maxSteps 10000000
namespace Go.Proofs.Ytlljgefgbglmbaa
open Go GoV

theorem ok_of {L:Nat} {s:RS} (hf:s.fits L) (h:s.err=0):s.isOk=true:=by
 cases s with
 | ok f o n=>rfl
 | er f e=>exact absurd h hf
theorem risGo_mem {bs:List Nat} {top:Int}:∀ {n p:Nat} {l m:List Int} {s s':RS},s.fits bs.length→(∀ z,z∈l→0≤z∧z≤top)→risGo bs top n p l s=(some m,s')→(∀ z,z∈m→0≤z∧z≤top)∧m.length=l.length+n
 | 0,_,l,m,s,s',hf,hl,h=>by
  simp only[risGo,Prod.mk.injEq,Option.some.injEq] at h
  obtain⟨rfl,rfl⟩:=h
  exact⟨hl,rfl⟩
 | n+1,p,l,m,s,s',hf,hl,h=>by
  unfold risGo at h
  split at h
  ·rename_i he
   have hx:=numS_ok (ok_of (numS_fits (most:=top - p) hf) he)
   have:=risGo_mem (numS_fits hf) (fun z hz=>by
    rcases List.mem_append.1 hz with h|h
    ·exact hl z h
    ·simp only[List.mem_singleton] at h;omega) h
   refine⟨this.1,?_⟩
   rw[this.2,List.length_append]
   simp only[List.length_cons,List.length_nil]
   omega
  ·cases h
def zeros:List Int:=List.replicate 64 0
def vecGo (bs:List Nat):List Int→List Int→RS→List Int × RS
 | [],v,s=>(v,s)
 | i::l,v,s=>vecGo bs l (v.set i.toNat ((numS bs 1073741823 s).1+1)) (numS bs 1073741823 s).2
/-- A vector, read. -/
def vecS (bs:List Nat) (s:RS):List Int × RS :=
 match risS bs 64 63 s with
 | (none,s')=>(zeros,s')
 | (some l,s')=>if (vecGo bs l zeros s').2.err=0 then vecGo bs l zeros s' else (zeros,(vecGo bs l zeros s').2)
theorem vecGo_fits {bs:List Nat}:∀ {l v:List Int} {s:RS},s.fits bs.length→(vecGo bs l v s).2.fits bs.length
 | [],_,_,h=>h
 | i::l,v,s,h=>vecGo_fits (l:=l) (numS_fits h)
theorem risS_fits {bs:List Nat} {many top:Int} {s:RS} (h:s.fits bs.length):(risS bs many top s).2.fits bs.length:=risGo_fits (numS_fits h)
theorem vecS_fits {bs:List Nat} {s:RS} (h:s.fits bs.length):(vecS bs s).2.fits bs.length:=by
 have:=risS_fits (many:=64) (top:=63) h
 unfold vecS
 split
 ·rename_i heq;rw[heq] at this;exact this
 ·rename_i heq;rw[heq] at this
  split
  ·exact vecGo_fits this
  ·exact vecGo_fits this
theorem vecGo_len (bs:List Nat):∀ (l v:List Int) (s:RS),(vecGo bs l v s).1.length=v.length
 | [],_,_=>rfl
 | i::l,v,s=>by rw[vecGo,vecGo_len bs l];simp
theorem vecS_len (bs:List Nat) (s:RS):(vecS bs s).1.length=64:=by
 unfold vecS
 split
 ·simp[zeros]
 ·split
  ·rw[vecGo_len];simp[zeros]
  ·simp[zeros]
theorem ris_er {bs:List Nat} {many top:Int} {s:RS} (h:(risS bs many top s).1=none) (hf:s.fits bs.length):(risS bs many top s).2.err≠0:=by
 have key:∀ {n p:Nat} {l:List Int} {s:RS},(risGo bs top n p l s).1=none→(risGo bs top n p l s).2.err≠0:=by
  intro n
  induction n with
  | zero=>intro p l s h;simp[risGo] at h
  | succ n ih =>
   intro p l s h
   unfold risGo at h ⊢
   split
   ·rename_i he;rw[if_pos he] at h;exact ih h
   ·rename_i he;exact he
 exact key h
theorem n45 (bs:List Nat) (hb:∀ b,b∈bs→b<256) (f:Bool) (o n:Nat) (hs:o+n=bs.length) :
  Pn 1101 45 [rp] (rdS true (by8 bs) (.ok f o n)) (vecF (vecS bs (.ok f o n)).1) (rdS true (by8 bs) (vecS bs (.ok f o n)).2):=by
 refine playN 1100 rfl rfl fun A call hA hcall=>?_
 obtain⟨pl,mi,ml,nt,tn,ad,sb,K⟩:=kit hA
 obtain⟨E,ix,sn,ll,cc,sg,I⟩:=lkit hA K (0:Int) (fun z=>[.int .i64 z]) 8
 obtain⟨W,gx,st',V⟩:=rkit hA
 have kn:∀ (s:RS),s.fits bs.length→call 44 [rp,i64 1073741823] (rdS s.isOk (by8 bs) s)=some (i64 (numS bs 1073741823 s).1,rdS s.isOk (by8 bs) (numS bs 1073741823 s).2):=fun s h=>by rw[hcall];exact n44 bs hb _ s h 1100 (by omega)
 have ke:∀ (s:RS),call 89 [rp] (rdS s.isOk (by8 bs) s)=some (i64 s.err,rdS s.isOk (by8 bs) s):=fun s=>by rw[hcall];exact n89 _ s 1100 (by omega)
 have k1:=n88 bs hb (many:=64) (top:=63) (by omega) (by omega) (by omega) f o n hs 1100 (by omega)
 rw[← hcall] at k1
 have hf:=risS_fits (many:=64) (top:=63) (s:=.ok f o n) hs
 have hmem:∀ l s',risS bs 64 63 (.ok f o n)=(some l,s')→(∀ z,z∈l→0≤z∧z≤63)∧l.length≤64:=fun l s' h=>by
  have h1:=risGo_mem (numS_fits (most:=64) (s:=.ok f o n) hs) (fun z hz=>by simp at hz) h
  have h2:=(numS_lt bs 64 (.ok f o n)).2
  exact⟨h1.1,by rw[h1.2];simp only[List.length_nil];omega⟩
 have hEI:∀ l,intsI l=E l:=fun l=>by rw[I.E_];rfl
 have hvW:∀ v,vec v=W v:=fun v=>by rw[V.W_];rfl
 have z0:[IV.int IntKind.i64 0,IV.int IntKind.i64 0,IV.int IntKind.i64 0,IV.int IntKind.i64 0,IV.int IntKind.i64 0,IV.int IntKind.i64 0,IV.int IntKind.i64 0,IV.int IntKind.i64 0,IV.int IntKind.i64 0,IV.int IntKind.i64 0,IV.int IntKind.i64 0,IV.int IntKind.i64 0,IV.int IntKind.i64 0,IV.int IntKind.i64 0,IV.int IntKind.i64 0,IV.int IntKind.i64 0,IV.int IntKind.i64 0,IV.int IntKind.i64 0,IV.int IntKind.i64 0,IV.int IntKind.i64 0,IV.int IntKind.i64 0,IV.int IntKind.i64 0,IV.int IntKind.i64 0,IV.int IntKind.i64 0,IV.int IntKind.i64 0,IV.int IntKind.i64 0,IV.int IntKind.i64 0,IV.int IntKind.i64 0,IV.int IntKind.i64 0,IV.int IntKind.i64 0,IV.int IntKind.i64 0,IV.int IntKind.i64 0,IV.int IntKind.i64 0,IV.int IntKind.i64 0,IV.int IntKind.i64 0,IV.int IntKind.i64 0,IV.int IntKind.i64 0,IV.int IntKind.i64 0,IV.int IntKind.i64 0,IV.int IntKind.i64 0,IV.int IntKind.i64 0,IV.int IntKind.i64 0,IV.int IntKind.i64 0,IV.int IntKind.i64 0,IV.int IntKind.i64 0,IV.int IntKind.i64 0,IV.int IntKind.i64 0,IV.int IntKind.i64 0,IV.int IntKind.i64 0,IV.int IntKind.i64 0,IV.int IntKind.i64 0,IV.int IntKind.i64 0,IV.int IntKind.i64 0,IV.int IntKind.i64 0,IV.int IntKind.i64 0,IV.int IntKind.i64 0,IV.int IntKind.i64 0,IV.int IntKind.i64 0,IV.int IntKind.i64 0,IV.int IntKind.i64 0,IV.int IntKind.i64 0,IV.int IntKind.i64 0,IV.int IntKind.i64 0,IV.int IntKind.i64 0]=W zeros:=by rw[V.W_];rfl
 have her:=ris_er (bs:=bs) (many:=64) (top:=63) (s:=.ok f o n)
 have zl:zeros.length=64:=by simp[zeros]
 unfold vecS
 generalize hN:risS bs 64 63 (.ok f o n)=N at *
 obtain⟨r,s1⟩:=N
 dsimp only at hf k1 her ⊢
 generalize hes:by8 bs=es at *
 cases r with
 | none =>
  cases s1 with
  | ok f1 o1 n1=>exact absurd rfl (her rfl hs)
  | er f1 e1 =>
   have k2:=ke (.er f1 e1)
   have hf:e1≠0:=hf
   have l0:A .len []=0:=by rw[hA];rfl
   dsimp only[risF,risB,RS.isOk,cond_true,cond_false,rdS,RS.err,List.append_nil,vecF] at k1 k2 ⊢
   rw[hvW,← z0]
   refine wpV_ofH (by ((try(conv=>lhs;cbv));(repeat((first|(rewrite[k1])|(rewrite[l0])|(rewrite[k2])|(rewrite[K.neT];rotate_left;focus((try simp only[K.df,I.df,V.df,true_and,and_true])<;>omega))|(rewrite[K.ltF];rotate_left;focus((try simp only[K.df,I.df,V.df,true_and,and_true])<;>omega)));(try(conv=>lhs;cbv))));(exact rfl))) ?_
   (show finV _ _ _=some _;((try(conv=>lhs;cbv));(try(with_reducible rfl)));(try rfl))
 | some l =>
  obtain⟨hl,hlen⟩:=hmem l s1 rfl
  obtain⟨M,hM⟩:∃ M:Int,M=nt l.length:=⟨_,rfl⟩
  have hMl:=K.nt_ l.length
  obtain⟨m,hm⟩:∃ m,m=l.length:=⟨_,rfl⟩
  dsimp only
  generalize hR:vecGo bs l zeros s1=R at *
  have k1':=k1
  dsimp only[risF,risB,RS.isOk,cond_true,cond_false,rdS,vecF,List.append_nil] at k1'
  rw[hEI] at k1'
  rw[← hm] at k1' hM
  have hMm:M=(m:Int):=by rw[hM,K.nt_]
  have tail:∀ (st0:St),headV false [0,2,3,7,8,9] st0=some ⟨2,[rp,u,.one (.ptr 2 0),.one (.ptr 3 0),u,u,u,.one (.slo 4 0 m),i64 M,i64 0,u,u,u,u,u,u,u,u,u,u,u,u,u,u],rdS true es s1++[.var false [.iv (.arr 64 (W zeros))],.var false [.iv (.arr 64 (W zeros))],.arr false false 1 (E l)]⟩ →
    ∀ Q:Ex→St→Prop,(∀ J:Int,Q .normal ⟨2,[rp,u,.one (.ptr 2 0),.one (.ptr 3 0),u,u,u,.one (.slo 4 0 m),i64 M,i64 J,bl false,u,u,u,u,u,u,u,u,u,u,u,u,u],rdS true es R.2++[.var false [.iv (.arr 64 (W zeros))],.var false [.iv (.arr 64 (W R.1))],.arr false false 1 (E l)]⟩)→wpV A call (iterN 1100) (.block 0 (.loop false [0,2,3,7,8,9] l45_0)) st0 Q:=by
   intro st0 hst Q hQ
   apply wpV_block
   refine wpV_loop m (fun i st=>∃ (s':RS) (v:List Int) (J:Int),st=⟨2,[rp,u,.one (.ptr 2 0),.one (.ptr 3 0),u,u,u,.one (.slo 4 0 m),i64 M,i64 J,u,u,u,u,u,u,u,u,u,u,u,u,u,u],rdS true es s'++[.var false [.iv (.arr 64 (W zeros))],.var false [.iv (.arr 64 (W v))],.arr false false 1 (E l)]⟩∧J=i∧s'.fits bs.length∧v.length=64∧vecGo bs (l.drop i) v s'=R) (by omega) hst ⟨s1,zeros,0,rfl,rfl,hf,zl,hR⟩ ?_
   rintro i hi st ⟨s',v,J,rfl,hJ,hfit,hv,hgo⟩
   by_cases him:i<m
   ·have k2:=kn s' hfit
    have hf2:=numS_fits (most:=1073741823) hfit
    have hlt:=numS_lt bs 1073741823 s'
    have hlt2:(numS bs 1073741823 s').1≤1073741823:=by omega
    have hee:∀ f e,s'=.er f e→(numS bs 1073741823 s').2=.er f e:=by rintro f e rfl;rfl
    have hd:l.drop i=l.getD i 0::l.drop (i+1):=by
     rw[List.drop_eq_getElem_cons (by omega),List.getD_eq_getElem?_getD,List.getElem?_eq_getElem (by omega)];rfl
    have hx:ix l J=l.getD i 0:=by rw[I.ix_,hJ];rfl
    have hxr:0≤ix l J∧ix l J≤63:=by
     rw[hx,List.getD_eq_getElem?_getD,List.getElem?_eq_getElem (by omega)]
     exact hl _ (List.getElem_mem (by omega))
    rw[hd,vecGo,← hx] at hgo
    obtain⟨X,hX⟩:∃ X:Int,X=((numS bs 1073741823 s').1:Int):=⟨_,rfl⟩
    rw[← hX] at k2
    have hXv:(((numS bs 1073741823 s').1:Int)+1)=pl X 1:=by rw[K.pl_,hX]
    have hnx:v.set (ix l J).toNat (((numS bs 1073741823 s').1:Int)+1)=st' v (ix l J) (pl X 1):=by rw[V.st_,hXv]
    rw[hnx] at hgo
    generalize (numS bs 1073741823 s').2=s2 at *
    cases s' with
    | ok f' o' n' =>
     cases s2 with
     | ok f2 o2 n2 =>
      dsimp only[RS.isOk,cond_true,cond_false,rdS,List.append_nil,List.cons_append,List.nil_append] at k2 ⊢
      refine wpV_ofH (by ((try(conv=>lhs;cbv));(repeat((first|(rewrite[k2])|(rewrite[K.add];rotate_left;focus((try simp only[K.df,I.df,V.df,true_and,and_true])<;>omega))|(rewrite[K.at_];rotate_left;focus((try simp only[K.df,I.df,V.df,true_and,and_true])<;>omega))|(rewrite[I.getN];rotate_left;focus((try simp only[K.df,I.df,V.df,true_and,and_true])<;>omega))|(rewrite[V.setc];rotate_left;focus((try simp only[K.df,I.df,V.df,true_and,and_true])<;>omega))|(rewrite[K.ltT];rotate_left;focus((try simp only[K.df,I.df,V.df,true_and,and_true])<;>omega)));(try(conv=>lhs;cbv))));(exact rfl))) ?_
      refine headQ_ofH (by ((try(conv=>lhs;cbv));(exact rfl))) ?_
      refine⟨him,.ok f2 o2 n2,_,_,rfl,?_,hf2,?_,hgo⟩
      ·rw[K.pl_];omega
      ·rw[V.st_];simpa using hv
     | er f2 e2 =>
      dsimp only[RS.isOk,cond_true,cond_false,rdS,List.append_nil,List.cons_append,List.nil_append] at k2 ⊢
      refine wpV_ofH (by ((try(conv=>lhs;cbv));(repeat((first|(rewrite[k2])|(rewrite[K.add];rotate_left;focus((try simp only[K.df,I.df,V.df,true_and,and_true])<;>omega))|(rewrite[K.at_];rotate_left;focus((try simp only[K.df,I.df,V.df,true_and,and_true])<;>omega))|(rewrite[I.getN];rotate_left;focus((try simp only[K.df,I.df,V.df,true_and,and_true])<;>omega))|(rewrite[V.setc];rotate_left;focus((try simp only[K.df,I.df,V.df,true_and,and_true])<;>omega))|(rewrite[K.ltT];rotate_left;focus((try simp only[K.df,I.df,V.df,true_and,and_true])<;>omega)));(try(conv=>lhs;cbv))));(exact rfl))) ?_
      refine headQ_ofH (by ((try(conv=>lhs;cbv));(exact rfl))) ?_
      refine⟨him,.er f2 e2,_,_,rfl,?_,hf2,?_,hgo⟩
      ·rw[K.pl_];omega
      ·rw[V.st_];simpa using hv
    | er f' e' =>
     have:=hee _ _ rfl
     subst this
     dsimp only[RS.isOk,cond_true,cond_false,rdS,List.append_nil,List.cons_append,List.nil_append] at k2 ⊢
     refine wpV_ofH (by ((try(conv=>lhs;cbv));(repeat((first|(rewrite[k2])|(rewrite[K.add];rotate_left;focus((try simp only[K.df,I.df,V.df,true_and,and_true])<;>omega))|(rewrite[K.at_];rotate_left;focus((try simp only[K.df,I.df,V.df,true_and,and_true])<;>omega))|(rewrite[I.getN];rotate_left;focus((try simp only[K.df,I.df,V.df,true_and,and_true])<;>omega))|(rewrite[V.setc];rotate_left;focus((try simp only[K.df,I.df,V.df,true_and,and_true])<;>omega))|(rewrite[K.ltT];rotate_left;focus((try simp only[K.df,I.df,V.df,true_and,and_true])<;>omega)));(try(conv=>lhs;cbv))));(exact rfl))) ?_
     refine headQ_ofH (by ((try(conv=>lhs;cbv));(exact rfl))) ?_
     refine⟨him,.er f' e',_,_,rfl,?_,hf2,?_,hgo⟩
     ·rw[K.pl_];omega
     ·rw[V.st_];simpa using hv
   ·obtain rfl:i=m:=by omega
    rw[List.drop_of_length_le (by omega),vecGo] at hgo
    rw[← hgo] at hQ
    cases s' with
    | ok f' o' n' =>
     dsimp only[RS.isOk,cond_true,cond_false,rdS,List.append_nil,List.cons_append,List.nil_append] at hQ ⊢
     refine wpV_ofH (by ((try(conv=>lhs;cbv));(repeat((first|(rewrite[K.ltF];rotate_left;focus((try simp only[K.df,I.df,V.df,true_and,and_true])<;>omega)));(try(conv=>lhs;cbv))));(exact rfl))) ?_
     exact hQ J
    | er f' e' =>
     dsimp only[RS.isOk,cond_true,cond_false,rdS,List.append_nil,List.cons_append,List.nil_append] at hQ ⊢
     refine wpV_ofH (by ((try(conv=>lhs;cbv));(repeat((first|(rewrite[K.ltF];rotate_left;focus((try simp only[K.df,I.df,V.df,true_and,and_true])<;>omega)));(try(conv=>lhs;cbv))));(exact rfl))) ?_
     exact hQ J
  have k3:=ke R.2
  have hRf:R.2.fits bs.length:=by rw[← hR];exact vecGo_fits hf
  obtain⟨rv,rs⟩:=R
  dsimp only at k3 tail hRf ⊢
  dsimp only[vecF]
  have om:A .ofN m=M:=by rw[K.ofN,hM]
  have fin:∀ J:Int,wpV A call (iterN 1100) (.seq (.seq (.region false [⟨some 19,.mov none (.t 0),[],none⟩,
  ⟨some 20,.call 89 [(false,.t 19)],[],none⟩,
  ⟨some 21,.bin .neq (.t 20) (.k (.one (.iv (.int .i64 0)))),[],none⟩])
 (.cond (.t 21) (.seq (.region false [⟨some 22,.build [.iv (.arr 64 (List.replicate 64 (.int .i64 0)))] [],[],none⟩,
  ⟨none,.store 64 (.t 2) (.t 22),[],none⟩])
 (.ret)) (.skip)))
 (.seq (.region false [⟨some 23,.load true 64 (.t 3),[],none⟩,
  ⟨none,.store 64 (.t 2) (.t 23),[],none⟩])
 (.ret))) ⟨2,[rp,u,.one (.ptr 2 0),.one (.ptr 3 0),u,u,u,.one (.slo 4 0 m),i64 M,i64 J,bl false,u,u,u,u,u,u,u,u,u,u,u,u,u],rdS true es rs++[.var false [.iv (.arr 64 (W zeros))],.var false [.iv (.arr 64 (W rv))],.arr false false 1 (E l)]⟩ (finQ A v45 (.agg [.iv (.arr 64 (vec (if rs.err=0 then (rv,rs) else (zeros,rs)).1))],rdS true es (if rs.err=0 then (rv,rs) else (zeros,rs)).2)):=by
   intro J
   cases rs with
   | ok f2 o2 n2 =>
    rw[if_pos (show (RS.ok f2 o2 n2).err=0 from rfl)]
    dsimp only
    rw[hvW]
    dsimp only[RS.isOk,cond_true,cond_false,rdS,RS.err,List.append_nil,List.cons_append,List.nil_append] at k3 ⊢
    refine wpV_ofH (by ((try(conv=>lhs;cbv));(repeat((first|(rewrite[k3])|(rewrite[K.neF];rotate_left;focus((try simp only[K.df,I.df,V.df,true_and,and_true])<;>omega)));(try(conv=>lhs;cbv))));(exact rfl))) ?_
    (show finV _ _ _=some _;((try(conv=>lhs;cbv));(try(with_reducible rfl)));(try rfl))
   | er f2 e2 =>
    have hRf:e2≠0:=hRf
    rw[if_neg (show ¬ (RS.er f2 e2).err=0 from hRf)]
    dsimp only
    rw[hvW]
    dsimp only[RS.isOk,cond_true,cond_false,rdS,RS.err,List.append_nil,List.cons_append,List.nil_append] at k3 ⊢
    refine wpV_ofH (by ((try(conv=>lhs;cbv));(repeat((first|(rewrite[k3])|(rewrite[z0])|(rewrite[K.neT];rotate_left;focus((try simp only[K.df,I.df,V.df,true_and,and_true])<;>omega)));(try(conv=>lhs;cbv))));(exact rfl))) ?_
    (show finV _ _ _=some _;((try(conv=>lhs;cbv));(try(with_reducible rfl)));(try rfl))
  cases s1 with
  | ok f1 o1 n1 =>
   dsimp only[RS.isOk,cond_true,cond_false,rdS,List.append_nil,List.cons_append,List.nil_append] at k1' tail ⊢
   apply wpV_seq;refine wpV_ofH (by ((try(conv=>lhs;cbv));(repeat((first|(rewrite[z0]));(try(conv=>lhs;cbv))));(exact rfl))) ?_
   apply wpV_seq;refine wpV_ofH (by ((try(conv=>lhs;cbv));(repeat((first|(rewrite[z0]));(try(conv=>lhs;cbv))));(exact rfl))) ?_
   apply wpV_seq;apply wpV_seq;refine wpV_ofH (by ((try(conv=>lhs;cbv));(repeat((first|(rewrite[k1'])|(rewrite[om]));(try(conv=>lhs;cbv))));(exact rfl))) ?_
   refine tail _ (by ((try(conv=>lhs;cbv));(try(with_reducible rfl)))) _ fin
  | er f1 e1 =>
   dsimp only[RS.isOk,cond_true,cond_false,rdS,List.append_nil,List.cons_append,List.nil_append] at k1' tail ⊢
   apply wpV_seq;refine wpV_ofH (by ((try(conv=>lhs;cbv));(repeat((first|(rewrite[z0]));(try(conv=>lhs;cbv))));(exact rfl))) ?_
   apply wpV_seq;refine wpV_ofH (by ((try(conv=>lhs;cbv));(repeat((first|(rewrite[z0]));(try(conv=>lhs;cbv))));(exact rfl))) ?_
   apply wpV_seq;apply wpV_seq;refine wpV_ofH (by ((try(conv=>lhs;cbv));(repeat((first|(rewrite[k1'])|(rewrite[om]));(try(conv=>lhs;cbv))));(exact rfl))) ?_
   refine tail _ (by ((try(conv=>lhs;cbv));(try(with_reducible rfl)))) _ fin
end Go.Proofs.Ytlljgefgbglmbaa
