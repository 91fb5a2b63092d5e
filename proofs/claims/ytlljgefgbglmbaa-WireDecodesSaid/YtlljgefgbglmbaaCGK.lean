/- A reader reads a number: gone through. -/
import Derived.Test.YtlljgefgbglmbaaCGH
set_option linter.unusedSimpArgs false
set_option linter.unusedVariables false
set_option maxRecDepth 100000
set_option maxHeartbeats 1000000
set_option cbv.maxSteps 10000000
namespace Go.Proofs.Ytlljgefgbglmbaa
open Go GoV

abbrev rawF:Option Nat→FV
 | none=>.tup [(false,[.iv (.int .u64 0)]),(false,[.iv (.bool false)])]
 | some x=>.tup [(false,[.iv (.int .u64 (x:Int))]),(false,[.iv (.bool true)])]
theorem n86 (bs:List Nat) (hb:∀ b,b∈bs→b<256) (s:RS) (hs:s.fits bs.length):Pn 12 86 [rp] (rdS s.isOk (by8 bs) s) (rawF (rawS bs s).1) (rdS s.isOk (by8 bs) (rawS bs s).2):=by
 refine playN 11 rfl rfl fun A call hA hcall=>?_
 obtain⟨pl,mi,ml,nt,tn,ad,sb,K⟩:=kit hA
 obtain⟨E,ix,sn,ll,cc,sg,B⟩:=lkit hA K (0:Nat) (fun b=>[.int .u8 (nt b)]) 1
 have hes:(by8 bs).length=bs.length:=by8_len bs
 have kt:∀ (J:Int) (j:Nat) (s:RS),J=j→s.fits bs.length→call 112 [rp,i64 J] (rdS s.isOk (by8 bs) s)=some (takeF (by8 bs) j (takeS j s).1,rdS s.isOk (by8 bs) (takeS j s).2):=fun J j s hJ h=>by rw[hcall,hJ];exact n112 _ _ _ (by rw[hes];exact h) 11 (by omega)
 have k1:=kt 1 1 s rfl hs
 cases s with
 | er f x =>
  dsimp only[RS.isOk,cond_true,cond_false,rdS,takeS,takeF,rawS,rawF] at k1 ⊢
  generalize by8 bs=es at *
  refine wpV_ofH (by ((try(conv=>lhs;cbv));(repeat((first|(rewrite[k1]));(try(conv=>lhs;cbv))));(exact rfl))) ?_
  (show finV _ _ _=some _;((try(conv=>lhs;cbv));(try(with_reducible rfl)));(try rfl))
 | ok f o n =>
  have hs:o+n=bs.length:=hs
  by_cases h0:n=0
  ·subst h0
   dsimp only[RS.isOk,cond_true,cond_false,rdS,takeS,takeF,rawS,rawF] at k1 ⊢
   rw[if_pos (by decide)] at k1
   rw[if_pos rfl]
   dsimp only[RS.isOk,cond_true,cond_false,rdS,takeS,takeF,rawS,rawF] at k1 ⊢
   generalize by8 bs=es at *
   refine wpV_ofH (by ((try(conv=>lhs;cbv));(repeat((first|(rewrite[k1]));(try(conv=>lhs;cbv))));(exact rfl))) ?_
   (show finV _ _ _=some _;((try(conv=>lhs;cbv));(try(with_reducible rfl)));(try rfl))
  ·obtain⟨b,hbe⟩:∃ b,b=bs.getD o 0:=⟨_,rfl⟩
   obtain⟨k,hk⟩:∃ k,k=lo b:=⟨_,rfl⟩
   have hb8:b<256:=by rw[hbe];exact getD_mem hb o
   have hk8:k≤8:=by rw[hk];exact lo_le b
   have sg1:rSeg (by8 bs) o 1=E [b]:=by
    rw[B.E_,hbe]
    unfold rSeg by8
    rw[List.drop_eq_getElem_cons (by simp;omega)]
    simp only[List.take_succ_cons,List.take_zero,List.getElem_map,List.map_cons,List.map_nil,K.nt_]
    rw[List.getD_eq_getElem?_getD,List.getElem?_eq_getElem (by omega)];rfl
   obtain⟨L,hL,hL8,k3⟩:=n113 (x:=255 - b) (by omega)
   have k3:=k3 11 (by omega)
   rw[lo_len hb8 hL hL8,← hk,← hcall] at k3
   have nt8:=not8 hA hb8
   have g0:A .get (E [b]) 0=some [.int .u8 (nt b)]:=by
    rw[B.get (by simp)];rw[B.ix_];rfl
   rw[← K.nt_ b] at nt8
   have k2:=kt k k (.ok true (o+1) (n - 1)) rfl (by show o+1+(n - 1)=_;omega)
   dsimp only[RS.isOk,cond_true,cond_false,rdS,takeS,takeF,rawS,rawF] at k1 ⊢
   rw[if_neg (by omega)] at k1
   rw[if_neg h0,← hbe,← hk]
   dsimp only[RS.isOk,cond_true,cond_false,rdS,takeS,takeF,rawS,rawF] at k1
   rw[sg1] at k1
   obtain⟨X,hX⟩:∃ X:Nat→Int,∀ t,X t=(rawP bs o t:Int):=⟨_,fun _=>rfl⟩
   obtain⟨M,hM⟩:∃ M:Int,M=((255 / 2 ^ k:Nat):Int):=⟨_,rfl⟩
   obtain⟨T,hT⟩:∃ T:Int,T=(hd8 b:Int):=⟨_,rfl⟩
   have hi8:k<8→A .ar .shr .u8 255 (k:Int)=M∧A .ar .and .u8 (nt b) M=T∧A .ck .u64 T=X 0:=fun h=>by
    rw[hM,hT]
    refine⟨shrN hA (k:=.u8) (a:=255) (j:=k) rfl (by show _≤8;omega),?_,?_⟩
    ·rw[K.nt_,hk];exact and255 hA hb8 (by omega)
    ·have hlt:=hd8_lt hb8
     have hp:2 ^ (7 - lo b)≤2 ^ 7:=Nat.pow_le_pow_right (by omega) (by omega)
     rw[ckU64 hA (by omega),hX,rawP_0,hbe]
   have lo8:k=8→X 0=0:=fun h=>by rw[hX,rawP_0,← hbe];unfold hd8;rw[if_neg (by omega)];rfl
   have n1:A .nn (k:Int)=true:=by rw[hA];simp[real_nn]
   have key:∀ (Q:Ex→St→Prop) (st:St) (R:St),n≥k+1→headV false [0,6,7,39,40,41] st=some ⟨2,(.one (.ptr 0 0)::u::u::u::u::u::i64 k::u64 (X 0)::u::u::u::u::u::u::u::u::u::u::u::u::u::u::u::u::u::u::u::u::u::u::u::u::u::u::u::u::u::u::u::.one (.iv (.sl true 1 (rSeg (by8 bs) (o+1) k)))::i64 k::i64 0::u::u::u::u::u::u::u::u::u::u::u::u::u::u::u::u::[]),rdS true (by8 bs) (.ok true (o+1+k) (n - 1 - k))⟩ →
     (∀ J:Int,Q .normal ⟨2,(.one (.ptr 0 0)::u::u::u::u::u::i64 k::u64 (X k)::u::u::u::u::u::u::u::u::u::u::u::u::u::u::u::u::u::u::u::u::u::u::u::u::u::u::u::u::u::u::u::.one (.iv (.sl true 1 (rSeg (by8 bs) (o+1) k)))::i64 k::i64 J::bl false::u::u::u::u::u::u::u::u::u::u::u::u::u::u::u::[]),rdS true (by8 bs) (.ok true (o+1+k) (n - 1 - k))⟩)→wpV A call (iterN 11) (.block 0 (.loop false [0,6,7,39,40,41] l86_0)) st Q:=by
    intro Q st0 R hn hst hQ
    apply wpV_block
    have gS:∀ (J:Int),0≤J∧J<k→A .get (rSeg (by8 bs) (o+1) k) J=some [.int .u8 (nt (bs.getD (o+1+J.toNat) 0))]:=fun J hJ=>by
     rw[hA,real_get,if_pos hJ.1]
     unfold rSeg by8
     rw[List.getElem?_take,if_pos (by omega),List.getElem?_drop,List.getElem?_map,List.getElem?_eq_getElem (by omega),K.nt_,List.getD_eq_getElem?_getD,List.getElem?_eq_getElem (by omega)]
     rfl
    generalize rSeg (by8 bs) (o+1) k=S at *
    generalize by8 bs=es at *
    obtain⟨KK,hKK⟩:∃ KK:Int,KK=k:=⟨_,rfl⟩
    rw[← hKK] at hst gS hQ
    dsimp only[RS.isOk,cond_true,cond_false,rdS] at hst hQ
    generalize o+1+k=o2 at *
    generalize n - 1 - k=n2 at *
    refine wpV_loop k (fun i st=>∃ J:Int,st=⟨2,(.one (.ptr 0 0)::u::u::u::u::u::i64 KK::u64 (X i)::u::u::u::u::u::u::u::u::u::u::u::u::u::u::u::u::u::u::u::u::u::u::u::u::u::u::u::u::u::u::u::.one (.iv (.sl true 1 S))::i64 KK::i64 J::u::u::u::u::u::u::u::u::u::u::u::u::u::u::u::u::[]),[.var false [.slo 1 o2 n2,.iv (.int .i64 0),.iv (.bool true)],.arr true false 1 es]⟩∧J=i) (by omega) hst ⟨0,rfl,rfl⟩ ?_
    rintro i hi st ⟨J,rfl,hJ⟩
    by_cases him:i<k
    ·have hr:=rawP_succ (bs:=bs) (o:=o) (i:=i) (by omega)
     have hlt:=rawP_lt hb o (i:=i) (by rw[← hbe,← hk];exact him)
     have hc:=getD_mem hb (o+1+i)
     have hJ':J.toNat=i:=by omega
     have g1:=gS J (by omega)
     rw[hJ'] at g1
     have s1:A .ar .shl .u64 (X i) 8=((rawP bs o i*256:Nat):Int):=by rw[hX];exact shlU hA (by omega)
     obtain⟨Y,hY⟩:∃ Y:Int,Y=((rawP bs o i*256:Nat):Int):=⟨_,rfl⟩
     have s2:A .ar .or .u64 Y (nt (bs.getD (o+1+i) 0))=X (i+1):=by rw[hY,K.nt_,orU hA (by omega) hc,hX,hr]
     have u1:A .ck .u64 (nt (bs.getD (o+1+i) 0))=nt (bs.getD (o+1+i) 0):=K.ckU (by rw[K.nt_];omega)
     have n8:A .nn 8=true:=by rw[hA];rfl
     rw[← hY] at s1
     clear hY
     generalize nt (bs.getD (o+1+i) 0)=V at *
     generalize X (i+1)=X1 at *
     generalize X i=X0 at *
     refine wpV_ofH (by ((try(conv=>lhs;cbv));(repeat((first|(rewrite[g1])|(rewrite[s1])|(rewrite[s2])|(rewrite[u1])|(rewrite[n8])|(rewrite[K.add];rotate_left;focus((try simp only[K.df,B.df,true_and,and_true])<;>omega))|(rewrite[K.ltT];rotate_left;focus((try simp only[K.df,B.df,true_and,and_true])<;>omega)));(try(conv=>lhs;cbv))));(exact rfl))) ?_
     refine headQ_ofH (by ((try(conv=>lhs;cbv));(exact rfl))) ?_
     refine⟨him,_,rfl,?_⟩
     rw[K.pl_];omega
    ·obtain rfl:i=k:=by omega
     generalize X i=X0 at *
     refine wpV_ofH (by ((try(conv=>lhs;cbv));(repeat((first|(rewrite[K.ltF];rotate_left;focus((try simp only[K.df,B.df,true_and,and_true])<;>omega)));(try(conv=>lhs;cbv))));(exact rfl))) ?_
     exact hQ J
   have vk:rawV bs o=rawP bs o k:=by unfold rawV rawP;rw[← hbe,hk]
   have vlt:rawP bs o k<2 ^ 64:=by rw[← vk];exact rawV_lt hb o
   have k4:=n58 vlt 11 (by omega)
   rw[← hcall,← hX] at k4
   have k5:∀ f o n,o+n=bs.length→call 87 [rp,i64 3] (rdS true (by8 bs) (.ok f o n))=some (.tup [],rdS true (by8 bs) (.er f 3)):=fun f o n h=>by rw[hcall];exact n87 _ (.ok f o n) (by decide) (by rw[hes];exact h) 11 (by omega)
   have k5:=k5 true (o+1+k) (n - 1 - k)
   rw[vk]
   have c8:(k<8∧A .cmp .lss (k:Int) 8=true)∨(k=8∧A .cmp .lss (k:Int) 8=false):=by
    by_cases h:k<8
    ·exact .inl ⟨h,K.ltT (by omega)⟩
    ·exact .inr ⟨by omega,K.ltF (by omega)⟩
   by_cases h1:n<k+1
   ·dsimp only[RS.isOk,cond_true,cond_false,rdS,takeS,takeF] at k2
    rw[if_pos h1]
    rw[if_pos (by omega)] at k2
    dsimp only[RS.isOk,cond_true,cond_false,rdS,takeS,takeF] at k2 ⊢
    clear key k5 k4
    generalize by8 bs=es at *
    generalize o+1=oo1 at *
    generalize n - 1=nn1 at *
    generalize (k:Int)=KK at *
    generalize E [b]=B1 at *
    generalize nt b=b1 at *
    generalize ((255 - b:Nat):Int)=NB at *
    rcases c8 with ⟨c,c'⟩|⟨c,c'⟩
    ·obtain⟨q1,q2,q3⟩:=hi8 c
     refine wpV_ofH (by ((try(conv=>lhs;cbv));(repeat((first|(rewrite[k1])|(rewrite[g0])|(rewrite[nt8])|(rewrite[k3])|(rewrite[c'])|(rewrite[q1])|(rewrite[q2])|(rewrite[q3])|(rewrite[n1])|(rewrite[k2]));(try(conv=>lhs;cbv))));(exact rfl))) ?_
     (show finV _ _ _=some _;((try(conv=>lhs;cbv));(try(with_reducible rfl)));(try rfl))
    ·refine wpV_ofH (by ((try(conv=>lhs;cbv));(repeat((first|(rewrite[k1])|(rewrite[g0])|(rewrite[nt8])|(rewrite[k3])|(rewrite[c'])|(rewrite[k2]));(try(conv=>lhs;cbv))));(exact rfl))) ?_
     (show finV _ _ _=some _;((try(conv=>lhs;cbv));(try(with_reducible rfl)));(try rfl))
   ·dsimp only[RS.isOk,cond_true,cond_false,rdS,takeS,takeF] at k2
    rw[if_neg h1]
    rw[if_neg (by omega)] at k2
    have k5:=k5 (by omega)
    have key':=key
    have hlen:A .len (rSeg (by8 bs) (o+1) k)=(k:Int):=by
     rw[hA,real_len];unfold rSeg;rw[List.length_take,List.length_drop,hes];congr 1;omega
    have hnd:(nd (rawP bs o k)=k∧A .cmp .neq (nd (rawP bs o k):Int) (k:Int)=false)∨(nd (rawP bs o k)≠k∧A .cmp .neq (nd (rawP bs o k):Int) (k:Int)=true):=by
     by_cases h:nd (rawP bs o k)=k
     ·exact .inl ⟨h,K.neF (by omega)⟩
     ·exact .inr ⟨h,K.neT (by omega)⟩
    have hXk:(rawP bs o k:Int)=X k:=(hX k).symm
    dsimp only[RS.isOk,cond_true,cond_false,rdS,takeS,takeF] at k2 k5 ⊢ key
    have key:=fun Q st h1 h2=>key Q st st (by omega) h1 h2
    clear key'
    generalize (nd (rawP bs o k):Int)=ND at *
    generalize rSeg (by8 bs) (o+1) k=S at *
    generalize by8 bs=es at *
    generalize (k:Int)=KK at *
    generalize E [b]=B1 at *
    generalize nt b=b1 at *
    generalize ((255 - b:Nat):Int)=NB at *
    generalize o+1+k=o2 at *
    generalize n - 1 - k=n2 at *
    generalize o+1=oo1 at *
    generalize n - 1=nn1 at *
    generalize X k=XK at *
    generalize hX0:X 0=X0 at *
    rcases c8 with ⟨c,c'⟩|⟨c,c'⟩
    ·obtain⟨q1,q2,q3⟩:=hi8 c
     apply wpV_seq;refine wpV_ofH (by ((try(conv=>lhs;cbv));(exact rfl))) ?_
     apply wpV_seq;refine wpV_ofH (by ((try(conv=>lhs;cbv));(repeat((first|(rewrite[k1]));(try(conv=>lhs;cbv))));(exact rfl))) ?_
     apply wpV_seq;refine wpV_ofH (by ((try(conv=>lhs;cbv));(exact rfl))) ?_
     apply wpV_seq;refine wpV_ofH (by ((try(conv=>lhs;cbv));(repeat((first|(rewrite[g0])|(rewrite[nt8])|(rewrite[k3]));(try(conv=>lhs;cbv))));(exact rfl))) ?_
     apply wpV_seq;refine wpV_ofH (by ((try(conv=>lhs;cbv));(exact rfl))) ?_
     apply wpV_seq;refine wpV_ofH (by ((try(conv=>lhs;cbv));(repeat((first|(rewrite[c'])|(rewrite[g0])|(rewrite[q1])|(rewrite[q2])|(rewrite[q3])|(rewrite[n1]));(try(conv=>lhs;cbv))));(exact rfl))) ?_
     apply wpV_seq;refine wpV_ofH (by ((try(conv=>lhs;cbv));(repeat((first|(rewrite[k2]));(try(conv=>lhs;cbv))));(exact rfl))) ?_
     apply wpV_seq;refine wpV_ofH (by ((try(conv=>lhs;cbv));(exact rfl))) ?_
     apply wpV_seq;apply wpV_seq;refine wpV_ofH (by ((try(conv=>lhs;cbv));(repeat((first|(rewrite[hlen]));(try(conv=>lhs;cbv))));(exact rfl))) ?_
     refine key _ _ (by ((try(conv=>lhs;cbv));(try(with_reducible rfl)))) ?_
     intro J
     show wpV _ _ _ _ _ _
     rcases hnd with ⟨e,e'⟩|⟨e,e'⟩
     ·rw[if_pos e]
      dsimp only[RS.isOk,cond_true,cond_false,rdS,rawF]
      refine wpV_ofH (by ((try(conv=>lhs;cbv));(repeat((first|(rewrite[k4])|(rewrite[e']));(try(conv=>lhs;cbv))));(exact rfl))) ?_
      (show finV _ _ _=some _;((try(conv=>lhs;cbv));(repeat((first|(rewrite[hXk]));(try(conv=>lhs;cbv))));(try(with_reducible rfl)));(try rfl))
     ·rw[if_neg e]
      dsimp only[RS.isOk,cond_true,cond_false,rdS,rawF]
      refine wpV_ofH (by ((try(conv=>lhs;cbv));(repeat((first|(rewrite[k4])|(rewrite[e'])|(rewrite[k5]));(try(conv=>lhs;cbv))));(exact rfl))) ?_
      (show finV _ _ _=some _;((try(conv=>lhs;cbv));(try(with_reducible rfl)));(try rfl))
    ·have z:=lo8 c
     rw[z] at key
     apply wpV_seq;refine wpV_ofH (by ((try(conv=>lhs;cbv));(exact rfl))) ?_
     apply wpV_seq;refine wpV_ofH (by ((try(conv=>lhs;cbv));(repeat((first|(rewrite[k1]));(try(conv=>lhs;cbv))));(exact rfl))) ?_
     apply wpV_seq;refine wpV_ofH (by ((try(conv=>lhs;cbv));(exact rfl))) ?_
     apply wpV_seq;refine wpV_ofH (by ((try(conv=>lhs;cbv));(repeat((first|(rewrite[g0])|(rewrite[nt8])|(rewrite[k3]));(try(conv=>lhs;cbv))));(exact rfl))) ?_
     apply wpV_seq;refine wpV_ofH (by ((try(conv=>lhs;cbv));(exact rfl))) ?_
     apply wpV_seq;refine wpV_ofH (by ((try(conv=>lhs;cbv));(repeat((first|(rewrite[c']));(try(conv=>lhs;cbv))));(exact rfl))) ?_
     apply wpV_seq;refine wpV_ofH (by ((try(conv=>lhs;cbv));(repeat((first|(rewrite[k2]));(try(conv=>lhs;cbv))));(exact rfl))) ?_
     apply wpV_seq;refine wpV_ofH (by ((try(conv=>lhs;cbv));(exact rfl))) ?_
     apply wpV_seq;apply wpV_seq;refine wpV_ofH (by ((try(conv=>lhs;cbv));(repeat((first|(rewrite[hlen]));(try(conv=>lhs;cbv))));(exact rfl))) ?_
     refine key _ _ (by ((try(conv=>lhs;cbv));(try(with_reducible rfl)))) ?_
     intro J
     show wpV _ _ _ _ _ _
     rcases hnd with ⟨e,e'⟩|⟨e,e'⟩
     ·rw[if_pos e]
      dsimp only[RS.isOk,cond_true,cond_false,rdS,rawF]
      refine wpV_ofH (by ((try(conv=>lhs;cbv));(repeat((first|(rewrite[k4])|(rewrite[e']));(try(conv=>lhs;cbv))));(exact rfl))) ?_
      (show finV _ _ _=some _;((try(conv=>lhs;cbv));(repeat((first|(rewrite[hXk]));(try(conv=>lhs;cbv))));(try(with_reducible rfl)));(try rfl))
     ·rw[if_neg e]
      dsimp only[RS.isOk,cond_true,cond_false,rdS,rawF]
      refine wpV_ofH (by ((try(conv=>lhs;cbv));(repeat((first|(rewrite[k4])|(rewrite[e'])|(rewrite[k5]));(try(conv=>lhs;cbv))));(exact rfl))) ?_
      (show finV _ _ _=some _;((try(conv=>lhs;cbv));(try(with_reducible rfl)));(try rfl))
theorem n44 (bs:List Nat) (hb:∀ b,b∈bs→b<256) (most:Int) (s:RS) (hs:s.fits bs.length):Pn 13 44 [rp,i64 most] (rdS s.isOk (by8 bs) s) (i64 (numS bs most s).1) (rdS s.isOk (by8 bs) (numS bs most s).2):=by
 refine playN 12 rfl rfl fun A call hA hcall=>?_
 obtain⟨pl,mi,ml,nt,tn,ad,sb,K⟩:=kit hA
 obtain⟨E,ix,sn,ll,cc,sg,B⟩:=lkit hA K (0:Nat) (fun b=>[.int .u8 (nt b)]) 1
 have k1:=n86 bs hb s hs 12 (by omega)
 rw[← hcall] at k1
 have hf:=rawS_fits hs
 have hes:(by8 bs).length=bs.length:=by8_len bs
 have hx:∀ x s',rawS bs s=(some x,s')→x<2 ^ 64∧∃ f o n,s'=.ok f o n:=by
  intro x s' h
  cases s with
  | er f e=>simp[rawS] at h
  | ok f o n =>
   simp only[rawS] at h
   split at h
   ·cases h
   ·split at h
    ·cases h
    ·split at h
     ·simp only[Prod.mk.injEq,Option.some.injEq] at h
      obtain⟨rfl,rfl⟩:=h
      exact⟨rawV_lt hb o,_,_,_,rfl⟩
     ·cases h
 unfold numS
 obtain⟨w,hw⟩:∃ w,w=s.isOk:=⟨_,rfl⟩
 have hw1:∀ x s',rawS bs s=(some x,s')→w=true:=by
  intro x s' h
  cases s with
  | er f e=>simp[rawS] at h
  | ok f o n=>exact hw
 rw[← hw] at k1 ⊢
 cases hr:rawS bs s with
 | mk r s' =>
  rw[hr] at k1 hf
  dsimp only at hf
  cases r with
  | none =>
   have hz:((0:Nat):Int)=0:=rfl
   dsimp only[rawF] at k1 ⊢
   rw[hz]
   cases s with
   | ok f o n =>
    have hw:w=true:=hw
    subst hw
    cases s' with
    | ok f' o' n' =>
     dsimp only[RS.isOk,cond_true,cond_false,rdS] at k1 ⊢
     generalize by8 bs=es at *
     refine wpV_ofH (by ((try(conv=>lhs;cbv));(repeat((first|(rewrite[k1]));(try(conv=>lhs;cbv))));(exact rfl))) ?_
     (show finV _ _ _=some _;((try(conv=>lhs;cbv));(try(with_reducible rfl)));(try rfl))
    | er f' e' =>
     dsimp only[RS.isOk,cond_true,cond_false,rdS] at k1 ⊢
     generalize by8 bs=es at *
     refine wpV_ofH (by ((try(conv=>lhs;cbv));(repeat((first|(rewrite[k1]));(try(conv=>lhs;cbv))));(exact rfl))) ?_
     (show finV _ _ _=some _;((try(conv=>lhs;cbv));(try(with_reducible rfl)));(try rfl))
   | er f e =>
    have hw:w=false:=hw
    subst hw
    simp only[rawS,Prod.mk.injEq] at hr
    obtain⟨_,rfl⟩:=hr
    dsimp only[RS.isOk,cond_true,cond_false,rdS] at k1 ⊢
    refine wpV_ofH (by ((try(conv=>lhs;cbv));(repeat((first|(rewrite[k1]));(try(conv=>lhs;cbv))));(exact rfl))) ?_
    (show finV _ _ _=some _;((try(conv=>lhs;cbv));(try(with_reducible rfl)));(try rfl))
  | some x =>
   obtain⟨hx1,f',o',n',rfl⟩:=hx x s' hr
   have hw:=hw1 x _ hr
   subst hw
   cases s with
   | er f e=>simp[rawS] at hr
   | ok f o n =>
    have s1:A .ar .shr .u64 (x:Int) 63=((x / 2 ^ 63:Nat):Int):=shrN hA (k:=.u64) (j:=63) rfl (by decide)
    have k3:=n87 (by8 bs) (.ok f' o' n') (e:=5) (by decide) (by rw[hes];exact hf) 12 (by omega)
    rw[← hcall] at k3
    have c1:x<2 ^ 63→A .ck .i64 (x:Int)=(x:Int):=fun h=>ckI64 hA h
    dsimp only[rawF,RS.isOk,cond_true,cond_false,rdS,RS.fail] at k1 k3 ⊢
    by_cases h1:2 ^ 63≤x
    ·have e1:((x / 2 ^ 63:Nat):Int)=1:=by omega
     rw[e1] at s1
     rw[if_pos (.inl h1)]
     have hz:((0:Nat):Int)=0:=rfl
     rw[hz]
     dsimp only[rdS,cond_true]
     clear c1 e1
     generalize by8 bs=es at *
     generalize (x:Int)=X at *
     refine wpV_ofH (by ((try(conv=>lhs;cbv));(repeat((first|(rewrite[k1])|(rewrite[s1])|(rewrite[k3])|(rewrite[K.nn];rotate_left;focus((try simp only[K.df,B.df,true_and,and_true])<;>omega))|(rewrite[K.eqT];rotate_left;focus((try simp only[K.df,B.df,true_and,and_true])<;>omega)));(try(conv=>lhs;cbv))));(exact rfl))) ?_
     (show finV _ _ _=some _;((try(conv=>lhs;cbv));(try(with_reducible rfl)));(try rfl))
    ·have c1:=c1 (by omega)
     have e1:((x / 2 ^ 63:Nat):Int)=0:=by omega
     rw[e1] at s1
     clear e1
     by_cases h2:most<(x:Int)
     ·rw[if_pos (.inr h2)]
      have hz:((0:Nat):Int)=0:=rfl
      rw[hz]
      dsimp only[rdS,cond_true]
      generalize by8 bs=es at *
      generalize (x:Int)=X at *
      refine wpV_ofH (by ((try(conv=>lhs;cbv));(repeat((first|(rewrite[k1])|(rewrite[s1])|(rewrite[k3])|(rewrite[c1])|(rewrite[K.nn];rotate_left;focus((try simp only[K.df,B.df,true_and,and_true])<;>omega))|(rewrite[K.gtT];rotate_left;focus((try simp only[K.df,B.df,true_and,and_true])<;>omega))|(rewrite[K.eqF];rotate_left;focus((try simp only[K.df,B.df,true_and,and_true])<;>omega)));(try(conv=>lhs;cbv))));(exact rfl))) ?_
      (show finV _ _ _=some _;((try(conv=>lhs;cbv));(try(with_reducible rfl)));(try rfl))
     ·rw[if_neg (by omega)]
      dsimp only[rdS,cond_true]
      generalize by8 bs=es at *
      generalize (x:Int)=X at *
      refine wpV_ofH (by ((try(conv=>lhs;cbv));(repeat((first|(rewrite[k1])|(rewrite[s1])|(rewrite[k3])|(rewrite[c1])|(rewrite[K.nn];rotate_left;focus((try simp only[K.df,B.df,true_and,and_true])<;>omega))|(rewrite[K.gtF];rotate_left;focus((try simp only[K.df,B.df,true_and,and_true])<;>omega))|(rewrite[K.eqF];rotate_left;focus((try simp only[K.df,B.df,true_and,and_true])<;>omega)));(try(conv=>lhs;cbv))));(exact rfl))) ?_
      (show finV _ _ _=some _;((try(conv=>lhs;cbv));(try(with_reducible rfl)));(try rfl))
def intsI (l:List Int):List (List IV):=l.map fun z=>[.int .i64 z]
def risGo (bs:List Nat) (top:Int):Nat→Nat→List Int→RS→Option (List Int) × RS
 | 0,_,l,s=>(some l,s)
 | n+1,p,l,s=>if (numS bs (top - p) s).2.err=0 then risGo bs top n (p+(numS bs (top - p) s).1+1) (l++[((p+(numS bs (top - p) s).1:Nat):Int)]) (numS bs (top - p) s).2 else (none,(numS bs (top - p) s).2)
def risS (bs:List Nat) (many top:Int) (s:RS):Option (List Int) × RS:=risGo bs top (numS bs many s).1 0 [] (numS bs many s).2
theorem numS_er {bs:List Nat} {most:Int} {s:RS} (h:(numS bs most s).2.err≠0):(numS bs most s).1=0:=by
 unfold numS at h ⊢
 split
 ·rfl
 ·rename_i heq
  rw[heq] at h
  dsimp only at h
  split
  ·rfl
  ·rename_i hc
   rw[if_neg hc] at h
   cases s with
   | er f e=>simp[rawS] at heq
   | ok f o n =>
    simp only[rawS] at heq
    split at heq
    ·cases heq
    ·split at heq
     ·cases heq
     ·split at heq
      ·simp only[Prod.mk.injEq,Option.some.injEq] at heq
       obtain⟨rfl,rfl⟩:=heq
       exact absurd rfl h
      ·cases heq
theorem fail_isOk (s:RS) (e:Int):(s.fail e).isOk=false:=by cases s<;>rfl
theorem numS_ok {bs:List Nat} {most:Int} {s:RS} (h:(numS bs most s).2.isOk=true):((numS bs most s).1:Int)≤most:=by
 unfold numS at h ⊢
 split
 ·rename_i heq
  rw[heq] at h
  dsimp only at h
  cases s with
  | er f e =>
   simp only[rawS,Prod.mk.injEq] at heq
   obtain⟨_,rfl⟩:=heq
   cases h
  | ok f o n =>
   simp only[rawS] at heq
   split at heq
   ·simp only[Prod.mk.injEq] at heq;obtain⟨_,rfl⟩:=heq;cases h
   ·split at heq
    ·simp only[Prod.mk.injEq] at heq;obtain⟨_,rfl⟩:=heq;cases h
    ·split at heq
     ·cases heq
     ·simp only[Prod.mk.injEq] at heq;obtain⟨_,rfl⟩:=heq;cases h
 ·rename_i heq
  rw[heq] at h
  dsimp only at h
  split
  ·rename_i hc
   rw[if_pos hc] at h
   dsimp only at h
   rw[fail_isOk] at h
   cases h
  ·dsimp only;omega
theorem risGo_fits {bs:List Nat} {top:Int}:∀ {n p:Nat} {l:List Int} {s:RS},s.fits bs.length→(risGo bs top n p l s).2.fits bs.length
 | 0,_,_,_,h=>h
 | n+1,p,l,s,h=>by
  unfold risGo
  split
  ·exact risGo_fits (numS_fits h)
  ·exact numS_fits h
/-- What a list of numbers that rise comes to. -/
def risF (b:Nat):Option (List Int)→FV
 | none=>.one (.iv (.sl true 0 []))
 | some l=>.one (.slo b 0 l.length)
def risB:Option (List Int)→List Blk
 | none=>[]
 | some l=>[.arr false false 1 (intsI l)]
theorem n88 (bs:List Nat) (hb:∀ b,b∈bs→b<256) {many top:Int} (hm:many≤1000) (ht:0≤top) (ht':top<4611686018427387904) (f:Bool) (o n:Nat) (hs:o+n=bs.length) :
  Pn 1100 88 [rp,i64 many,i64 top] (rdS true (by8 bs) (.ok f o n)) (risF 2 (risS bs many top (.ok f o n)).1) (rdS true (by8 bs) (risS bs many top (.ok f o n)).2++risB (risS bs many top (.ok f o n)).1):=by
 refine playN 1099 rfl rfl fun A call hA hcall=>?_
 obtain⟨pl,mi,ml,nt,tn,ad,sb,K⟩:=kit hA
 obtain⟨E,ix,sn,ll,cc,sg,I⟩:=lkit hA K (0:Int) (fun z=>[.int .i64 z]) 8
 have kn:∀ (J:Int) (s:RS),s.fits bs.length→call 44 [rp,i64 J] (rdS s.isOk (by8 bs) s)=some (i64 (numS bs J s).1,rdS s.isOk (by8 bs) (numS bs J s).2):=fun J s h=>by rw[hcall];exact n44 bs hb J s h 1099 (by omega)
 have ke:∀ (s:RS),call 89 [rp] (rdS s.isOk (by8 bs) s)=some (i64 s.err,rdS s.isOk (by8 bs) s):=fun s=>by rw[hcall];exact n89 _ s 1099 (by omega)
 have k1:=kn many (.ok f o n) hs
 have hf:=numS_fits (most:=many) (s:=.ok f o n) hs
 have hr:=numS_er (bs:=bs) (most:=many) (s:=.ok f o n)
 have hlt:=numS_lt bs many (.ok f o n)
 have hE0:E []=[]:=by rw[I.E_];rfl
 unfold risS
 generalize hN:numS bs many (.ok f o n)=N at *
 obtain⟨m,s1⟩:=N
 dsimp only at hf hr hlt k1 ⊢
 cases s1 with
 | er f1 e1 =>
  have hm0:m=0:=hr hf
  subst hm0
  dsimp only[risGo,risF,risB,RS.isOk,cond_true,cond_false,rdS,List.length_nil] at k1 ⊢
  have hz:((0:Nat):Int)=0:=rfl
  rw[hz] at k1
  rw[show intsI []=[] from rfl]
  generalize by8 bs=es at *
  refine wpV_ofH (by ((try(conv=>lhs;cbv));(repeat((first|(rewrite[k1])|(rewrite[K.ltF];rotate_left;focus((try simp only[K.df,I.df,true_and,and_true])<;>omega)));(try(conv=>lhs;cbv))));(exact rfl))) ?_
  (show finV _ _ _=some _;((try(conv=>lhs;cbv));(try(with_reducible rfl)));(try rfl))
 | ok f1 o1 n1 =>
  obtain⟨M,hM⟩:∃ M:Int,M=m:=⟨_,rfl⟩
  generalize hR:risGo bs top m 0 [] (.ok f1 o1 n1)=R
  have hme:m≤1000:=by omega
  dsimp only[RS.isOk,cond_true,cond_false,rdS] at k1 ⊢
  rw[← hM] at k1
  obtain⟨es,hes⟩:∃ es,es=by8 bs:=⟨_,rfl⟩
  rw[← hes] at k1 kn ke ⊢
  have hEI:∀ l,intsI l=E l:=fun l=>by rw[I.E_];rfl
  clear hN
  apply wpV_seq;refine wpV_ofH (by ((try(conv=>lhs;cbv));(exact rfl))) ?_
  apply wpV_seq;refine wpV_ofH (by ((try(conv=>lhs;cbv));(repeat((first|(rewrite[k1]));(try(conv=>lhs;cbv))));(exact rfl))) ?_
  apply wpV_seq;refine wpV_ofH (by ((try(conv=>lhs;cbv));(exact rfl))) ?_
  apply wpV_seq;refine wpV_ofH (by ((try(conv=>lhs;cbv));(exact rfl))) ?_
  apply wpV_seq;apply wpV_seq;refine wpV_ofH (by ((try(conv=>lhs;cbv));(exact rfl))) ?_
  apply wpV_block
  refine wpV_loop m (fun i st=>∃ (f':Bool) (o' n' p:Nat) (l:List Int) (Z J:Int) (ln:Nat),st=⟨2,[rp,u,i64 top,u,u,u,u,u,.one (.slo 2 0 ln),i64 Z,u,u,u,i64 M,i64 J,u,u,u,u,u,u,u,u,u,u,u,u,u,u,u,u,u,u,u,u],[.var false [.slo 1 o' n',.iv (.int .i64 0),.iv (.bool true)],.arr f' false 1 es,.arr false false 1 (E l)]⟩∧J=i∧Z=(p:Int) - 1∧ln=l.length∧l.length=i∧o'+n'=bs.length∧(p:Int)≤top+1∧risGo bs top (m - i) p l (.ok f' o' n')=R) (by omega) (by ((try(conv=>lhs;cbv));(try(with_reducible rfl)))) ⟨f1,o1,n1,0,[],-1,0,0,by rw[hE0],rfl,rfl,rfl,rfl,hf,by omega,hR⟩ ?_
  rintro i hi st ⟨f',o',n',p,l,Z,J,ln,rfl,hJ,hZ,hln,hli,hfit,hp,hgo⟩
  by_cases him:i<m
  ·rw[show m - i=(m - i - 1)+1 by omega,risGo] at hgo
   have k2:=kn (top - p) (.ok f' o' n') hfit
   have hf2:=numS_fits (most:=top - p) (s:=.ok f' o' n') hfit
   have hlt2:=numS_lt bs (top - p) (.ok f' o' n')
   have hr2:=numS_er (bs:=bs) (most:=top - p) (s:=.ok f' o' n')
   have hk2:=numS_ok (bs:=bs) (most:=top - p) (s:=.ok f' o' n')
   generalize numS bs (top - p) (.ok f' o' n')=N2 at *
   obtain⟨x,s2⟩:=N2
   dsimp only at hf2 hlt2 k2 hgo hr2 hk2
   obtain⟨U,hU⟩:∃ U:Int,U=top - p:=⟨_,rfl⟩
   obtain⟨X,hX⟩:∃ X:Int,X=x:=⟨_,rfl⟩
   rw[← hU,← hX] at k2
   have e1:mi (mi top Z) 1=U:=by rw[K.mi_,K.mi_];omega
   cases s2 with
   | ok f2 o2 n2 =>
    have k3:=ke (.ok f2 o2 n2)
    rw[if_pos (show (RS.ok f2 o2 n2).err=0 from rfl)] at hgo
    have hf2:o2+n2=bs.length:=hf2
    dsimp only[RS.isOk,cond_true,cond_false,rdS,RS.err] at k2 k3
    have hx:(x:Int)≤top - p:=hk2 rfl
    ·refine wpV_ofH (by ((try(conv=>lhs;cbv));(repeat((first|(rewrite[e1])|(rewrite[k2])|(rewrite[k3])|(rewrite[K.addN])|(rewrite[K.subl];rotate_left;focus((try simp only[K.df,I.df,true_and,and_true])<;>omega))|(rewrite[K.addr];rotate_left;focus((try simp only[K.df,I.df,true_and,and_true])<;>omega))|(rewrite[K.add];rotate_left;focus((try simp only[K.df,I.df,true_and,and_true])<;>omega))|(rewrite[K.sub];rotate_left;focus((try simp only[K.df,I.df,true_and,and_true])<;>omega))|(rewrite[I.ln])|(rewrite[I.apo];rotate_left;focus((try simp only[K.df,I.df,true_and,and_true])<;>omega))|(rewrite[K.ltT];rotate_left;focus((try simp only[K.df,I.df,true_and,and_true])<;>omega))|(rewrite[K.mxL];rotate_left;focus((try simp only[K.df,I.df,true_and,and_true])<;>omega))|(rewrite[K.neF];rotate_left;focus((try simp only[K.df,I.df,true_and,and_true])<;>omega)));(try(conv=>lhs;cbv))));(exact rfl))) ?_
     refine headQ_ofH (by ((try(conv=>lhs;cbv));(exact rfl))) ?_
     refine⟨him,f2,o2,n2,p+x+1,_,_,_,_,rfl,?_,?_,?_,?_,hf2,?_,?_⟩
     ·rw[K.pl_];omega
     ·rw[K.pl_,K.pl_];omega
     ·rw[I.ll_]
     ·rw[I.sn_,List.length_append,hli];rfl
     ·omega
     ·rw[show m - (i+1)=m - i - 1 by omega,I.sn_,K.pl_,K.pl_,show Z+(1+X)=((p+x:Nat):Int) by omega]
      exact hgo
   | er f2 e2 =>
    have hf2:e2≠0:=hf2
    have k3:=ke (.er f2 e2)
    have hx0:x=0:=hr2 hf2
    rw[if_neg (show ¬ (RS.er f2 e2).err=0 from hf2)] at hgo
    rw[← hgo]
    dsimp only[RS.isOk,cond_true,cond_false,rdS,RS.err,risF,risB] at k2 k3 ⊢
    refine wpV_ofH (by ((try(conv=>lhs;cbv));(repeat((first|(rewrite[e1])|(rewrite[k2])|(rewrite[k3])|(rewrite[K.subl];rotate_left;focus((try simp only[K.df,I.df,true_and,and_true])<;>omega))|(rewrite[K.addr];rotate_left;focus((try simp only[K.df,I.df,true_and,and_true])<;>omega))|(rewrite[K.add];rotate_left;focus((try simp only[K.df,I.df,true_and,and_true])<;>omega))|(rewrite[K.sub];rotate_left;focus((try simp only[K.df,I.df,true_and,and_true])<;>omega))|(rewrite[K.ltT];rotate_left;focus((try simp only[K.df,I.df,true_and,and_true])<;>omega))|(rewrite[K.neT];rotate_left;focus((try simp only[K.df,I.df,true_and,and_true])<;>omega))|(rewrite[K.mxL];rotate_left;focus((try simp only[K.df,I.df,true_and,and_true])<;>omega)));(try(conv=>lhs;cbv))));(exact rfl))) ?_
    show finQ _ _ _ _ _
    (show finV _ _ _=some _;((try(conv=>lhs;cbv));(try(with_reducible rfl)));(try rfl))
  ·obtain rfl:i=m:=by omega
   rw[Nat.sub_self,risGo] at hgo
   rw[← hgo]
   dsimp only[RS.isOk,cond_true,cond_false,rdS,RS.err,risF,risB]
   rw[hEI,← hln]
   refine wpV_ofH (by ((try(conv=>lhs;cbv));(repeat((first|(rewrite[K.ltF];rotate_left;focus((try simp only[K.df,I.df,true_and,and_true])<;>omega)));(try(conv=>lhs;cbv))));(exact rfl))) ?_
   show wpV _ _ _ _ _ _
   refine wpV_ofH (by ((try(conv=>lhs;cbv));(exact rfl))) ?_
   (show finV _ _ _=some _;((try(conv=>lhs;cbv));(try(with_reducible rfl)));(try rfl))
end Go.Proofs.Ytlljgefgbglmbaa
