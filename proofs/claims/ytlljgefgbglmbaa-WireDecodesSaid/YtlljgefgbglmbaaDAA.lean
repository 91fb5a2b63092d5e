/- Writes and states, which may be: gone through. -/
import Derived.Test.YtlljgefgbglmbaaEVF
set_option linter.unusedSimpArgs false
set_option linter.unusedVariables false
set_option maxRecDepth 100000
set_option maxHeartbeats 1000000
set_option cbv.maxSteps 10000000
namespace Go.Proofs.Ytlljgefgbglmbaa
open Go GoV

structure Wr where
 d:Int × Int
 t:Int
 doc:ByteArray
 f:Int
 txt:ByteArray
def zeroWr:Wr:=⟨(0,0),0,⟨#[]⟩,0,⟨#[]⟩⟩
def wI (w:Wr):List IV:=[.int .i64 w.d.1,.int .i64 w.d.2,.int .i64 w.t,.str w.doc,.int .i64 w.f,.str w.txt]
abbrev wF (w:Wr):FV:=.agg [.iv (.int .i64 w.d.1),.iv (.int .i64 w.d.2),.iv (.int .i64 w.t),.iv (.str w.doc),.iv (.int .i64 w.f),.iv (.str w.txt)]
def eWs (l:List Wr):List (List IV):=l.map wI
abbrev stF (b:Bool) (z:Nat) (v:List Int) (l:List Wr):FV:=.agg [.iv (.arr 64 (vec v)),.iv (.sl b z (eWs l))]
/-! ### Texts held against each other, and the order of writes -/
def cmpS (a b:ByteArray):Int:=if Op.bytesLess a.toList b.toList=true then -1 else if rScmp .gtr a b=true then 1 else 0
theorem n117 (s:ByteArray):Pn 1 117 [.one (.iv (.str s))] [] (bl false) []:=by
 refine playN 0 rfl rfl fun A call hA hcall=>?_
 obtain⟨pl,mi,ml,nt,tn,ad,sb,K⟩:=kit hA
 obtain⟨EX,ix,sn,ll,cc,sg,X⟩:=lkit hA K (0:Int) (fun z=>[.int .i64 z]) 8
 obtain⟨W,gx,st',V⟩:=rkit hA
 obtain⟨zs,hzs⟩:∃ zs:ByteArray→Nat,∀ s,zs s=s.size:=⟨_,fun _=>rfl⟩
 have s1:A .scmp .neq s s=false:=by rw[hA];show (!(s.toList==s.toList))=false;simp
 refine wpV_ofH (by ((try(conv=>lhs;cbv));(repeat((first|(rewrite[s1]));(try(conv=>lhs;cbv))));(exact rfl))) ?_
 (show finV _ _ _=some _;((try(conv=>lhs;cbv));(try(with_reducible rfl)));(try rfl))
theorem n108 (x y:ByteArray):Pn 2 108 [.one (.iv (.str x)),.one (.iv (.str y))] [] (i64 (cmpS x y)) []:=by
 refine playN 1 rfl rfl fun A call hA hcall=>?_
 obtain⟨pl,mi,ml,nt,tn,ad,sb,K⟩:=kit hA
 obtain⟨EX,ix,sn,ll,cc,sg,X⟩:=lkit hA K (0:Int) (fun z=>[.int .i64 z]) 8
 obtain⟨W,gx,st',V⟩:=rkit hA
 obtain⟨zs,hzs⟩:∃ zs:ByteArray→Nat,∀ s,zs s=s.size:=⟨_,fun _=>rfl⟩
 have k1:=n117 x 1 (by omega)
 have k2:=n117 y 1 (by omega)
 rw[← hcall] at k1 k2
 have s1:A .scmp .lss x y=Op.bytesLess x.toList y.toList:=by rw[hA];rfl
 have s2:A .scmp .gtr x y=rScmp .gtr x y:=by rw[hA];rfl
 cases hp:Op.bytesLess x.toList y.toList<;>cases hq:rScmp .gtr x y
 all_goals
  rw[hp] at s1
  rw[hq] at s2
  simp only[cmpS,hp,hq,Bool.false_eq_true,if_true,if_false,eq_self]
  refine wpV_ofH (by ((try(conv=>lhs;cbv));(repeat((first|(rewrite[k1])|(rewrite[k2])|(rewrite[s1])|(rewrite[s2]));(try(conv=>lhs;cbv))));(exact rfl))) ?_
  (show finV _ _ _=some _;((try(conv=>lhs;cbv));(try(with_reducible rfl)));(try rfl))
def ordW (a b:Wr):Int:=orL [cmpS a.doc b.doc,cmpI a.f b.f,cmpN a.d b.d]
theorem n76 (a b:Wr):Pn 1004 76 [wF a,wF b] [] (i64 (ordW a b)) []:=by
 refine playN 1003 rfl rfl fun A call hA hcall=>?_
 obtain⟨pl,mi,ml,nt,tn,ad,sb,K⟩:=kit hA
 obtain⟨EX,ix,sn,ll,cc,sg,X⟩:=lkit hA K (0:Int) (fun z=>[.int .i64 z]) 8
 obtain⟨W,gx,st',V⟩:=rkit hA
 obtain⟨zs,hzs⟩:∃ zs:ByteArray→Nat,∀ s,zs s=s.size:=⟨_,fun _=>rfl⟩
 obtain⟨⟨ar,an⟩,at',ad',af,ax⟩:=a
 obtain⟨⟨br,bn⟩,bt',bd,bf,bx⟩:=b
 have k1:=n108 ad' bd 1003 (by omega)
 have k2:=n109 af bf 1003 (by omega)
 have k3:=n104 ar an br bn 1003 (by omega)
 have k4:=n107 [cmpS ad' bd,cmpI af bf,cmpN (ar,an) (br,bn)] true (by simp) 1003 (by omega)
 rw[← hcall] at k1 k2 k3 k4
 simp only[intsI,List.map_cons,List.map_nil] at k4
 unfold ordW
 dsimp only[wF,dotF] at *
 generalize orL _=w at *
 generalize cmpS ad' bd=x at *
 generalize cmpI af bf=y at *
 generalize cmpN (ar,an) (br,bn)=u at *
 refine wpV_ofH (by ((try(conv=>lhs;cbv));(repeat((first|(rewrite[k1])|(rewrite[k2])|(rewrite[k3])|(rewrite[k4]));(try(conv=>lhs;cbv))));(exact rfl))) ?_
 (show finV _ _ _=some _;((try(conv=>lhs;cbv));(try(with_reducible rfl)));(try rfl))
/-! ### Writes and states that may be -/
def hasB (v:List Int) (d:Int × Int):Bool:=validB d&&decide (d.2≤v.getD d.1.toNat 0)
theorem n106 {v:List Int} (hv:v.length=64) (r n:Int):Pn 2 106 [vecF v,dotF (r,n)] [] (bl (hasB v (r,n))) []:=by
 refine playN 1 rfl rfl fun A call hA hcall=>?_
 obtain⟨pl,mi,ml,nt,tn,ad,sb,K⟩:=kit hA
 obtain⟨EX,ix,sn,ll,cc,sg,X⟩:=lkit hA K (0:Int) (fun z=>[.int .i64 z]) 8
 obtain⟨W,gx,st',V⟩:=rkit hA
 obtain⟨zs,hzs⟩:∃ zs:ByteArray→Nat,∀ s,zs s=s.size:=⟨_,fun _=>rfl⟩
 have k1:=n71 r n 1 (by omega)
 rw[← hcall] at k1
 have hvW:vec v=W v:=by rw[V.W_];rfl
 dsimp only[vecF,dotF] at *
 rw[hvW]
 unfold hasB
 rcases valid_cases r n with ⟨h,h1⟩|⟨h,h1⟩
 ·rw[h] at k1
  rw[h,Bool.false_and]
  refine wpV_ofH (by ((try(conv=>lhs;cbv));(repeat((first|(rewrite[k1]));(try(conv=>lhs;cbv))));(exact rfl))) ?_
  (show finV _ _ _=some _;((try(conv=>lhs;cbv));(try(with_reducible rfl)));(try rfl))
 ·rw[h] at k1
  rw[h,Bool.true_and,show v.getD (r,n).1.toNat 0=gx v r by rw[V.gx_]]
  dsimp only
  by_cases h2:n≤gx v r
  ·have cl:=K.leT h2
   rw[decide_eq_true h2]
   refine wpV_ofH (by ((try(conv=>lhs;cbv));(repeat((first|(rewrite[k1])|(rewrite[K.at_];rotate_left;focus((try simp only[K.df,X.df,V.df,hzs,true_and,and_true])<;>omega))|(rewrite[V.getc];rotate_left;focus((try simp only[K.df,X.df,V.df,hzs,true_and,and_true])<;>omega)));(try(conv=>lhs;cbv))));(exact rfl))) ?_
   (show finV _ _ _=some _;((try(conv=>lhs;cbv));(repeat((first|(rewrite[cl]));(try(conv=>lhs;cbv))));(try(with_reducible rfl)));(try rfl))
  ·have cl:=K.leF (show gx v r<n by omega)
   rw[decide_eq_false h2]
   refine wpV_ofH (by ((try(conv=>lhs;cbv));(repeat((first|(rewrite[k1])|(rewrite[K.at_];rotate_left;focus((try simp only[K.df,X.df,V.df,hzs,true_and,and_true])<;>omega))|(rewrite[V.getc];rotate_left;focus((try simp only[K.df,X.df,V.df,hzs,true_and,and_true])<;>omega)));(try(conv=>lhs;cbv))));(exact rfl))) ?_
   (show finV _ _ _=some _;((try(conv=>lhs;cbv));(repeat((first|(rewrite[cl]));(try(conv=>lhs;cbv))));(try(with_reducible rfl)));(try rfl))
def goodW (v:List Int) (w:Wr):Bool:=decide (chk ⟨w.d,w.t,1,w.doc,w.f,w.txt,[]⟩=0)&&hasB v w.d
theorem n75 {v:List Int} (hv:v.length=64) (w:Wr) (hd:w.doc.size≤1000000000000000):∃ k,∀ b z l,(z=6∨z=0∧l=[])→Pn k 75 [stF b z v l,wF w] [] (bl (goodW v w)) []:=by
 obtain⟨k,hk⟩:=n33 ⟨w.d,w.t,1,w.doc,w.f,w.txt,[]⟩ hd (by simp)
 refine⟨k+3,fun b z l hz=>playN (k+2) rfl rfl fun A call hA hcall=>?_⟩
 obtain⟨pl,mi,ml,nt,tn,ad,sb,K⟩:=kit hA
 obtain⟨EX,ix,sn,ll,cc,sg,X⟩:=lkit hA K zeroWr (fun w=>[.int .i64 w.d.1,.int .i64 w.d.2,.int .i64 w.t,.str w.doc,.int .i64 w.f,.str w.txt]) 64
 obtain⟨W,gx,st',V⟩:=rkit hA
 obtain⟨zs,hzs⟩:∃ zs:ByteArray→Nat,∀ s,zs s=s.size:=⟨_,fun _=>rfl⟩
 obtain⟨⟨r,n⟩,t,doc,f,txt⟩:=w
 have k1:=hk true 0 (.inr ⟨rfl,rfl⟩) (k+2) (by omega)
 have k2:=n106 hv r n (k+2) (by omega)
 rw[← hcall] at k1 k2
 have hvW:vec v=W v:=by rw[V.W_];rfl
 have hEX:eWs l=EX l:=by rw[X.E_];rfl
 unfold goodW
 dsimp only[stF,wF,vecF,dotF,evF] at *
 rw[show eDs []=[] from rfl] at k1
 rw[hvW] at k2 ⊢
 rw[hEX]
 generalize chk _=c at *
 generalize hasB v (r,n)=q at *
 by_cases hc:c=0
 ·rw[decide_eq_true hc,Bool.true_and]
  refine wpV_ofH (by ((try(conv=>lhs;cbv));(repeat((first|(rewrite[k1])|(rewrite[k2])|(rewrite[K.eqT];rotate_left;focus((try simp only[K.df,X.df,V.df,hzs,true_and,and_true])<;>omega)));(try(conv=>lhs;cbv))));(exact rfl))) ?_
  (show finV _ _ _=some _;((try(conv=>lhs;cbv));(try(with_reducible rfl)));(try rfl))
 ·rw[decide_eq_false hc,Bool.false_and]
  refine wpV_ofH (by ((try(conv=>lhs;cbv));(repeat((first|(rewrite[k1])|(rewrite[K.eqF];rotate_left;focus((try simp only[K.df,X.df,V.df,hzs,true_and,and_true])<;>omega)));(try(conv=>lhs;cbv))));(exact rfl))) ?_
  (show finV _ _ _=some _;((try(conv=>lhs;cbv));(try(with_reducible rfl)));(try rfl))
def cnGo (v:List Int) (l:List Wr):Nat→Nat→Bool
 | 0,_=>true
 | k+1,i=>if goodW v (l.getD i zeroWr)=false∨0<i∧0≤ordW (l.getD (i - 1) zeroWr) (l.getD i zeroWr) then false else cnGo v l k (i+1)
def canB (v:List Int) (l:List Wr):Bool:=goodB v&&decide (l.length≤4096)&&cnGo v l l.length 0
theorem n75s {v:List Int} (hv:v.length=64):∀ l:List Wr,(∀ w,w∈l→w.doc.size≤1000000000000000)→∃ k,∀ w,w∈l→∀ b z m,(z=6∨z=0∧m=[])→Pn k 75 [stF b z v m,wF w] [] (bl (goodW v w)) []
 | [],_=>⟨0,fun w h=>by simp at h⟩
 | x::r,h=>by
  obtain⟨k1,h1⟩:=n75 hv x (h x (by simp))
  obtain⟨k2,h2⟩:=n75s hv r fun w hw=>h w (by simp[hw])
  refine⟨k1+k2,fun w hw b z m hz n hn=>?_⟩
  rcases List.mem_cons.1 hw with rfl|hw
  ·exact h1 b z m hz n (by omega)
  ·exact h2 w hw b z m hz n (by omega)
theorem n34 {v:List Int} (hv:v.length=64) (l:List Wr) (hl:∀ w,w∈l→w.doc.size≤1000000000000000):∃ k,∀ b z,(z=6∨z=0∧l=[])→Pn k 34 [stF b z v l] [] (bl (canB v l)) []:=by
 obtain⟨kg,hkg⟩:=n32 hv
 obtain⟨kw,hkw⟩:=n75s hv l hl
 obtain⟨N,hN⟩:∃ N,N=kg+kw+l.length+2000:=⟨_,rfl⟩
 refine⟨N+1,fun b z hz=>playN N rfl rfl fun A call hA hcall=>?_⟩
 obtain⟨pl,mi,ml,nt,tn,ad,sb,K⟩:=kit hA
 obtain⟨EX,ix,sn,ll,cc,sg,X⟩:=lkit hA K zeroWr (fun w=>[.int .i64 w.d.1,.int .i64 w.d.2,.int .i64 w.t,.str w.doc,.int .i64 w.f,.str w.txt]) 64
 obtain⟨W,gx,st',V⟩:=rkit hA
 obtain⟨zs,hzs⟩:∃ zs:ByteArray→Nat,∀ s,zs s=s.size:=⟨_,fun _=>rfl⟩
 have hvW:vec v=W v:=by rw[V.W_];rfl
 have hEX:eWs l=EX l:=by rw[X.E_];rfl
 have k32:call 32 [vecF v] []=some (bl (goodB v),[]):=by rw[hcall];exact hkg N (by omega)
 have k75:∀ w,w∈l→call 75 [stF b z v l,wF w] []=some (bl (goodW v w),[]):=fun w hw=>by rw[hcall];exact hkw w hw b z l hz N (by omega)
 have k76:∀ x y,call 76 [wF x,wF y] []=some (i64 (ordW x y),[]):=fun x y=>by rw[hcall];exact n76 x y N (by omega)
 dsimp only[stF,vecF] at *
 rw[hvW] at k32 k75 ⊢
 rw[hEX] at k75 ⊢
 obtain⟨M,hM⟩:∃ M:Int,M=nt (ll l):=⟨_,rfl⟩
 have hMl:M=l.length:=by rw[hM,K.nt_,X.ll_]
 have ln:A .len (EX l)=M:=by rw[X.len,hM]
 unfold canB
 generalize goodB v=g at *
 cases g with
 | false =>
  rw[Bool.false_and,Bool.false_and]
  refine wpV_ofH (by ((try(conv=>lhs;cbv));(repeat((first|(rewrite[k32]));(try(conv=>lhs;cbv))));(exact rfl))) ?_
  (show finV _ _ _=some _;((try(conv=>lhs;cbv));(try(with_reducible rfl)));(try rfl))
 | true =>
  rw[Bool.true_and]
  by_cases h4:l.length≤4096
  ·rw[decide_eq_true h4,Bool.true_and]
   generalize hR:cnGo v l l.length 0=R
   apply wpV_seq;refine wpV_ofH (by ((try(conv=>lhs;cbv));(exact rfl))) ?_
   apply wpV_seq;apply wpV_seq;refine wpV_ofH (by ((try(conv=>lhs;cbv));(repeat((first|(rewrite[k32])|(rewrite[ln])|(rewrite[K.gtF];rotate_left;focus((try simp only[K.df,X.df,V.df,hzs,true_and,and_true])<;>omega)));(try(conv=>lhs;cbv))));(exact rfl))) ?_
   apply wpV_of (by rfl);show wpV _ _ _ _ _ _
   apply wpV_seq;apply wpV_seq;refine wpV_ofH (by ((try(conv=>lhs;cbv));(repeat((first|(rewrite[ln]));(try(conv=>lhs;cbv))));(exact rfl))) ?_
   apply wpV_block
   refine wpV_loop l.length (fun i st=>∃ J:Int,st=⟨0,(u::.one (.ptr 0 0)::u::u::u::u::u::u::u::u::u::u::u::u::u::u::.one (.iv (.sl b z (EX l)))::i64 M::i64 J::u::u::u::u::u::u::u::u::u::u::u::u::u::u::u::u::u::u::u::u::u::u::u::u::[]),[.var false [.iv (.arr 64 (W v)),.iv (.sl b z (EX l))]]⟩∧J=i∧cnGo v l (l.length - i) i=R) (by omega) (by ((try(conv=>lhs;cbv));(try(with_reducible rfl)))) ⟨0,rfl,rfl,hR⟩ ?_
   rintro i hi st ⟨J,rfl,hJ,hgo⟩
   by_cases him:i<l.length
   ·obtain rfl:z=6:=by
     rcases hz with h|⟨h,h2⟩
     ·exact h
     ·rw[h2] at him;simp at him
    rw[show l.length - i=(l.length - i - 1)+1 by omega,cnGo] at hgo
    have g1:=X.get (l:=l) (J:=J) (by omega)
    have hx:ix l J=l.getD i zeroWr:=by rw[X.ix_,hJ];rfl
    have hm:ix l J∈l:=by rw[hx,List.getD_eq_getElem?_getD,List.getElem?_eq_getElem him];exact List.getElem_mem _
    rw[← hx] at hgo
    have kw:=k75 _ hm
    by_cases hi0:i=0
    ·generalize ix l J=w at *
     obtain⟨⟨r,n⟩,t,doc,f,txt⟩:=w
     dsimp only[wF] at *
     generalize goodW v _=q at *
     cases q with
     | false =>
      rw[if_pos (.inl rfl)] at hgo
      subst hgo
      refine wpV_ofH (by ((try(conv=>lhs;cbv));(repeat((first|(rewrite[g1])|(rewrite[kw])|(rewrite[K.ltT];rotate_left;focus((try simp only[K.df,X.df,V.df,hzs,true_and,and_true])<;>omega)));(try(conv=>lhs;cbv))));(exact rfl))) ?_
      show finQ _ _ _ _ _
      (show finV _ _ _=some _;((try(conv=>lhs;cbv));(try(with_reducible rfl)));(try rfl))
     | true =>
      rw[if_neg (by rintro (h|⟨h,_⟩);cases h;omega)] at hgo
      refine wpV_ofH (by ((try(conv=>lhs;cbv));(repeat((first|(rewrite[g1])|(rewrite[kw])|(rewrite[K.add];rotate_left;focus((try simp only[K.df,X.df,V.df,hzs,true_and,and_true])<;>omega))|(rewrite[K.ltT];rotate_left;focus((try simp only[K.df,X.df,V.df,hzs,true_and,and_true])<;>omega))|(rewrite[K.gtF];rotate_left;focus((try simp only[K.df,X.df,V.df,hzs,true_and,and_true])<;>omega)));(try(conv=>lhs;cbv))));(exact rfl))) ?_
      refine headQ_ofH (by ((try(conv=>lhs;cbv));(exact rfl))) ?_
      refine⟨him,_,rfl,?_,by rw[show l.length - (i+1)=l.length - i - 1 by omega];exact hgo⟩
      rw[K.pl_];omega
    ·have g2:=X.get (l:=l) (J:=mi J 1) (by rw[K.mi_];omega)
     have hx2:ix l (mi J 1)=l.getD (i - 1) zeroWr:=by rw[X.ix_,K.mi_,show (J - 1).toNat=i - 1 by omega]
     rw[← hx2] at hgo
     have ko:=k76 (ix l (mi J 1)) (ix l J)
     generalize ix l (mi J 1)=w2 at *
     generalize ix l J=w at *
     generalize ordW w2 w=o at *
     obtain⟨⟨r,n⟩,t,doc,f,txt⟩:=w
     obtain⟨⟨r2,n2⟩,t2,doc2,f2,txt2⟩:=w2
     dsimp only[wF] at *
     generalize goodW v _=q at *
     cases q with
     | false =>
      rw[if_pos (.inl rfl)] at hgo
      subst hgo
      refine wpV_ofH (by ((try(conv=>lhs;cbv));(repeat((first|(rewrite[g1])|(rewrite[kw])|(rewrite[K.ltT];rotate_left;focus((try simp only[K.df,X.df,V.df,hzs,true_and,and_true])<;>omega)));(try(conv=>lhs;cbv))));(exact rfl))) ?_
      show finQ _ _ _ _ _
      (show finV _ _ _=some _;((try(conv=>lhs;cbv));(try(with_reducible rfl)));(try rfl))
     | true =>
      by_cases ho:0≤o
      ·rw[if_pos (.inr ⟨by omega,ho⟩)] at hgo
       subst hgo
       refine wpV_ofH (by ((try(conv=>lhs;cbv));(repeat((first|(rewrite[g1])|(rewrite[g2])|(rewrite[kw])|(rewrite[ko])|(rewrite[K.sub];rotate_left;focus((try simp only[K.df,X.df,V.df,hzs,true_and,and_true])<;>omega))|(rewrite[K.ltT];rotate_left;focus((try simp only[K.df,X.df,V.df,hzs,true_and,and_true])<;>omega))|(rewrite[K.gtT];rotate_left;focus((try simp only[K.df,X.df,V.df,hzs,true_and,and_true])<;>omega))|(rewrite[K.geT];rotate_left;focus((try simp only[K.df,X.df,V.df,hzs,true_and,and_true])<;>omega)));(try(conv=>lhs;cbv))));(exact rfl))) ?_
       show finQ _ _ _ _ _
       (show finV _ _ _=some _;((try(conv=>lhs;cbv));(try(with_reducible rfl)));(try rfl))
      ·rw[if_neg (by rintro (h|⟨_,h⟩);cases h;omega)] at hgo
       refine wpV_ofH (by ((try(conv=>lhs;cbv));(repeat((first|(rewrite[g1])|(rewrite[g2])|(rewrite[kw])|(rewrite[ko])|(rewrite[K.add];rotate_left;focus((try simp only[K.df,X.df,V.df,hzs,true_and,and_true])<;>omega))|(rewrite[K.sub];rotate_left;focus((try simp only[K.df,X.df,V.df,hzs,true_and,and_true])<;>omega))|(rewrite[K.ltT];rotate_left;focus((try simp only[K.df,X.df,V.df,hzs,true_and,and_true])<;>omega))|(rewrite[K.gtT];rotate_left;focus((try simp only[K.df,X.df,V.df,hzs,true_and,and_true])<;>omega))|(rewrite[K.geF];rotate_left;focus((try simp only[K.df,X.df,V.df,hzs,true_and,and_true])<;>omega)));(try(conv=>lhs;cbv))));(exact rfl))) ?_
       refine headQ_ofH (by ((try(conv=>lhs;cbv));(exact rfl))) ?_
       refine⟨him,_,rfl,?_,by rw[show l.length - (i+1)=l.length - i - 1 by omega];exact hgo⟩
       rw[K.pl_];omega
   ·obtain rfl:i=l.length:=by omega
    rw[Nat.sub_self,cnGo] at hgo
    subst hgo
    refine wpV_ofH (by ((try(conv=>lhs;cbv));(repeat((first|(rewrite[K.ltF];rotate_left;focus((try simp only[K.df,X.df,V.df,hzs,true_and,and_true])<;>omega)));(try(conv=>lhs;cbv))));(exact rfl))) ?_
    show wpV _ _ _ _ _ _
    refine wpV_ofH (by ((try(conv=>lhs;cbv));(exact rfl))) ?_
    (show finV _ _ _=some _;((try(conv=>lhs;cbv));(try(with_reducible rfl)));(try rfl))
  ·rw[decide_eq_false h4,Bool.false_and]
   refine wpV_ofH (by ((try(conv=>lhs;cbv));(repeat((first|(rewrite[k32])|(rewrite[ln])|(rewrite[K.gtT];rotate_left;focus((try simp only[K.df,X.df,V.df,hzs,true_and,and_true])<;>omega)));(try(conv=>lhs;cbv))));(exact rfl))) ?_
   (show finV _ _ _=some _;((try(conv=>lhs;cbv));(try(with_reducible rfl)));(try rfl))
end Go.Proofs.Ytlljgefgbglmbaa
