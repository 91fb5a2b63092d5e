/- Readers behind an error; lists of events and pasts of any bytes: gone through. -/
import Derived.Test.YtlljgefgbglmbaaWED
import Derived.Test.YtlljgefgbglmbaaELG
import Derived.Test.YtlljgefgbglmbaaDZC
set_option linter.unusedSimpArgs false
set_option linter.unusedVariables false
set_option maxRecDepth 100000
set_option maxHeartbeats 4000000
set_option cbv.maxSteps 10000000
namespace Go.Proofs.Ytlljgefgbglmbaa
open Go GoV

abbrev erS (e:Int):List Blk:=[.var false [.iv (.sl true 0 []),.iv (.int .i64 e),.iv (.bool true)]]
abbrev erR (e:Int):List Blk:=[.var false [.iv (.sl true 0 []),.iv (.int .i64 e)]]
theorem zerosR:[IV.int IntKind.i64 0,IV.int IntKind.i64 0,IV.int IntKind.i64 0,IV.int IntKind.i64 0,IV.int IntKind.i64 0,IV.int IntKind.i64 0,IV.int IntKind.i64 0,IV.int IntKind.i64 0,IV.int IntKind.i64 0,IV.int IntKind.i64 0,IV.int IntKind.i64 0,IV.int IntKind.i64 0,IV.int IntKind.i64 0,IV.int IntKind.i64 0,IV.int IntKind.i64 0,IV.int IntKind.i64 0,IV.int IntKind.i64 0,IV.int IntKind.i64 0,IV.int IntKind.i64 0,IV.int IntKind.i64 0,IV.int IntKind.i64 0,IV.int IntKind.i64 0,IV.int IntKind.i64 0,IV.int IntKind.i64 0,IV.int IntKind.i64 0,IV.int IntKind.i64 0,IV.int IntKind.i64 0,IV.int IntKind.i64 0,IV.int IntKind.i64 0,IV.int IntKind.i64 0,IV.int IntKind.i64 0,IV.int IntKind.i64 0,IV.int IntKind.i64 0,IV.int IntKind.i64 0,IV.int IntKind.i64 0,IV.int IntKind.i64 0,IV.int IntKind.i64 0,IV.int IntKind.i64 0,IV.int IntKind.i64 0,IV.int IntKind.i64 0,IV.int IntKind.i64 0,IV.int IntKind.i64 0,IV.int IntKind.i64 0,IV.int IntKind.i64 0,IV.int IntKind.i64 0,IV.int IntKind.i64 0,IV.int IntKind.i64 0,IV.int IntKind.i64 0,IV.int IntKind.i64 0,IV.int IntKind.i64 0,IV.int IntKind.i64 0,IV.int IntKind.i64 0,IV.int IntKind.i64 0,IV.int IntKind.i64 0,IV.int IntKind.i64 0,IV.int IntKind.i64 0,IV.int IntKind.i64 0,IV.int IntKind.i64 0,IV.int IntKind.i64 0,IV.int IntKind.i64 0,IV.int IntKind.i64 0,IV.int IntKind.i64 0,IV.int IntKind.i64 0,IV.int IntKind.i64 0]=vec zeros:=rfl
theorem n44e {e:Int} (he:e≠0) (J:Int):Pn 13 44 [rp,i64 J] (erS e) (i64 0) (erS e):=n44 [] (by simp) J (.er true e) he
theorem n51e {e:Int} (he:e≠0) (J:Int):Pn 14 51 [rp,i64 J] (erR e) (i64 0) (erR e):=n51 [] (by simp) J (.er true e) he
theorem n89e (e:Int):Pn 1 89 [rp] (erS e) (i64 e) (erS e):=n89 [] (.er true e)
theorem n93e (e:Int):Pn 1 93 [rp] (erS e) (i64 0) (erS e):=n93 [] (.er true e)
theorem n88e {e:Int} (he:e≠0) (many top:Int):Pn 31 88 [rp,i64 many,i64 top] (erS e) (.one (.slo 1 0 0)) (erS e++[.arr false false 1 []]):=by
 refine playN 30 rfl rfl fun A call hA hcall=>?_
 obtain⟨pl,mi,ml,nt,tn,ad,sb,K⟩:=kit hA
 obtain⟨EX,ix,sn,ll,cc,sg,X⟩:=lkit hA K zeroX exI 96
 obtain⟨W,gx,st',V⟩:=rkit hA
 have k1:∀ J,call 44 [rp,i64 J] (erS e)=some (i64 0,erS e):=fun J=>by rw[hcall];exact n44e he J 30 (by omega)
 dsimp only[List.cons_append,List.nil_append] at *
 refine wpV_ofH (by ((try(conv=>lhs;cbv));(repeat((first|(rewrite[k1])|(rewrite[K.ltF];rotate_left;focus((try simp only[K.df,X.df,V.df,true_and,and_true])<;>omega)));(try(conv=>lhs;cbv))));(exact rfl))) ?_
 (show finV _ _ _=some _;((try(conv=>lhs;cbv));(try(with_reducible rfl)));(try rfl))
theorem n96e {e:Int} (he:e≠0) (many top:Int):Pn 31 96 [rp,i64 many,i64 top] (erR e) (.one (.slo 1 0 0)) (erR e++[.arr false false 1 []]):=by
 refine playN 30 rfl rfl fun A call hA hcall=>?_
 obtain⟨pl,mi,ml,nt,tn,ad,sb,K⟩:=kit hA
 obtain⟨EX,ix,sn,ll,cc,sg,X⟩:=lkit hA K zeroX exI 96
 obtain⟨W,gx,st',V⟩:=rkit hA
 have k1:∀ J,call 51 [rp,i64 J] (erR e)=some (i64 0,erR e):=fun J=>by rw[hcall];exact n51e he J 30 (by omega)
 dsimp only[List.cons_append,List.nil_append] at *
 refine wpV_ofH (by ((try(conv=>lhs;cbv));(repeat((first|(rewrite[k1])|(rewrite[K.ltF];rotate_left;focus((try simp only[K.df,X.df,V.df,true_and,and_true])<;>omega)));(try(conv=>lhs;cbv))));(exact rfl))) ?_
 (show finV _ _ _=some _;((try(conv=>lhs;cbv));(try(with_reducible rfl)));(try rfl))
theorem n45e {e:Int} (he:e≠0):Pn 51 45 [rp] (erS e) (.agg [.iv (.arr 64 [IV.int IntKind.i64 0,IV.int IntKind.i64 0,IV.int IntKind.i64 0,IV.int IntKind.i64 0,IV.int IntKind.i64 0,IV.int IntKind.i64 0,IV.int IntKind.i64 0,IV.int IntKind.i64 0,IV.int IntKind.i64 0,IV.int IntKind.i64 0,IV.int IntKind.i64 0,IV.int IntKind.i64 0,IV.int IntKind.i64 0,IV.int IntKind.i64 0,IV.int IntKind.i64 0,IV.int IntKind.i64 0,IV.int IntKind.i64 0,IV.int IntKind.i64 0,IV.int IntKind.i64 0,IV.int IntKind.i64 0,IV.int IntKind.i64 0,IV.int IntKind.i64 0,IV.int IntKind.i64 0,IV.int IntKind.i64 0,IV.int IntKind.i64 0,IV.int IntKind.i64 0,IV.int IntKind.i64 0,IV.int IntKind.i64 0,IV.int IntKind.i64 0,IV.int IntKind.i64 0,IV.int IntKind.i64 0,IV.int IntKind.i64 0,IV.int IntKind.i64 0,IV.int IntKind.i64 0,IV.int IntKind.i64 0,IV.int IntKind.i64 0,IV.int IntKind.i64 0,IV.int IntKind.i64 0,IV.int IntKind.i64 0,IV.int IntKind.i64 0,IV.int IntKind.i64 0,IV.int IntKind.i64 0,IV.int IntKind.i64 0,IV.int IntKind.i64 0,IV.int IntKind.i64 0,IV.int IntKind.i64 0,IV.int IntKind.i64 0,IV.int IntKind.i64 0,IV.int IntKind.i64 0,IV.int IntKind.i64 0,IV.int IntKind.i64 0,IV.int IntKind.i64 0,IV.int IntKind.i64 0,IV.int IntKind.i64 0,IV.int IntKind.i64 0,IV.int IntKind.i64 0,IV.int IntKind.i64 0,IV.int IntKind.i64 0,IV.int IntKind.i64 0,IV.int IntKind.i64 0,IV.int IntKind.i64 0,IV.int IntKind.i64 0,IV.int IntKind.i64 0,IV.int IntKind.i64 0])]) (erS e):=by
 refine playN 50 rfl rfl fun A call hA hcall=>?_
 obtain⟨pl,mi,ml,nt,tn,ad,sb,K⟩:=kit hA
 obtain⟨EX,ix,sn,ll,cc,sg,X⟩:=lkit hA K zeroX exI 96
 obtain⟨W,gx,st',V⟩:=rkit hA
 have k1:∀ J T,call 88 [rp,i64 J,i64 T] (erS e)=some (.one (.slo 1 0 0),erS e++[.arr false false 1 []]):=fun J T=>by rw[hcall];exact n88e he J T 50 (by omega)
 have k2:call 89 [rp] (erS e)=some (i64 e,erS e):=by rw[hcall];exact n89e e 50 (by omega)
 dsimp only[List.cons_append,List.nil_append] at *
 refine wpV_ofH (by ((try(conv=>lhs;cbv));(repeat((first|(rewrite[k1])|(rewrite[k2])|(rewrite[K.ofN])|(rewrite[K.neT];rotate_left;focus((try simp only[K.df,X.df,V.df,true_and,and_true])<;>omega))|(rewrite[K.ltF];rotate_left;focus((try simp only[K.df,X.df,V.df,true_and,and_true])<;>omega)));(try(conv=>lhs;cbv))));(exact rfl))) ?_
 (show finV _ _ _=some _;((try(conv=>lhs;cbv));(try(with_reducible rfl)));(try rfl))
theorem n52e {e:Int} (he:e≠0):Pn 51 52 [rp] (erR e) (.agg [.iv (.arr 64 [IV.int IntKind.i64 0,IV.int IntKind.i64 0,IV.int IntKind.i64 0,IV.int IntKind.i64 0,IV.int IntKind.i64 0,IV.int IntKind.i64 0,IV.int IntKind.i64 0,IV.int IntKind.i64 0,IV.int IntKind.i64 0,IV.int IntKind.i64 0,IV.int IntKind.i64 0,IV.int IntKind.i64 0,IV.int IntKind.i64 0,IV.int IntKind.i64 0,IV.int IntKind.i64 0,IV.int IntKind.i64 0,IV.int IntKind.i64 0,IV.int IntKind.i64 0,IV.int IntKind.i64 0,IV.int IntKind.i64 0,IV.int IntKind.i64 0,IV.int IntKind.i64 0,IV.int IntKind.i64 0,IV.int IntKind.i64 0,IV.int IntKind.i64 0,IV.int IntKind.i64 0,IV.int IntKind.i64 0,IV.int IntKind.i64 0,IV.int IntKind.i64 0,IV.int IntKind.i64 0,IV.int IntKind.i64 0,IV.int IntKind.i64 0,IV.int IntKind.i64 0,IV.int IntKind.i64 0,IV.int IntKind.i64 0,IV.int IntKind.i64 0,IV.int IntKind.i64 0,IV.int IntKind.i64 0,IV.int IntKind.i64 0,IV.int IntKind.i64 0,IV.int IntKind.i64 0,IV.int IntKind.i64 0,IV.int IntKind.i64 0,IV.int IntKind.i64 0,IV.int IntKind.i64 0,IV.int IntKind.i64 0,IV.int IntKind.i64 0,IV.int IntKind.i64 0,IV.int IntKind.i64 0,IV.int IntKind.i64 0,IV.int IntKind.i64 0,IV.int IntKind.i64 0,IV.int IntKind.i64 0,IV.int IntKind.i64 0,IV.int IntKind.i64 0,IV.int IntKind.i64 0,IV.int IntKind.i64 0,IV.int IntKind.i64 0,IV.int IntKind.i64 0,IV.int IntKind.i64 0,IV.int IntKind.i64 0,IV.int IntKind.i64 0,IV.int IntKind.i64 0,IV.int IntKind.i64 0])]) (erR e):=by
 refine playN 50 rfl rfl fun A call hA hcall=>?_
 obtain⟨pl,mi,ml,nt,tn,ad,sb,K⟩:=kit hA
 obtain⟨EX,ix,sn,ll,cc,sg,X⟩:=lkit hA K zeroX exI 96
 obtain⟨W,gx,st',V⟩:=rkit hA
 have k1:∀ J T,call 96 [rp,i64 J,i64 T] (erR e)=some (.one (.slo 1 0 0),erR e++[.arr false false 1 []]):=fun J T=>by rw[hcall];exact n96e he J T 50 (by omega)
 dsimp only[List.cons_append,List.nil_append] at *
 refine wpV_ofH (by ((try(conv=>lhs;cbv));(repeat((first|(rewrite[k1])|(rewrite[K.ofN])|(rewrite[K.neT];rotate_left;focus((try simp only[K.df,X.df,V.df,true_and,and_true])<;>omega))|(rewrite[K.ltF];rotate_left;focus((try simp only[K.df,X.df,V.df,true_and,and_true])<;>omega)));(try(conv=>lhs;cbv))));(exact rfl))) ?_
 (show finV _ _ _=some _;((try(conv=>lhs;cbv));(try(with_reducible rfl)));(try rfl))
theorem n46e {e:Int} (he:e≠0) (J:Int):Pn 51 46 [rp,i64 J] (erS e) (.one (.iv (.sl true 0 []))) (erS e):=by
 refine playN 50 rfl rfl fun A call hA hcall=>?_
 obtain⟨pl,mi,ml,nt,tn,ad,sb,K⟩:=kit hA
 obtain⟨EX,ix,sn,ll,cc,sg,X⟩:=lkit hA K zeroX exI 96
 obtain⟨W,gx,st',V⟩:=rkit hA
 have k1:∀ J,call 44 [rp,i64 J] (erS e)=some (i64 0,erS e):=fun J=>by rw[hcall];exact n44e he J 50 (by omega)
 have k2:call 89 [rp] (erS e)=some (i64 e,erS e):=by rw[hcall];exact n89e e 50 (by omega)
 refine wpV_ofH (by ((try(conv=>lhs;cbv));(repeat((first|(rewrite[k1])|(rewrite[k2])|(rewrite[K.neT];rotate_left;focus((try simp only[K.df,X.df,V.df,true_and,and_true])<;>omega))|(rewrite[K.gtF];rotate_left;focus((try simp only[K.df,X.df,V.df,true_and,and_true])<;>omega)));(try(conv=>lhs;cbv))));(exact rfl))) ?_
 (show finV _ _ _=some _;((try(conv=>lhs;cbv));(try(with_reducible rfl)));(try rfl))
theorem n53e {e:Int} (he:e≠0) (J:Int):Pn 51 53 [rp,i64 J] (erR e) (.one (.slo 1 0 0)) (erR e++[.arr false false 8 []]):=by
 refine playN 50 rfl rfl fun A call hA hcall=>?_
 obtain⟨pl,mi,ml,nt,tn,ad,sb,K⟩:=kit hA
 obtain⟨EX,ix,sn,ll,cc,sg,X⟩:=lkit hA K zeroX exI 96
 obtain⟨W,gx,st',V⟩:=rkit hA
 have k1:∀ J,call 51 [rp,i64 J] (erR e)=some (i64 0,erR e):=fun J=>by rw[hcall];exact n51e he J 50 (by omega)
 dsimp only[List.cons_append,List.nil_append] at *
 refine wpV_ofH (by ((try(conv=>lhs;cbv));(repeat((first|(rewrite[k1])|(rewrite[K.ltF];rotate_left;focus((try simp only[K.df,X.df,V.df,true_and,and_true])<;>omega)));(try(conv=>lhs;cbv))));(exact rfl))) ?_
 (show finV _ _ _=some _;((try(conv=>lhs;cbv));(try(with_reducible rfl)));(try rfl))
theorem n47e {e:Int} (he:e≠0):Pn 61 47 [rp] (erS e) (.agg [.iv (.arr 64 [IV.int IntKind.i64 0,IV.int IntKind.i64 0,IV.int IntKind.i64 0,IV.int IntKind.i64 0,IV.int IntKind.i64 0,IV.int IntKind.i64 0,IV.int IntKind.i64 0,IV.int IntKind.i64 0,IV.int IntKind.i64 0,IV.int IntKind.i64 0,IV.int IntKind.i64 0,IV.int IntKind.i64 0,IV.int IntKind.i64 0,IV.int IntKind.i64 0,IV.int IntKind.i64 0,IV.int IntKind.i64 0,IV.int IntKind.i64 0,IV.int IntKind.i64 0,IV.int IntKind.i64 0,IV.int IntKind.i64 0,IV.int IntKind.i64 0,IV.int IntKind.i64 0,IV.int IntKind.i64 0,IV.int IntKind.i64 0,IV.int IntKind.i64 0,IV.int IntKind.i64 0,IV.int IntKind.i64 0,IV.int IntKind.i64 0,IV.int IntKind.i64 0,IV.int IntKind.i64 0,IV.int IntKind.i64 0,IV.int IntKind.i64 0,IV.int IntKind.i64 0,IV.int IntKind.i64 0,IV.int IntKind.i64 0,IV.int IntKind.i64 0,IV.int IntKind.i64 0,IV.int IntKind.i64 0,IV.int IntKind.i64 0,IV.int IntKind.i64 0,IV.int IntKind.i64 0,IV.int IntKind.i64 0,IV.int IntKind.i64 0,IV.int IntKind.i64 0,IV.int IntKind.i64 0,IV.int IntKind.i64 0,IV.int IntKind.i64 0,IV.int IntKind.i64 0,IV.int IntKind.i64 0,IV.int IntKind.i64 0,IV.int IntKind.i64 0,IV.int IntKind.i64 0,IV.int IntKind.i64 0,IV.int IntKind.i64 0,IV.int IntKind.i64 0,IV.int IntKind.i64 0,IV.int IntKind.i64 0,IV.int IntKind.i64 0,IV.int IntKind.i64 0,IV.int IntKind.i64 0,IV.int IntKind.i64 0,IV.int IntKind.i64 0,IV.int IntKind.i64 0,IV.int IntKind.i64 0]),.iv (.sl true 0 [])]) (erS e):=by
 refine playN 60 rfl rfl fun A call hA hcall=>?_
 obtain⟨pl,mi,ml,nt,tn,ad,sb,K⟩:=kit hA
 obtain⟨EX,ix,sn,ll,cc,sg,X⟩:=lkit hA K zeroX exI 96
 obtain⟨W,gx,st',V⟩:=rkit hA
 have k0:call 45 [rp] (erS e)=some (.agg [.iv (.arr 64 [IV.int IntKind.i64 0,IV.int IntKind.i64 0,IV.int IntKind.i64 0,IV.int IntKind.i64 0,IV.int IntKind.i64 0,IV.int IntKind.i64 0,IV.int IntKind.i64 0,IV.int IntKind.i64 0,IV.int IntKind.i64 0,IV.int IntKind.i64 0,IV.int IntKind.i64 0,IV.int IntKind.i64 0,IV.int IntKind.i64 0,IV.int IntKind.i64 0,IV.int IntKind.i64 0,IV.int IntKind.i64 0,IV.int IntKind.i64 0,IV.int IntKind.i64 0,IV.int IntKind.i64 0,IV.int IntKind.i64 0,IV.int IntKind.i64 0,IV.int IntKind.i64 0,IV.int IntKind.i64 0,IV.int IntKind.i64 0,IV.int IntKind.i64 0,IV.int IntKind.i64 0,IV.int IntKind.i64 0,IV.int IntKind.i64 0,IV.int IntKind.i64 0,IV.int IntKind.i64 0,IV.int IntKind.i64 0,IV.int IntKind.i64 0,IV.int IntKind.i64 0,IV.int IntKind.i64 0,IV.int IntKind.i64 0,IV.int IntKind.i64 0,IV.int IntKind.i64 0,IV.int IntKind.i64 0,IV.int IntKind.i64 0,IV.int IntKind.i64 0,IV.int IntKind.i64 0,IV.int IntKind.i64 0,IV.int IntKind.i64 0,IV.int IntKind.i64 0,IV.int IntKind.i64 0,IV.int IntKind.i64 0,IV.int IntKind.i64 0,IV.int IntKind.i64 0,IV.int IntKind.i64 0,IV.int IntKind.i64 0,IV.int IntKind.i64 0,IV.int IntKind.i64 0,IV.int IntKind.i64 0,IV.int IntKind.i64 0,IV.int IntKind.i64 0,IV.int IntKind.i64 0,IV.int IntKind.i64 0,IV.int IntKind.i64 0,IV.int IntKind.i64 0,IV.int IntKind.i64 0,IV.int IntKind.i64 0,IV.int IntKind.i64 0,IV.int IntKind.i64 0,IV.int IntKind.i64 0])],erS e):=by rw[hcall];exact n45e he 60 (by omega)
 have k1:∀ J,call 44 [rp,i64 J] (erS e)=some (i64 0,erS e):=fun J=>by rw[hcall];exact n44e he J 60 (by omega)
 have k2:call 89 [rp] (erS e)=some (i64 e,erS e):=by rw[hcall];exact n89e e 60 (by omega)
 refine wpV_ofH (by ((try(conv=>lhs;cbv));(repeat((first|(rewrite[k0])|(rewrite[k1])|(rewrite[k2])|(rewrite[K.neT];rotate_left;focus((try simp only[K.df,X.df,V.df,true_and,and_true])<;>omega))|(rewrite[K.gtF];rotate_left;focus((try simp only[K.df,X.df,V.df,true_and,and_true])<;>omega))|(rewrite[K.eqF];rotate_left;focus((try simp only[K.df,X.df,V.df,true_and,and_true])<;>omega)));(try(conv=>lhs;cbv))));(exact rfl))) ?_
 (show finV _ _ _=some _;((try(conv=>lhs;cbv));(try(with_reducible rfl)));(try rfl))
theorem n54e {e:Int} (he:e≠0):Pn 61 54 [rp] (erR e) (.agg [.iv (.arr 64 [IV.int IntKind.i64 0,IV.int IntKind.i64 0,IV.int IntKind.i64 0,IV.int IntKind.i64 0,IV.int IntKind.i64 0,IV.int IntKind.i64 0,IV.int IntKind.i64 0,IV.int IntKind.i64 0,IV.int IntKind.i64 0,IV.int IntKind.i64 0,IV.int IntKind.i64 0,IV.int IntKind.i64 0,IV.int IntKind.i64 0,IV.int IntKind.i64 0,IV.int IntKind.i64 0,IV.int IntKind.i64 0,IV.int IntKind.i64 0,IV.int IntKind.i64 0,IV.int IntKind.i64 0,IV.int IntKind.i64 0,IV.int IntKind.i64 0,IV.int IntKind.i64 0,IV.int IntKind.i64 0,IV.int IntKind.i64 0,IV.int IntKind.i64 0,IV.int IntKind.i64 0,IV.int IntKind.i64 0,IV.int IntKind.i64 0,IV.int IntKind.i64 0,IV.int IntKind.i64 0,IV.int IntKind.i64 0,IV.int IntKind.i64 0,IV.int IntKind.i64 0,IV.int IntKind.i64 0,IV.int IntKind.i64 0,IV.int IntKind.i64 0,IV.int IntKind.i64 0,IV.int IntKind.i64 0,IV.int IntKind.i64 0,IV.int IntKind.i64 0,IV.int IntKind.i64 0,IV.int IntKind.i64 0,IV.int IntKind.i64 0,IV.int IntKind.i64 0,IV.int IntKind.i64 0,IV.int IntKind.i64 0,IV.int IntKind.i64 0,IV.int IntKind.i64 0,IV.int IntKind.i64 0,IV.int IntKind.i64 0,IV.int IntKind.i64 0,IV.int IntKind.i64 0,IV.int IntKind.i64 0,IV.int IntKind.i64 0,IV.int IntKind.i64 0,IV.int IntKind.i64 0,IV.int IntKind.i64 0,IV.int IntKind.i64 0,IV.int IntKind.i64 0,IV.int IntKind.i64 0,IV.int IntKind.i64 0,IV.int IntKind.i64 0,IV.int IntKind.i64 0,IV.int IntKind.i64 0]),.iv (.sl true 0 [])]) (erR e):=by
 refine playN 60 rfl rfl fun A call hA hcall=>?_
 obtain⟨pl,mi,ml,nt,tn,ad,sb,K⟩:=kit hA
 obtain⟨EX,ix,sn,ll,cc,sg,X⟩:=lkit hA K zeroX exI 96
 obtain⟨W,gx,st',V⟩:=rkit hA
 have k0:call 52 [rp] (erR e)=some (.agg [.iv (.arr 64 [IV.int IntKind.i64 0,IV.int IntKind.i64 0,IV.int IntKind.i64 0,IV.int IntKind.i64 0,IV.int IntKind.i64 0,IV.int IntKind.i64 0,IV.int IntKind.i64 0,IV.int IntKind.i64 0,IV.int IntKind.i64 0,IV.int IntKind.i64 0,IV.int IntKind.i64 0,IV.int IntKind.i64 0,IV.int IntKind.i64 0,IV.int IntKind.i64 0,IV.int IntKind.i64 0,IV.int IntKind.i64 0,IV.int IntKind.i64 0,IV.int IntKind.i64 0,IV.int IntKind.i64 0,IV.int IntKind.i64 0,IV.int IntKind.i64 0,IV.int IntKind.i64 0,IV.int IntKind.i64 0,IV.int IntKind.i64 0,IV.int IntKind.i64 0,IV.int IntKind.i64 0,IV.int IntKind.i64 0,IV.int IntKind.i64 0,IV.int IntKind.i64 0,IV.int IntKind.i64 0,IV.int IntKind.i64 0,IV.int IntKind.i64 0,IV.int IntKind.i64 0,IV.int IntKind.i64 0,IV.int IntKind.i64 0,IV.int IntKind.i64 0,IV.int IntKind.i64 0,IV.int IntKind.i64 0,IV.int IntKind.i64 0,IV.int IntKind.i64 0,IV.int IntKind.i64 0,IV.int IntKind.i64 0,IV.int IntKind.i64 0,IV.int IntKind.i64 0,IV.int IntKind.i64 0,IV.int IntKind.i64 0,IV.int IntKind.i64 0,IV.int IntKind.i64 0,IV.int IntKind.i64 0,IV.int IntKind.i64 0,IV.int IntKind.i64 0,IV.int IntKind.i64 0,IV.int IntKind.i64 0,IV.int IntKind.i64 0,IV.int IntKind.i64 0,IV.int IntKind.i64 0,IV.int IntKind.i64 0,IV.int IntKind.i64 0,IV.int IntKind.i64 0,IV.int IntKind.i64 0,IV.int IntKind.i64 0,IV.int IntKind.i64 0,IV.int IntKind.i64 0,IV.int IntKind.i64 0])],erR e):=by rw[hcall];exact n52e he 60 (by omega)
 have k1:∀ J,call 51 [rp,i64 J] (erR e)=some (i64 0,erR e):=fun J=>by rw[hcall];exact n51e he J 60 (by omega)
 refine wpV_ofH (by ((try(conv=>lhs;cbv));(repeat((first|(rewrite[k0])|(rewrite[k1])|(rewrite[K.neT];rotate_left;focus((try simp only[K.df,X.df,V.df,true_and,and_true])<;>omega))|(rewrite[K.ltF];rotate_left;focus((try simp only[K.df,X.df,V.df,true_and,and_true])<;>omega))|(rewrite[K.eqF];rotate_left;focus((try simp only[K.df,X.df,V.df,true_and,and_true])<;>omega)));(try(conv=>lhs;cbv))));(exact rfl))) ?_
 (show finV _ _ _=some _;((try(conv=>lhs;cbv));(try(with_reducible rfl)));(try rfl))
theorem n48e {e:Int} (he:e≠0):Pn 61 48 [rp] (erS e) (.agg [.iv (.sl true 0 []),.iv (.arr 64 [IV.int IntKind.i64 0,IV.int IntKind.i64 0,IV.int IntKind.i64 0,IV.int IntKind.i64 0,IV.int IntKind.i64 0,IV.int IntKind.i64 0,IV.int IntKind.i64 0,IV.int IntKind.i64 0,IV.int IntKind.i64 0,IV.int IntKind.i64 0,IV.int IntKind.i64 0,IV.int IntKind.i64 0,IV.int IntKind.i64 0,IV.int IntKind.i64 0,IV.int IntKind.i64 0,IV.int IntKind.i64 0,IV.int IntKind.i64 0,IV.int IntKind.i64 0,IV.int IntKind.i64 0,IV.int IntKind.i64 0,IV.int IntKind.i64 0,IV.int IntKind.i64 0,IV.int IntKind.i64 0,IV.int IntKind.i64 0,IV.int IntKind.i64 0,IV.int IntKind.i64 0,IV.int IntKind.i64 0,IV.int IntKind.i64 0,IV.int IntKind.i64 0,IV.int IntKind.i64 0,IV.int IntKind.i64 0,IV.int IntKind.i64 0,IV.int IntKind.i64 0,IV.int IntKind.i64 0,IV.int IntKind.i64 0,IV.int IntKind.i64 0,IV.int IntKind.i64 0,IV.int IntKind.i64 0,IV.int IntKind.i64 0,IV.int IntKind.i64 0,IV.int IntKind.i64 0,IV.int IntKind.i64 0,IV.int IntKind.i64 0,IV.int IntKind.i64 0,IV.int IntKind.i64 0,IV.int IntKind.i64 0,IV.int IntKind.i64 0,IV.int IntKind.i64 0,IV.int IntKind.i64 0,IV.int IntKind.i64 0,IV.int IntKind.i64 0,IV.int IntKind.i64 0,IV.int IntKind.i64 0,IV.int IntKind.i64 0,IV.int IntKind.i64 0,IV.int IntKind.i64 0,IV.int IntKind.i64 0,IV.int IntKind.i64 0,IV.int IntKind.i64 0,IV.int IntKind.i64 0,IV.int IntKind.i64 0,IV.int IntKind.i64 0,IV.int IntKind.i64 0,IV.int IntKind.i64 0])]) (erS e):=by
 refine playN 60 rfl rfl fun A call hA hcall=>?_
 obtain⟨pl,mi,ml,nt,tn,ad,sb,K⟩:=kit hA
 obtain⟨EX,ix,sn,ll,cc,sg,X⟩:=lkit hA K zeroX exI 96
 obtain⟨W,gx,st',V⟩:=rkit hA
 have k0:call 45 [rp] (erS e)=some (.agg [.iv (.arr 64 [IV.int IntKind.i64 0,IV.int IntKind.i64 0,IV.int IntKind.i64 0,IV.int IntKind.i64 0,IV.int IntKind.i64 0,IV.int IntKind.i64 0,IV.int IntKind.i64 0,IV.int IntKind.i64 0,IV.int IntKind.i64 0,IV.int IntKind.i64 0,IV.int IntKind.i64 0,IV.int IntKind.i64 0,IV.int IntKind.i64 0,IV.int IntKind.i64 0,IV.int IntKind.i64 0,IV.int IntKind.i64 0,IV.int IntKind.i64 0,IV.int IntKind.i64 0,IV.int IntKind.i64 0,IV.int IntKind.i64 0,IV.int IntKind.i64 0,IV.int IntKind.i64 0,IV.int IntKind.i64 0,IV.int IntKind.i64 0,IV.int IntKind.i64 0,IV.int IntKind.i64 0,IV.int IntKind.i64 0,IV.int IntKind.i64 0,IV.int IntKind.i64 0,IV.int IntKind.i64 0,IV.int IntKind.i64 0,IV.int IntKind.i64 0,IV.int IntKind.i64 0,IV.int IntKind.i64 0,IV.int IntKind.i64 0,IV.int IntKind.i64 0,IV.int IntKind.i64 0,IV.int IntKind.i64 0,IV.int IntKind.i64 0,IV.int IntKind.i64 0,IV.int IntKind.i64 0,IV.int IntKind.i64 0,IV.int IntKind.i64 0,IV.int IntKind.i64 0,IV.int IntKind.i64 0,IV.int IntKind.i64 0,IV.int IntKind.i64 0,IV.int IntKind.i64 0,IV.int IntKind.i64 0,IV.int IntKind.i64 0,IV.int IntKind.i64 0,IV.int IntKind.i64 0,IV.int IntKind.i64 0,IV.int IntKind.i64 0,IV.int IntKind.i64 0,IV.int IntKind.i64 0,IV.int IntKind.i64 0,IV.int IntKind.i64 0,IV.int IntKind.i64 0,IV.int IntKind.i64 0,IV.int IntKind.i64 0,IV.int IntKind.i64 0,IV.int IntKind.i64 0,IV.int IntKind.i64 0])],erS e):=by rw[hcall];exact n45e he 60 (by omega)
 have k1:∀ J,call 46 [rp,i64 J] (erS e)=some (.one (.iv (.sl true 0 [])),erS e):=fun J=>by rw[hcall];exact n46e he J 60 (by omega)
 have k2:call 89 [rp] (erS e)=some (i64 e,erS e):=by rw[hcall];exact n89e e 60 (by omega)
 refine wpV_ofH (by ((try(conv=>lhs;cbv));(repeat((first|(rewrite[k0])|(rewrite[k1])|(rewrite[k2])|(rewrite[K.neT];rotate_left;focus((try simp only[K.df,X.df,V.df,true_and,and_true])<;>omega)));(try(conv=>lhs;cbv))));(exact rfl))) ?_
 (show finV _ _ _=some _;((try(conv=>lhs;cbv));(try(with_reducible rfl)));(try rfl))
theorem n55e {e:Int} (he:e≠0):Pn 61 55 [rp] (erR e) (.agg [.iv (.sl true 0 []),.iv (.arr 64 [IV.int IntKind.i64 0,IV.int IntKind.i64 0,IV.int IntKind.i64 0,IV.int IntKind.i64 0,IV.int IntKind.i64 0,IV.int IntKind.i64 0,IV.int IntKind.i64 0,IV.int IntKind.i64 0,IV.int IntKind.i64 0,IV.int IntKind.i64 0,IV.int IntKind.i64 0,IV.int IntKind.i64 0,IV.int IntKind.i64 0,IV.int IntKind.i64 0,IV.int IntKind.i64 0,IV.int IntKind.i64 0,IV.int IntKind.i64 0,IV.int IntKind.i64 0,IV.int IntKind.i64 0,IV.int IntKind.i64 0,IV.int IntKind.i64 0,IV.int IntKind.i64 0,IV.int IntKind.i64 0,IV.int IntKind.i64 0,IV.int IntKind.i64 0,IV.int IntKind.i64 0,IV.int IntKind.i64 0,IV.int IntKind.i64 0,IV.int IntKind.i64 0,IV.int IntKind.i64 0,IV.int IntKind.i64 0,IV.int IntKind.i64 0,IV.int IntKind.i64 0,IV.int IntKind.i64 0,IV.int IntKind.i64 0,IV.int IntKind.i64 0,IV.int IntKind.i64 0,IV.int IntKind.i64 0,IV.int IntKind.i64 0,IV.int IntKind.i64 0,IV.int IntKind.i64 0,IV.int IntKind.i64 0,IV.int IntKind.i64 0,IV.int IntKind.i64 0,IV.int IntKind.i64 0,IV.int IntKind.i64 0,IV.int IntKind.i64 0,IV.int IntKind.i64 0,IV.int IntKind.i64 0,IV.int IntKind.i64 0,IV.int IntKind.i64 0,IV.int IntKind.i64 0,IV.int IntKind.i64 0,IV.int IntKind.i64 0,IV.int IntKind.i64 0,IV.int IntKind.i64 0,IV.int IntKind.i64 0,IV.int IntKind.i64 0,IV.int IntKind.i64 0,IV.int IntKind.i64 0,IV.int IntKind.i64 0,IV.int IntKind.i64 0,IV.int IntKind.i64 0,IV.int IntKind.i64 0])]) (erR e):=by
 refine playN 60 rfl rfl fun A call hA hcall=>?_
 obtain⟨pl,mi,ml,nt,tn,ad,sb,K⟩:=kit hA
 obtain⟨EX,ix,sn,ll,cc,sg,X⟩:=lkit hA K zeroX exI 96
 obtain⟨W,gx,st',V⟩:=rkit hA
 have k0:call 52 [rp] (erR e)=some (.agg [.iv (.arr 64 [IV.int IntKind.i64 0,IV.int IntKind.i64 0,IV.int IntKind.i64 0,IV.int IntKind.i64 0,IV.int IntKind.i64 0,IV.int IntKind.i64 0,IV.int IntKind.i64 0,IV.int IntKind.i64 0,IV.int IntKind.i64 0,IV.int IntKind.i64 0,IV.int IntKind.i64 0,IV.int IntKind.i64 0,IV.int IntKind.i64 0,IV.int IntKind.i64 0,IV.int IntKind.i64 0,IV.int IntKind.i64 0,IV.int IntKind.i64 0,IV.int IntKind.i64 0,IV.int IntKind.i64 0,IV.int IntKind.i64 0,IV.int IntKind.i64 0,IV.int IntKind.i64 0,IV.int IntKind.i64 0,IV.int IntKind.i64 0,IV.int IntKind.i64 0,IV.int IntKind.i64 0,IV.int IntKind.i64 0,IV.int IntKind.i64 0,IV.int IntKind.i64 0,IV.int IntKind.i64 0,IV.int IntKind.i64 0,IV.int IntKind.i64 0,IV.int IntKind.i64 0,IV.int IntKind.i64 0,IV.int IntKind.i64 0,IV.int IntKind.i64 0,IV.int IntKind.i64 0,IV.int IntKind.i64 0,IV.int IntKind.i64 0,IV.int IntKind.i64 0,IV.int IntKind.i64 0,IV.int IntKind.i64 0,IV.int IntKind.i64 0,IV.int IntKind.i64 0,IV.int IntKind.i64 0,IV.int IntKind.i64 0,IV.int IntKind.i64 0,IV.int IntKind.i64 0,IV.int IntKind.i64 0,IV.int IntKind.i64 0,IV.int IntKind.i64 0,IV.int IntKind.i64 0,IV.int IntKind.i64 0,IV.int IntKind.i64 0,IV.int IntKind.i64 0,IV.int IntKind.i64 0,IV.int IntKind.i64 0,IV.int IntKind.i64 0,IV.int IntKind.i64 0,IV.int IntKind.i64 0,IV.int IntKind.i64 0,IV.int IntKind.i64 0,IV.int IntKind.i64 0,IV.int IntKind.i64 0])],erR e):=by rw[hcall];exact n52e he 60 (by omega)
 have k1:∀ J,call 53 [rp,i64 J] (erR e)=some (.one (.slo 1 0 0),erR e++[.arr false false 8 []]):=fun J=>by rw[hcall];exact n53e he J 60 (by omega)
 dsimp only[List.cons_append,List.nil_append] at *
 refine wpV_ofH (by ((try(conv=>lhs;cbv));(repeat((first|(rewrite[k0])|(rewrite[k1])|(rewrite[K.neT];rotate_left;focus((try simp only[K.df,X.df,V.df,true_and,and_true])<;>omega)));(try(conv=>lhs;cbv))));(exact rfl))) ?_
 (show finV _ _ _=some _;((try(conv=>lhs;cbv));(try(with_reducible rfl)));(try rfl))
theorem n49e {e:Int} (he:e≠0):Pn 21 49 [rp] (erS e) (i64 e) (erS e):=by
 refine playN 20 rfl rfl fun A call hA hcall=>?_
 obtain⟨pl,mi,ml,nt,tn,ad,sb,K⟩:=kit hA
 obtain⟨EX,ix,sn,ll,cc,sg,X⟩:=lkit hA K zeroX exI 96
 obtain⟨W,gx,st',V⟩:=rkit hA
 have k1:call 93 [rp] (erS e)=some (i64 0,erS e):=by rw[hcall];exact n93e e 20 (by omega)
 have k2:call 89 [rp] (erS e)=some (i64 e,erS e):=by rw[hcall];exact n89e e 20 (by omega)
 refine wpV_ofH (by ((try(conv=>lhs;cbv));(repeat((first|(rewrite[k1])|(rewrite[k2])|(rewrite[K.gtF];rotate_left;focus((try simp only[K.df,X.df,V.df,true_and,and_true])<;>omega)));(try(conv=>lhs;cbv))));(exact rfl))) ?_
 (show finV _ _ _=some _;((try(conv=>lhs;cbv));(try(with_reducible rfl)));(try rfl))
theorem n56e {e:Int} (he:e≠0):Pn 21 56 [rp] (erR e) (i64 e) (erR e):=by
 refine playN 20 rfl rfl fun A call hA hcall=>?_
 obtain⟨pl,mi,ml,nt,tn,ad,sb,K⟩:=kit hA
 obtain⟨EX,ix,sn,ll,cc,sg,X⟩:=lkit hA K zeroX exI 96
 obtain⟨W,gx,st',V⟩:=rkit hA
 refine wpV_ofH (by ((try(conv=>lhs;cbv));(repeat((first|(rewrite[K.eqF];rotate_left;focus((try simp only[K.df,X.df,V.df,true_and,and_true])<;>omega)));(try(conv=>lhs;cbv))));(exact rfl))) ?_
 (show finV _ _ _=some _;((try(conv=>lhs;cbv));(try(with_reducible rfl)));(try rfl))
theorem n56 (bs:List Nat) (f:Bool) (o n:Nat) (hs:o+n=bs.length):Pn 21 56 [rp] (rdR true (by8 bs) (.ok f o n)) (i64 (if 0<n then 3 else 0)) (rdR true (by8 bs) (.ok f o n)):=by
 refine playN 20 rfl rfl fun A call hA hcall=>?_
 obtain⟨pl,mi,ml,nt,tn,ad,sb,K⟩:=kit hA
 obtain⟨EX,ix,sn,ll,cc,sg,X⟩:=lkit hA K zeroX exI 96
 obtain⟨W,gx,st',V⟩:=rkit hA
 dsimp only[rdR,cond_true]
 obtain⟨N,hN⟩:∃ N:Int,N=n:=⟨_,rfl⟩
 have on:A .ofN n=N:=by rw[hA,hN];rfl
 generalize by8 bs=es at *
 by_cases h:0<n
 ·rw[if_pos h]
  refine wpV_ofH (by ((try(conv=>lhs;cbv));(repeat((first|(rewrite[on])|(rewrite[K.gtT];rotate_left;focus((try simp only[K.df,X.df,V.df,true_and,and_true])<;>omega))|(rewrite[K.eqT];rotate_left;focus((try simp only[K.df,X.df,V.df,true_and,and_true])<;>omega)));(try(conv=>lhs;cbv))));(exact rfl))) ?_
  (show finV _ _ _=some _;((try(conv=>lhs;cbv));(try(with_reducible rfl)));(try rfl))
 ·rw[if_neg h]
  refine wpV_ofH (by ((try(conv=>lhs;cbv));(repeat((first|(rewrite[on])|(rewrite[K.eqT];rotate_left;focus((try simp only[K.df,X.df,V.df,true_and,and_true])<;>omega))|(rewrite[K.gtF];rotate_left;focus((try simp only[K.df,X.df,V.df,true_and,and_true])<;>omega)));(try(conv=>lhs;cbv))));(exact rfl))) ?_
  (show finV _ _ _=some _;((try(conv=>lhs;cbv));(try(with_reducible rfl)));(try rfl))
/-! ### Lists of events -/
theorem evR_ex (bs:List Nat) (most:Int) (s:RS):∃ p:List Ev × RS,∃ m,m≤(numS bs most s).2.left+1∧(m=(numS bs most s).1∨(evN bs (numS bs most s).2 m).2.isOk=false)∧(∀ j,j<m→j<(numS bs most s).1∧(evN bs (numS bs most s).2 j).2.isOk=true)∧p=evN bs (numS bs most s).2 m:=by
 obtain⟨m,h1,h2,h3⟩:=rounds bs (numS bs most s).2 (numS bs most s).1
 exact⟨_,m,h1,h2,h3,rfl⟩
/-- The events that are read, and the reader behind them. -/
noncomputable def evsR (bs:List Nat) (most:Int) (s:RS):List Ev × RS:=Classical.choose (evR_ex bs most s)
theorem evsR_spec (bs:List Nat) (most:Int) (s:RS):∃ m,m≤(numS bs most s).2.left+1∧(m=(numS bs most s).1∨(evN bs (numS bs most s).2 m).2.isOk=false)∧(∀ j,j<m→j<(numS bs most s).1∧(evN bs (numS bs most s).2 j).2.isOk=true)∧evsR bs most s=evN bs (numS bs most s).2 m:=Classical.choose_spec (evR_ex bs most s)
theorem numS_left {bs:List Nat} {most:Int} {f:Bool} {o n:Nat} (hs:o+n=bs.length):(numS bs most (.ok f o n)).2.left≤bs.length:=by
 have h:=numS_le bs most (.ok f o n)
 cases hk:(numS bs most (.ok f o n)).2 with
 | er f e=>exact Nat.zero_le _
 | ok f' o' n' =>
  rw[hk] at h
  have:=(h rfl).2
  simp only[RS.left] at this ⊢
  omega
theorem n46g (bs:List Nat) (hb:∀ b,b∈bs→b<256) (hbl:bs.length≤1000000000000) (most:Int) (f:Bool) (o n:Nat) (hs:o+n=bs.length) :
  ∃ k,Pn k 46 [rp,i64 most] (rdS true (by8 bs) (.ok f o n)) (lsF 2 (evsR bs most (.ok f o n))) (rdS true (by8 bs) (evsR bs most (.ok f o n)).2++lsK (evsR bs most (.ok f o n))):=by
 obtain⟨m,h1,h2,h3,h4⟩:=evsR_spec bs most (.ok f o n)
 have:=numS_left (most:=most) (f:=f) hs
 rw[h4]
 exact n46 bs hb hbl most f o n hs _ _ rfl m (by omega) h2 h3
theorem n53g (bs:List Nat) (hb:∀ b,b∈bs→b<256) (hbl:bs.length≤1000000000000) (most:Int) (f:Bool) (o n:Nat) (hs:o+n=bs.length) :
  ∃ k,Pn k 53 [rp,i64 most] (rdR true (by8 bs) (.ok f o n)) (lsG 2 (evsR bs most (.ok f o n))) (rdR true (by8 bs) (evsR bs most (.ok f o n)).2++lsH (evsR bs most (.ok f o n))):=by
 obtain⟨m,h1,h2,h3,h4⟩:=evsR_spec bs most (.ok f o n)
 have:=numS_left (most:=most) (f:=f) hs
 rw[h4]
 exact n53 bs hb hbl most f o n hs _ _ rfl m (by omega) h2 h3
theorem evsR_fits {bs:List Nat} {most:Int} {s:RS} (h:s.fits bs.length):(evsR bs most s).2.fits bs.length:=by
 obtain⟨m,h1,h2,h3,h4⟩:=evsR_spec bs most s
 rw[h4]
 exact evN_fits (numS_fits h) m
theorem evS_gone (bs:List Nat) (s:RS):(evS bs s).1.gone.length≤1000:=by
 have h1:=numS_lt bs 120 (r6 bs s).2
 have gl:=gonGo_len (bs:=bs) (n:=(r7 bs s).1) (l:=[]) (s:=(r7 bs s).2)
 have hg:(evRaw bs s).gone.length≤1000:=by
  unfold evRaw r8;dsimp only
  simp only[List.length_nil] at gl
  have:(r7 bs s).1≤120:=by unfold r7;omega
  omega
 unfold evS
 split
 ·exact Nat.zero_le _
 ·split
  ·exact Nat.zero_le _
  ·exact hg
theorem evS_doc (bs:List Nat) (s:RS):(evS bs s).1.doc.size≤bs.length:=by
 have hd:(evRaw bs s).doc.size≤bs.length:=by
  unfold evRaw r4;dsimp only
  exact textS_size
 unfold evS
 split
 ·exact Nat.zero_le _
 ·split
  ·exact Nat.zero_le _
  ·exact hd
theorem evN_all (bs:List Nat) (s:RS):∀ m e,e∈(evN bs s m).1→e.gone.length≤1000∧e.doc.size≤bs.length
 | 0,e,he=>by simp[evN] at he
 | m+1,e,he=>by
  simp only[evN,List.mem_append,List.mem_cons,List.not_mem_nil,or_false] at he
  rcases he with h|rfl
  ·exact evN_all bs s m e h
  ·exact⟨evS_gone _ _,evS_doc _ _⟩
theorem evsR_all {bs:List Nat} {most:Int} {s:RS}:∀ e,e∈(evsR bs most s).1→e.gone.length≤1000∧e.doc.size≤bs.length:=by
 obtain⟨m,h1,h2,h3,h4⟩:=evsR_spec bs most s
 rw[h4]
 exact evN_all bs _ m
/-! ### Pasts -/
/-- What is read of a past, and the reader behind it. -/
noncomputable def pstS (bs:List Nat) (s:RS):(List Int × List Ev) × RS:=(((vecS bs s).1,(evsR bs 4096 (vecS bs s).2).1),(evsR bs 4096 (vecS bs s).2).2)
def psV (b:Nat) (p:(List Int × List Ev) × RS):FV:=match p.2 with
 | .ok _ _ _=>.agg [.slo b 0 p.1.2.length,.iv (.arr 64 (vec p.1.1))]
 | .er _ _=>.agg [.iv (.sl true 0 []),.iv (.arr 64 (vec zeros))]
def psK (p:(List Int × List Ev) × RS):List Blk:=match p.2 with
 | .ok _ _ _=>[.arr false false 8 (exs (okL p.1.2))]
 | .er _ _=>[]
theorem evsR_er (bs:List Nat) (most:Int) (f:Bool) (e:Int):evsR bs most (.er f e)=([],.er f e):=by
 obtain⟨m,h1,h2,h3,h4⟩:=evsR_spec bs most (.er f e)
 have hn:numS bs most (.er f e)=(0,.er f e):=rfl
 rw[hn] at h3 h4
 have:m=0:=by
  rcases Nat.eq_zero_or_pos m with h|h
  ·exact h
  ·exact absurd (h3 0 h).1 (by simp)
 rw[h4,this];rfl
theorem n48g (bs:List Nat) (hb:∀ b,b∈bs→b<256) (hbl:bs.length≤1000000000000) (f:Bool) (o n:Nat) (hs:o+n=bs.length) :
  ∃ k,Pn k 48 [rp] (rdS true (by8 bs) (.ok f o n)) (psV 2 (pstS bs (.ok f o n))) (rdS true (by8 bs) (pstS bs (.ok f o n)).2++psK (pstS bs (.ok f o n))):=by
 have hf:=vecS_fits (bs:=bs) (s:=.ok f o n) hs
 have k0:=n45 bs hb f o n hs
 unfold pstS
 generalize hv:vecS bs (.ok f o n)=v at *
 obtain⟨v,s1⟩:=v
 dsimp only at hf k0 ⊢
 cases s1 with
 | er f1 e1 =>
  have hf:e1≠0:=hf
  rw[evsR_er]
  refine⟨2001,playN 2000 rfl rfl fun A call hA hcall=>?_⟩
  obtain⟨pl,mi,ml,nt,tn,ad,sb,K⟩:=kit hA
  obtain⟨EX,ix,sn,ll,cc,sg,X⟩:=lkit hA K zeroX exI 96
  obtain⟨W,gx,st',V⟩:=rkit hA
  have k0:=k0 2000 (by omega)
  have k1:∀ J,call 46 [rp,i64 J] (erS e1)=some (.one (.iv (.sl true 0 [])),erS e1):=fun J=>by rw[hcall];exact n46e hf J 2000 (by omega)
  have k2:call 89 [rp] (erS e1)=some (i64 e1,erS e1):=by rw[hcall];exact n89e e1 2000 (by omega)
  rw[← hcall] at k0
  rw[show psV 2 ((v,[]),RS.er f1 e1)=.agg [.iv (.sl true 0 []),.iv (.arr 64 (vec zeros))] from rfl,show psK ((v,[]),RS.er f1 e1)=[] from rfl,List.append_nil,← zerosR]
  dsimp only[rdS,cond_true,vecF,List.cons_append,List.nil_append] at *
  generalize by8 bs=es at *
  generalize vec v=vs at *
  refine wpV_ofH (by ((try(conv=>lhs;cbv));(repeat((first|(rewrite[k0])|(rewrite[k1])|(rewrite[k2])|(rewrite[K.neT];rotate_left;focus((try simp only[K.df,X.df,V.df,true_and,and_true])<;>omega)));(try(conv=>lhs;cbv))));(exact rfl))) ?_
  (show finV _ _ _=some _;((try(conv=>lhs;cbv));(try(with_reducible rfl)));(try rfl))
 | ok f1 o1 n1 =>
  have hf:o1+n1=bs.length:=hf
  obtain⟨k,hk⟩:=n46g bs hb hbl 4096 f1 o1 n1 hf
  have hf2:=evsR_fits (most:=4096) (s:=.ok f1 o1 n1) hf
  generalize evsR bs 4096 (.ok f1 o1 n1)=p at *
  obtain⟨l,s2⟩:=p
  dsimp only at hk hf2 ⊢
  refine⟨k+2001,playN (k+2000) rfl rfl fun A call hA hcall=>?_⟩
  obtain⟨pl,mi,ml,nt,tn,ad,sb,K⟩:=kit hA
  obtain⟨EX,ix,sn,ll,cc,sg,X⟩:=lkit hA K zeroX exI 96
  obtain⟨W,gx,st',V⟩:=rkit hA
  have k0:=k0 (k+2000) (by omega)
  have k1:=hk (k+2000) (by omega)
  rw[← hcall] at k0 k1
  cases s2 with
  | er f2 e2 =>
   have hf2:e2≠0:=hf2
   have k2:call 89 [rp] (erS e2)=some (i64 e2,erS e2):=by rw[hcall];exact n89e e2 _ (by omega)
   rw[show lsF 2 (l,RS.er f2 e2)=.one (.iv (.sl true 0 [])) from rfl,show lsK (l,RS.er f2 e2)=[] from rfl,List.append_nil] at k1
   rw[show psV 2 ((v,l),RS.er f2 e2)=.agg [.iv (.sl true 0 []),.iv (.arr 64 (vec zeros))] from rfl,show psK ((v,l),RS.er f2 e2)=[] from rfl,List.append_nil,← zerosR]
   dsimp only[rdS,cond_true,vecF,List.cons_append,List.nil_append] at *
   generalize by8 bs=es at *
   generalize vec v=vs at *
   refine wpV_ofH (by ((try(conv=>lhs;cbv));(repeat((first|(rewrite[k0])|(rewrite[k1])|(rewrite[k2])|(rewrite[K.neT];rotate_left;focus((try simp only[K.df,X.df,V.df,true_and,and_true])<;>omega)));(try(conv=>lhs;cbv))));(exact rfl))) ?_
   (show finV _ _ _=some _;((try(conv=>lhs;cbv));(try(with_reducible rfl)));(try rfl))
  | ok f2 o2 n2 =>
   have k2:=n89 (by8 bs) (.ok f2 o2 n2) (k+2000) (by omega)
   rw[← hcall] at k2
   rw[show lsF 2 (l,RS.ok f2 o2 n2)=.one (.slo 2 0 l.length) from rfl,show lsK (l,RS.ok f2 o2 n2)=[.arr false false 8 (exs (okL l))] from rfl] at k1
   rw[show psV 2 ((v,l),RS.ok f2 o2 n2)=.agg [.slo 2 0 l.length,.iv (.arr 64 (vec v))] from rfl,show psK ((v,l),RS.ok f2 o2 n2)=[.arr false false 8 (exs (okL l))] from rfl]
   dsimp only[rdS,cond_true,vecF,RS.isOk,RS.err,List.cons_append,List.nil_append] at *
   generalize by8 bs=es at *
   generalize exs (okL l)=ls at *
   generalize vec v=vs at *
   generalize l.length=ln at *
   refine wpV_ofH (by ((try(conv=>lhs;cbv));(repeat((first|(rewrite[k0])|(rewrite[k1])|(rewrite[k2])|(rewrite[K.neF];rotate_left;focus((try simp only[K.df,X.df,V.df,true_and,and_true])<;>omega)));(try(conv=>lhs;cbv))));(exact rfl))) ?_
   (show finV _ _ _=some _;((try(conv=>lhs;cbv));(try(with_reducible rfl)));(try rfl))
theorem n55g (bs:List Nat) (hb:∀ b,b∈bs→b<256) (hbl:bs.length≤1000000000000) (f:Bool) (o n:Nat) (hs:o+n=bs.length) :
  ∃ k,Pn k 55 [rp] (rdR true (by8 bs) (.ok f o n)) (psV 2 (pstS bs (.ok f o n))) (rdR true (by8 bs) (pstS bs (.ok f o n)).2++psK (pstS bs (.ok f o n))):=by
 have hf:=vecS_fits (bs:=bs) (s:=.ok f o n) hs
 have k0:=n52 bs hb f o n hs
 unfold pstS
 generalize hv:vecS bs (.ok f o n)=v at *
 obtain⟨v,s1⟩:=v
 dsimp only at hf k0 ⊢
 cases s1 with
 | er f1 e1 =>
  have hf:e1≠0:=hf
  rw[evsR_er]
  refine⟨2001,playN 2000 rfl rfl fun A call hA hcall=>?_⟩
  obtain⟨pl,mi,ml,nt,tn,ad,sb,K⟩:=kit hA
  obtain⟨EX,ix,sn,ll,cc,sg,X⟩:=lkit hA K zeroX exI 96
  obtain⟨W,gx,st',V⟩:=rkit hA
  have k0:=k0 2000 (by omega)
  have k1:∀ J,call 53 [rp,i64 J] (erR e1)=some (.one (.slo 1 0 0),erR e1++[.arr false false 8 []]):=fun J=>by rw[hcall];exact n53e hf J 2000 (by omega)
  rw[← hcall] at k0
  rw[show psV 2 ((v,[]),RS.er f1 e1)=.agg [.iv (.sl true 0 []),.iv (.arr 64 (vec zeros))] from rfl,show psK ((v,[]),RS.er f1 e1)=[] from rfl,List.append_nil,← zerosR]
  dsimp only[rdR,cond_true,vecF,List.cons_append,List.nil_append] at *
  generalize by8 bs=es at *
  generalize vec v=vs at *
  refine wpV_ofH (by ((try(conv=>lhs;cbv));(repeat((first|(rewrite[k0])|(rewrite[k1])|(rewrite[K.neT];rotate_left;focus((try simp only[K.df,X.df,V.df,true_and,and_true])<;>omega)));(try(conv=>lhs;cbv))));(exact rfl))) ?_
  (show finV _ _ _=some _;((try(conv=>lhs;cbv));(try(with_reducible rfl)));(try rfl))
 | ok f1 o1 n1 =>
  have hf:o1+n1=bs.length:=hf
  obtain⟨k,hk⟩:=n53g bs hb hbl 4096 f1 o1 n1 hf
  have hf2:=evsR_fits (most:=4096) (s:=.ok f1 o1 n1) hf
  generalize evsR bs 4096 (.ok f1 o1 n1)=p at *
  obtain⟨l,s2⟩:=p
  dsimp only at hk hf2 ⊢
  refine⟨k+2001,playN (k+2000) rfl rfl fun A call hA hcall=>?_⟩
  obtain⟨pl,mi,ml,nt,tn,ad,sb,K⟩:=kit hA
  obtain⟨EX,ix,sn,ll,cc,sg,X⟩:=lkit hA K zeroX exI 96
  obtain⟨W,gx,st',V⟩:=rkit hA
  have k0:=k0 (k+2000) (by omega)
  have k1:=hk (k+2000) (by omega)
  rw[← hcall] at k0 k1
  cases s2 with
  | er f2 e2 =>
   have hf2:e2≠0:=hf2
   rw[show psV 2 ((v,l),RS.er f2 e2)=.agg [.iv (.sl true 0 []),.iv (.arr 64 (vec zeros))] from rfl,show psK ((v,l),RS.er f2 e2)=[] from rfl,List.append_nil,← zerosR]
   by_cases h0:l.length=0
   ·obtain rfl:=List.length_eq_zero_iff.1 h0
    rw[show lsG 2 (([]:List Ev),RS.er f2 e2)=.one (.slo 2 0 0) from rfl,show lsH (([]:List Ev),RS.er f2 e2)=[.arr false false 8 []] from rfl] at k1
    dsimp only[rdR,cond_true,vecF,List.cons_append,List.nil_append] at *
    generalize by8 bs=es at *
    generalize vec v=vs at *
    refine wpV_ofH (by ((try(conv=>lhs;cbv));(repeat((first|(rewrite[k0])|(rewrite[k1])|(rewrite[K.neT];rotate_left;focus((try simp only[K.df,X.df,V.df,true_and,and_true])<;>omega)));(try(conv=>lhs;cbv))));(exact rfl))) ?_
    (show finV _ _ _=some _;((try(conv=>lhs;cbv));(try(with_reducible rfl)));(try rfl))
   ·have hnz:¬ (RS.isOk (.er f2 e2)=true∨l.length=0):=by simp[RS.isOk];exact fun h=>h0 (by rw[h];rfl)
    rw[show lsG 2 (l,RS.er f2 e2)=.one (.iv (.sl true 0 [])) from if_neg hnz,show lsH (l,RS.er f2 e2)=[] from if_neg hnz,List.append_nil] at k1
    dsimp only[rdR,cond_true,vecF,List.cons_append,List.nil_append] at *
    generalize by8 bs=es at *
    generalize vec v=vs at *
    refine wpV_ofH (by ((try(conv=>lhs;cbv));(repeat((first|(rewrite[k0])|(rewrite[k1])|(rewrite[K.neT];rotate_left;focus((try simp only[K.df,X.df,V.df,true_and,and_true])<;>omega)));(try(conv=>lhs;cbv))));(exact rfl))) ?_
    (show finV _ _ _=some _;((try(conv=>lhs;cbv));(try(with_reducible rfl)));(try rfl))
  | ok f2 o2 n2 =>
   rw[show lsG 2 (l,RS.ok f2 o2 n2)=.one (.slo 2 0 l.length) from rfl,show lsH (l,RS.ok f2 o2 n2)=[.arr false false 8 (exs (okL l))] from rfl] at k1
   rw[show psV 2 ((v,l),RS.ok f2 o2 n2)=.agg [.slo 2 0 l.length,.iv (.arr 64 (vec v))] from rfl,show psK ((v,l),RS.ok f2 o2 n2)=[.arr false false 8 (exs (okL l))] from rfl]
   dsimp only[rdR,cond_true,vecF,RS.isOk,RS.err,List.cons_append,List.nil_append] at *
   generalize by8 bs=es at *
   generalize exs (okL l)=ls at *
   generalize vec v=vs at *
   generalize l.length=ln at *
   refine wpV_ofH (by ((try(conv=>lhs;cbv));(repeat((first|(rewrite[k0])|(rewrite[k1])|(rewrite[K.neF];rotate_left;focus((try simp only[K.df,X.df,V.df,true_and,and_true])<;>omega)));(try(conv=>lhs;cbv))));(exact rfl))) ?_
   (show finV _ _ _=some _;((try(conv=>lhs;cbv));(try(with_reducible rfl)));(try rfl))
end Go.Proofs.Ytlljgefgbglmbaa
