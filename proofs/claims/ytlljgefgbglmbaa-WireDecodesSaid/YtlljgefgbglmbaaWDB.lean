/- What a message of any bytes is: plain. -/
import Derived.Test.YtlljgefgbglmbaaWDA
set_option linter.unusedSimpArgs false
set_option linter.unusedVariables false
set_option maxRecDepth 100000
set_option maxHeartbeats 40000000
set_option cbv.maxSteps 10000000
namespace Go.Proofs.Ytlljgefgbglmbaa
open Go GoV

theorem vecS_ee (bs:List Nat) (f:Bool) {e:Int} (h:e≠0):vecS bs (.er f e)=(zeros,.er f e):=by
 unfold vecS
 rw[show risS bs 64 63 (.er f e)=(some [],.er f e) from rfl]
 dsimp only
 rw[show vecGo bs [] zeros (.er f e)=(zeros,.er f e) from rfl]
 exact if_neg h
theorem stS_ee (bs:List Nat) (f:Bool) {e:Int} (h:e≠0):stS bs (.er f e)=((zeros,[]),.er f e):=by
 have h3:(st3 bs (.er f e)).2=.er f e:=by
  simp only[st3,st2,st1,vecS_ee bs f h];rfl
 rw[stS_er h3 h]
theorem pstS_ee (bs:List Nat) (f:Bool) {e:Int} (h:e≠0):pstS bs (.er f e)=((zeros,[]),.er f e):=by
 unfold pstS
 rw[vecS_ee bs f h]
 dsimp only
 rw[evsR_er]
theorem vecS_64 (bs:List Nat) (s:RS):(vecS bs s).1.length=64:=vecS_len bs s
theorem stS_b (bs:List Nat) (s:RS):(stS bs s).1.1.length=64∧(stS bs s).1.2.length≤4096∧∀ w,w∈(stS bs s).1.2→w.doc.size≤bs.length:=by
 have h1:(st2 bs s).1≤4096:=by have:=(numS_lt bs 4096 (st1 bs s).2).2;unfold st2;omega
 have h2:=wrGo_len (bs:=bs) (n:=(st2 bs s).1) (l:=[]) (s:=(st2 bs s).2)
 have h3:zeros.length=64:=by simp[zeros]
 unfold stS
 split
 ·exact⟨h3,Nat.zero_le _,fun w hw=>by simp at hw⟩
 ·split
  ·exact⟨h3,Nat.zero_le _,fun w hw=>by simp at hw⟩
  ·refine⟨vecS_len bs s,?_,fun w hw=>wrGo_doc (bs:=bs) (n:=(st2 bs s).1) (l:=[]) (s:=(st2 bs s).2) (fun w hw=>by simp at hw) w hw⟩
   show (st3 bs s).1.length≤4096
   unfold st3
   simp only[List.length_nil] at h2
   omega
def q1 (bs:List Nat):=numS bs 3 (.ok false 0 bs.length)
def q2 (bs:List Nat):=numS bs 63 (q1 bs).2
def q3 (bs:List Nat):=numS bs 63 (q2 bs).2
def q4 (bs:List Nat):=vecS bs (q3 bs).2
def q5 (bs:List Nat):=vecS bs (q4 bs).2
noncomputable def q6 (bs:List Nat):=evsR bs 1024 (q5 bs).2
def q7 (bs:List Nat):=stS bs (q4 bs).2
noncomputable def q8' (bs:List Nat):=pstS bs (q7 bs).2
/-- What is read of a message, and the reader behind it. -/
noncomputable def dcd (bs:List Nat):(Msg × List Ev) × RS :=
 if (q1 bs).1=2 then ((⟨2,(q2 bs).1,(q3 bs).1,(q4 bs).1,(q5 bs).1,zeros,[],zeros⟩,(q6 bs).1),(q6 bs).2)
 else if (q1 bs).1=3 then ((⟨3,(q2 bs).1,(q3 bs).1,(q4 bs).1,zeros,(q7 bs).1.1,(q7 bs).1.2,(q8' bs).1.1⟩,(q8' bs).1.2),(q8' bs).2)
 else ((⟨((q1 bs).1:Nat),(q2 bs).1,(q3 bs).1,(q4 bs).1,zeros,zeros,[],zeros⟩,[]),(q4 bs).2)
/-- The steps of reading it. -/
structure Rd (bs:List Nat) (v1 v2 v3:Nat) (v4 v5 v7 v8:List Int) (l6 l8:List Ev) (w7:List Wr) (s1 s2 s3 s4 s5 s6 s7 s8:RS):Prop where
 h1:numS bs 3 (.ok false 0 bs.length)=(v1,s1)
 h2:numS bs 63 s1=(v2,s2)
 h3:numS bs 63 s2=(v3,s3)
 h4:vecS bs s3=(v4,s4)
 h5:vecS bs s4=(v5,s5)
 h6:evsR bs 1024 s5=(l6,s6)
 h7:stS bs s4=((v7,w7),s7)
 h8:pstS bs s7=((v8,l8),s8)
theorem rd_ex (bs:List Nat):∃ v1 v2 v3 v4 v5 v7 v8 l6 l8 w7 s1 s2 s3 s4 s5 s6 s7 s8,Rd bs v1 v2 v3 v4 v5 v7 v8 l6 l8 w7 s1 s2 s3 s4 s5 s6 s7 s8:=by
 obtain⟨⟨v1,s1⟩,h1⟩:∃ p,numS bs 3 (.ok false 0 bs.length)=p:=⟨_,rfl⟩
 obtain⟨⟨v2,s2⟩,h2⟩:∃ p,numS bs 63 s1=p:=⟨_,rfl⟩
 obtain⟨⟨v3,s3⟩,h3⟩:∃ p,numS bs 63 s2=p:=⟨_,rfl⟩
 obtain⟨⟨v4,s4⟩,h4⟩:∃ p,vecS bs s3=p:=⟨_,rfl⟩
 obtain⟨⟨v5,s5⟩,h5⟩:∃ p,vecS bs s4=p:=⟨_,rfl⟩
 obtain⟨⟨l6,s6⟩,h6⟩:∃ p,evsR bs 1024 s5=p:=⟨_,rfl⟩
 obtain⟨⟨⟨v7,w7⟩,s7⟩,h7⟩:∃ p,stS bs s4=p:=⟨_,rfl⟩
 obtain⟨⟨⟨v8,l8⟩,s8⟩,h8⟩:∃ p,pstS bs s7=p:=⟨_,rfl⟩
 exact⟨v1,v2,v3,v4,v5,v7,v8,l6,l8,w7,s1,s2,s3,s4,s5,s6,s7,s8,⟨h1,h2,h3,h4,h5,h6,h7,h8⟩⟩
section
variable {bs:List Nat} {v1 v2 v3:Nat} {v4 v5 v7 v8:List Int} {l6 l8:List Ev} {w7:List Wr} {s1 s2 s3 s4 s5 s6 s7 s8:RS} (R:Rd bs v1 v2 v3 v4 v5 v7 v8 l6 l8 w7 s1 s2 s3 s4 s5 s6 s7 s8)
include R
theorem Rd.q:q1 bs=(v1,s1)∧q2 bs=(v2,s2)∧q3 bs=(v3,s3)∧q4 bs=(v4,s4)∧q5 bs=(v5,s5)∧q6 bs=(l6,s6)∧q7 bs=((v7,w7),s7)∧q8' bs=((v8,l8),s8):=by
 have a1:q1 bs=(v1,s1):=R.h1
 have a2:q2 bs=(v2,s2):=by unfold q2;rw[a1];exact R.h2
 have a3:q3 bs=(v3,s3):=by unfold q3;rw[a2];exact R.h3
 have a4:q4 bs=(v4,s4):=by unfold q4;rw[a3];exact R.h4
 have a5:q5 bs=(v5,s5):=by unfold q5;rw[a4];exact R.h5
 have a6:q6 bs=(l6,s6):=by unfold q6;rw[a5];exact R.h6
 have a7:q7 bs=((v7,w7),s7):=by unfold q7;rw[a4];exact R.h7
 have a8:q8' bs=((v8,l8),s8):=by unfold q8';rw[a7];exact R.h8
 exact⟨a1,a2,a3,a4,a5,a6,a7,a8⟩
theorem Rd.do (n2:v1≠2) (n3:v1≠3):dcd bs=(((⟨(v1:Nat),v2,v3,v4,zeros,zeros,[],zeros⟩:Msg),[]),s4):=by
 obtain⟨a1,a2,a3,a4,a5,a6,a7,a8⟩:=R.q
 unfold dcd
 rw[a1,a2,a3,a4]
 dsimp only
 rw[if_neg n2,if_neg n3]
theorem Rd.d2 (n2:v1=2):dcd bs=(((⟨2,v2,v3,v4,v5,zeros,[],zeros⟩:Msg),l6),s6):=by
 obtain⟨a1,a2,a3,a4,a5,a6,a7,a8⟩:=R.q
 unfold dcd
 rw[a1,a2,a3,a4,a5,a6]
 dsimp only
 rw[if_pos n2]
theorem Rd.d3 (n3:v1=3):dcd bs=(((⟨3,v2,v3,v4,zeros,v7,w7,v8⟩:Msg),l8),s8):=by
 obtain⟨a1,a2,a3,a4,a5,a6,a7,a8⟩:=R.q
 unfold dcd
 rw[a1,a2,a3,a4,a7,a8]
 dsimp only
 rw[if_neg (by omega),if_pos n3]
theorem Rd.fits:s1.fits bs.length∧s2.fits bs.length∧s3.fits bs.length∧s4.fits bs.length∧s5.fits bs.length∧s6.fits bs.length∧s7.fits bs.length∧s8.fits bs.length:=by
 have f1:=numS_fits (most:=3) (s:=.ok false 0 bs.length) (show 0+bs.length=bs.length by omega)
 rw[R.h1] at f1
 have f2:=numS_fits (most:=63) f1
 rw[R.h2] at f2
 have f3:=numS_fits (most:=63) f2
 rw[R.h3] at f3
 have f4:=vecS_fits f3
 rw[R.h4] at f4
 have f5:=vecS_fits f4
 rw[R.h5] at f5
 have f6:=evsR_fits (most:=1024) f5
 rw[R.h6] at f6
 have f7:=stS_fits f4
 rw[R.h7] at f7
 have f8:(pstS bs s7).2.fits bs.length:=evsR_fits (vecS_fits f7)
 rw[R.h8] at f8
 exact⟨f1,f2,f3,f4,f5,f6,f7,f8⟩
theorem Rd.lens:v4.length=64∧v5.length=64∧v7.length=64∧v8.length=64:=by
 have a4:=vecS_64 bs s3
 have a5:=vecS_64 bs s4
 have a7:=(stS_b bs s4).1
 have a8:(pstS bs s7).1.1.length=64:=vecS_64 bs s7
 rw[R.h4] at a4;rw[R.h5] at a5;rw[R.h7] at a7;rw[R.h8] at a8
 exact⟨a4,a5,a7,a8⟩
theorem Rd.all:(∀ e,e∈l6→e.gone.length≤1000∧e.doc.size≤bs.length)∧(∀ e,e∈l8→e.gone.length≤1000∧e.doc.size≤bs.length)∧w7.length≤4096∧∀ w,w∈w7→w.doc.size≤bs.length:=by
 have a6:=evsR_all (bs:=bs) (most:=1024) (s:=s5)
 have a8:∀ e,e∈(pstS bs s7).1.2→e.gone.length≤1000∧e.doc.size≤bs.length:=evsR_all
 have a7:=(stS_b bs s4).2
 rw[R.h6] at a6;rw[R.h8] at a8;rw[R.h7] at a7
 exact⟨a6,a8,a7.1,a7.2⟩
theorem Rd.z1 {f:Bool} {e:Int} (h:s1=.er f e):v1=0:=by
 have:=numS_er (bs:=bs) (most:=3) (s:=.ok false 0 bs.length)
 have f:=R.fits.1
 rw[R.h1,h] at this
 rw[h] at f
 exact this f
theorem Rd.msg (hbl:bs.length≤1000000000000):MsgOK (⟨2,v2,v3,v4,v5,zeros,[],zeros⟩:Msg) (okL l6)∧MsgOK (⟨3,v2,v3,v4,zeros,v7,w7,v8⟩:Msg) (okL l8)∧MsgOK (⟨(v1:Nat),v2,v3,v4,zeros,zeros,[],zeros⟩:Msg) (okL []):=by
 obtain⟨a4,a5,a7,a8⟩:=R.lens
 obtain⟨b6,b8,b7,c7⟩:=R.all
 have hz:zeros.length=64:=by simp[zeros]
 have key:∀ (m:Msg) (l:List Ev),m.ack.length=64→m.base.length=64→m.seen.length=64→m.floor.length=64→(∀ e,e∈l→e.gone.length≤1000∧e.doc.size≤bs.length)→(∀ w,w∈m.live→w.doc.size≤bs.length)→MsgOK m (okL l):=fun m l la lb ls lf he hw=>⟨la,lb,ls,lf,fun x hx=>by
  obtain⟨e,h,rfl⟩:=List.mem_map.1 hx
  have:=he e h
  exact⟨by dsimp only;omega,this.1⟩,fun x hx=>by
  obtain⟨e,h,rfl⟩:=List.mem_map.1 hx
  rfl,fun w h=>by have:=hw w h;omega⟩
 exact⟨key _ _ a4 a5 hz hz b6 fun w hw=>by simp at hw,key _ _ a4 hz a7 a8 b8 c7,key _ _ a4 hz hz hz (fun e he=>by simp at he) fun w hw=>by simp at hw⟩
end
noncomputable def resD (bs:List Nat):Option (Msg × List Ev) :=
 match (dcd bs).2 with
 | .er _ _=>none
 | .ok _ _ n=>if n=0∧chkM (dcd bs).1.1 (okL (dcd bs).1.2)=0 then some (dcd bs).1 else none
theorem resD_er {bs:List Nat} {x:Msg × List Ev} {f:Bool} {e:Int} (h:dcd bs=(x,.er f e)):resD bs=none:=by
 unfold resD;rw[h]
theorem resD_left {bs:List Nat} {x:Msg × List Ev} {f:Bool} {o n:Nat} (h:dcd bs=(x,.ok f o n)) (hn:0<n):resD bs=none:=by
 unfold resD;rw[h];exact if_neg fun h=>by omega
theorem resD_bad {bs:List Nat} {m:Msg} {l:List Ev} {f:Bool} {o:Nat} (h:dcd bs=((m,l),.ok f o 0)) (hc:chkM m (okL l)≠0):resD bs=none:=by
 unfold resD;rw[h];exact if_neg fun h=>hc h.2
theorem resD_ok {bs:List Nat} {m:Msg} {l:List Ev} {f:Bool} {o:Nat} (h:dcd bs=((m,l),.ok f o 0)) (hc:chkM m (okL l)=0):resD bs=some (m,l):=by
 unfold resD;rw[h];exact if_pos ⟨rfl,hc⟩
section
variable {bs:List Nat} {v1 v2 v3:Nat} {v4 v5 v7 v8:List Int} {l6 l8:List Ev} {w7:List Wr} {s1 s2 s3 s4 s5 s6 s7 s8:RS} (R:Rd bs v1 v2 v3 v4 v5 v7 v8 l6 l8 w7 s1 s2 s3 s4 s5 s6 s7 s8)
include R
theorem Rd.er7 {f:Bool} {e:Int} (h:s7=.er f e) (n3:v1=3):resD bs=none:=by
 have f7:=R.fits.2.2.2.2.2.2.1
 have h8:=R.h8
 rw[h] at f7 h8
 rw[pstS_ee bs f f7] at h8
 have hd:=R.d3 n3
 have e8:s8=.er f e:=(congrArg Prod.snd h8).symm
 rw[e8] at hd
 exact resD_er hd
theorem Rd.er5 {f:Bool} {e:Int} (h:s5=.er f e) (n2:v1=2):resD bs=none:=by
 have h6:=R.h6
 rw[h,evsR_er] at h6
 have hd:=R.d2 n2
 have e6:s6=.er f e:=(congrArg Prod.snd h6).symm
 rw[e6] at hd
 exact resD_er hd
theorem Rd.er4 {f:Bool} {e:Int} (h:s4=.er f e):resD bs=none:=by
 have f4:=R.fits.2.2.2.1
 have h5:=R.h5
 have h7:=R.h7
 rw[h] at f4 h5 h7
 rw[vecS_ee bs f f4] at h5
 rw[stS_ee bs f f4] at h7
 by_cases n2:v1=2
 ·exact R.er5 (congrArg Prod.snd h5:RS.er f e=s5).symm n2
 ·by_cases n3:v1=3
  ·exact R.er7 (congrArg Prod.snd h7:RS.er f e=s7).symm n3
  ·have hd:=R.do n2 n3
   rw[h] at hd
   exact resD_er hd
theorem Rd.er3 {f:Bool} {e:Int} (h:s3=.er f e):resD bs=none:=by
 have f3:=R.fits.2.2.1
 have h4:=R.h4
 rw[h] at f3 h4
 rw[vecS_ee bs f f3] at h4
 exact R.er4 (congrArg Prod.snd h4:RS.er f e=s4).symm
theorem Rd.er2 {f:Bool} {e:Int} (h:s2=.er f e):resD bs=none:=by
 have h3:=R.h3
 rw[h,show numS bs 63 (.er f e)=(0,.er f e) from rfl] at h3
 exact R.er3 (congrArg Prod.snd h3:RS.er f e=s3).symm
theorem Rd.er1 {f:Bool} {e:Int} (h:s1=.er f e):resD bs=none:=by
 have h2:=R.h2
 rw[h,show numS bs 63 (.er f e)=(0,.er f e) from rfl] at h2
 exact R.er2 (congrArg Prod.snd h2:RS.er f e=s2).symm
end
noncomputable def resO (B:List Nat):Option (Msg × List Ev) × Int :=
 match openS B with
 | (none,e)=>(none,e)
 | (some bs,_)=>match resD bs with
  | none=>(none,3)
  | some x=>(some x,0)
theorem openS_cases (B:List Nat):(∃ e,e≠0∧openS B=(none,e))∨openS B=(some (B.drop 4),0):=by
 unfold openS
 split
 ·exact .inl ⟨4,by decide,rfl⟩
 ·split
  ·exact .inr rfl
  ·exact .inl ⟨6,by decide,rfl⟩
theorem resO_none {B:List Nat} {e:Int} (h:openS B=(none,e)):resO B=(none,e):=by unfold resO;rw[h]
theorem resO_bad {B bs:List Nat} (h:openS B=(some bs,0)) (h2:resD bs=none):resO B=(none,3):=by unfold resO;rw[h];dsimp only;rw[h2]
theorem resO_ok {B bs:List Nat} {x:Msg × List Ev} (h:openS B=(some bs,0)) (h2:resD bs=some x):resO B=(some x,0):=by unfold resO;rw[h];dsimp only;rw[h2]
def outF (r:Option (Msg × List Ev) × Int):FV:=match r with
 | (none,e)=>.tup [(true,[.iv (.int .i64 0),.iv (.int .i64 0),.iv (.int .i64 0),.iv (.arr 64 (vec zeros)),.iv (.arr 64 (vec zeros)),.iv (.sl true 0 []),.iv (.arr 64 (vec zeros)),.iv (.sl true 0 []),.iv (.arr 64 (vec zeros))]),(false,[.iv (.int .i64 e)])]
 | (some (m,l),e)=>.tup [(true,[.iv (.int .i64 m.k),.iv (.int .i64 m.fr),.iv (.int .i64 m.to),.iv (.arr 64 (vec m.ack)),.iv (.arr 64 (vec m.base)),if m.k=1 then .iv (.sl true 0 []) else .slo 0 0 l.length,.iv (.arr 64 (vec m.seen)),if m.k=3 then .slo 1 0 m.live.length else .iv (.sl true 0 []),.iv (.arr 64 (vec m.floor))]),(false,[.iv (.int .i64 e)])]
def outK (r:Option (Msg × List Ev) × Int):List Blk:=match r with
 | (none,_)=>[]
 | (some (m,l),_)=>if m.k=1 then [] else if m.k=2 then [.arr false false 8 (exs (okL l))] else [.arr false false 8 (exs (okL l)),.arr false false 6 (eWs m.live)]
theorem sgX {A:Ar} (hA:A=real) (l:List Ev):A .seg (exs (okL l)) 0 l.length=exs (okL l):=by
 rw[hA,real_seg];unfold rSeg;rw[List.drop_zero,List.take_of_length_le (by simp[exs,okL])]
theorem sgW {A:Ar} (hA:A=real) (l:List Wr):A .seg (eWs l) 0 l.length=eWs l:=by
 rw[hA,real_seg];unfold rSeg;rw[List.drop_zero,List.take_of_length_le (by simp[eWs])]
end Go.Proofs.Ytlljgefgbglmbaa
