/- wire.Decode of any bytes: gone through. Printed by wdgen.py. -/
import Derived.Test.YtlljgefgbglmbaaWDB
import Derived.Test.YtlljgefgbglmbaaWDD
set_option linter.unusedSimpArgs false
set_option linter.unusedVariables false
set_option maxRecDepth 100000
set_option maxHeartbeats 40000000
set_option cbv.maxSteps 10000000
namespace Go.Proofs.Ytlljgefgbglmbaa
open Go GoV

theorem n16_0 (B:List Nat) (h8:∀ b,b∈B→b<256) (hl:B.length≤1000000000000) {e:Int} (he:e≠0) (hO:openS B=(none,e)):∃ k,∀ t,Pn k 16 [.one (.iv (.sl t 1 (by8 B)))] [] (outF (resO B)) (outK (resO B)):=by
 obtain⟨k1,h1⟩:=n42 B h8 true (by omega)
 obtain⟨k2,h2⟩:=n42 B h8 false (by omega)
 rw[hO] at h1 h2
 rw[resO_none hO]
 refine⟨k1+k2+101,fun t=>playN (k1+k2+100) rfl rfl fun A call hA hcall=>?_⟩
 obtain⟨pl,mi,ml,nt,tn,ad,sb,K⟩:=kit hA
 obtain⟨EX,ix,sn,ll,cc,sg',X⟩:=lkit hA K zeroX exI 96
 obtain⟨W,gx,st',V⟩:=rkit hA
 have op:call 42 [.one (.iv (.sl t 1 (by8 B)))] []=some (.tup [(false,[.iv (.sl true 0 [])]),(false,[.iv (.int .i64 e)])],[]):=by
  rw[hcall];cases t
  ·exact h2 _ (by omega)
  ·exact h1 _ (by omega)
 dsimp only[outF,outK]
 rw[← zerosR]
 generalize by8 B=xs at *
 refine wpV_ofH (by ((try(conv=>lhs;cbv));(repeat((first|(rewrite[op])|(rewrite[K.neT];rotate_left;focus((try simp only[K.df,X.df,V.df,true_and,and_true])<;>omega)));(try(conv=>lhs;cbv))));(exact rfl))) ?_
 (show finV _ _ _=some _;((try(conv=>lhs;cbv));(try(with_reducible rfl)));(try rfl))
theorem n16_1 (B bs:List Nat) (h8:∀ b,b∈B→b<256) (hl:B.length≤1000000000000) (hO:openS B=(some bs,0)) (hb:∀ b,b∈bs→b<256) (hbl:bs.length≤1000000000000):∃ k,∀ t,Pn k 16 [.one (.iv (.sl t 1 (by8 B)))] [] (outF (resO B)) (outK (resO B)):=by
 obtain⟨k1,h1⟩:=n42 B h8 true (by omega)
 obtain⟨k2,h2⟩:=n42 B h8 false (by omega)
 rw[hO] at h1 h2
 obtain⟨v1,v2,v3,v4,v5,v7,v8,l6,l8,w7,s1,s2,s3,s4,s5,s6,s7,s8,R⟩:=rd_ex bs
 obtain⟨f1,f2,f3,f4,f5,f6,f7,f8⟩:=R.fits
 obtain⟨m2,m3,mo⟩:=R.msg hbl
 obtain⟨kc2,hc2⟩:=n12 _ _ m2
 obtain⟨kc3,hc3⟩:=n12 _ _ m3
 obtain⟨kco,hco⟩:=n12 _ _ mo
 obtain⟨kv,hkv⟩:∃ k,∀ f o n,s5=.ok f o n→Pn k 46 [rp,i64 1024] (rdS true (by8 bs) (.ok f o n)) (lsF 2 (l6,s6)) (rdS true (by8 bs) s6++lsK (l6,s6)):=by
  have h6:=R.h6
  clear R
  cases s5 with
  | er f e=>exact⟨0,fun f o n h=>by cases h⟩
  | ok f o n =>
   obtain⟨k,hk⟩:=n46g bs hb hbl 1024 f o n f5
   rw[h6] at hk
   exact⟨k,fun f' o' n' h=>by cases h;exact hk⟩
 obtain⟨ks,hks⟩:∃ k,∀ f o n,s4=.ok f o n→Pn k 47 [rp] (rdS true (by8 bs) (.ok f o n)) (stV 2 ((v7,w7),s7)) (rdS true (by8 bs) s7++stK ((v7,w7),s7)):=by
  have h7:=R.h7
  clear R
  cases s4 with
  | er f e=>exact⟨0,fun f o n h=>by cases h⟩
  | ok f o n =>
   obtain⟨k,hk⟩:=n47 bs hb (by omega) f o n f4
   rw[h7] at hk
   exact⟨k,fun f' o' n' h=>by cases h;exact hk⟩
 obtain⟨kp,hkp⟩:∃ k,∀ f o n,s7=.ok f o n→Pn k 48 [rp] (rdS true (by8 bs) (.ok f o n)) (psV 2 ((v8,l8),s8)) (rdS true (by8 bs) s8++psK ((v8,l8),s8)):=by
  have h8:=R.h8
  clear R
  cases s7 with
  | er f e=>exact⟨0,fun f o n h=>by cases h⟩
  | ok f o n =>
   obtain⟨k,hk⟩:=n48g bs hb hbl f o n f7
   rw[h8] at hk
   exact⟨k,fun f' o' n' h=>by cases h;exact hk⟩
 obtain⟨N,hN⟩:∃ N,N=k1+k2+kc2+kc3+kco+kv+ks+kp+4000:=⟨_,rfl⟩
 refine⟨N+1,fun t=>playN N rfl rfl fun A call hA hcall=>?_⟩
 obtain⟨pl,mi,ml,nt,tn,ad,sb,K⟩:=kit hA
 obtain⟨EX,ix,sn,ll,cc,sg',X⟩:=lkit hA K zeroX exI 96
 obtain⟨W,gx,st',V⟩:=rkit hA
 have op:call 42 [.one (.iv (.sl t 1 (by8 B)))] []=some (.tup [(false,[.slo 0 0 bs.length]),(false,[.iv (.int .i64 0)])],[.arr false false 1 (by8 bs)]):=by
  rw[hcall];cases t
  ·exact h2 _ (by omega)
  ·exact h1 _ (by omega)
 have rd':∀ t,call 43 [.one (.iv (.sl t 1 (by8 bs)))] []=some (rp,rd (by8 bs) 0 bs.length false):=fun t=>by
  have:=n43 (by8 bs) t 1 (.inr rfl) (by rw[by8_len];omega) N (by omega)
  rw[by8_len] at this
  rw[hcall];exact this
 have nm:∀ (J:Int) (s:RS),s.fits bs.length→call 44 [rp,i64 J] (rdS s.isOk (by8 bs) s)=some (i64 (numS bs J s).1,rdS s.isOk (by8 bs) (numS bs J s).2):=fun J s h=>by rw[hcall];exact n44 bs hb J s h N (by omega)
 have vc:∀ (f:Bool) (o n:Nat),o+n=bs.length→call 45 [rp] (rdS true (by8 bs) (.ok f o n))=some (vecF (vecS bs (.ok f o n)).1,rdS true (by8 bs) (vecS bs (.ok f o n)).2):=fun f o n h=>by rw[hcall];exact n45 bs hb f o n h N (by omega)
 have en:∀ (f:Bool) (o n:Nat),o+n=bs.length→call 49 [rp] (rdS true (by8 bs) (.ok f o n))=some (i64 (if 0<n then 3 else 0),rdS true (by8 bs) (.ok f o n)):=fun f o n h=>by rw[hcall];exact n49 (by8 bs) f o n N (by omega)
 have e1:∀ {e:Int},e≠0→∀ J:Int,call 44 [rp,i64 J] (erS e)=some (i64 0,erS e):=fun h J=>by rw[hcall];exact n44e h J N (by omega)
 have e2:∀ {e:Int},e≠0→call 45 [rp] (erS e)=some (.agg [.iv (.arr 64 [IV.int IntKind.i64 0,IV.int IntKind.i64 0,IV.int IntKind.i64 0,IV.int IntKind.i64 0,IV.int IntKind.i64 0,IV.int IntKind.i64 0,IV.int IntKind.i64 0,IV.int IntKind.i64 0,IV.int IntKind.i64 0,IV.int IntKind.i64 0,IV.int IntKind.i64 0,IV.int IntKind.i64 0,IV.int IntKind.i64 0,IV.int IntKind.i64 0,IV.int IntKind.i64 0,IV.int IntKind.i64 0,IV.int IntKind.i64 0,IV.int IntKind.i64 0,IV.int IntKind.i64 0,IV.int IntKind.i64 0,IV.int IntKind.i64 0,IV.int IntKind.i64 0,IV.int IntKind.i64 0,IV.int IntKind.i64 0,IV.int IntKind.i64 0,IV.int IntKind.i64 0,IV.int IntKind.i64 0,IV.int IntKind.i64 0,IV.int IntKind.i64 0,IV.int IntKind.i64 0,IV.int IntKind.i64 0,IV.int IntKind.i64 0,IV.int IntKind.i64 0,IV.int IntKind.i64 0,IV.int IntKind.i64 0,IV.int IntKind.i64 0,IV.int IntKind.i64 0,IV.int IntKind.i64 0,IV.int IntKind.i64 0,IV.int IntKind.i64 0,IV.int IntKind.i64 0,IV.int IntKind.i64 0,IV.int IntKind.i64 0,IV.int IntKind.i64 0,IV.int IntKind.i64 0,IV.int IntKind.i64 0,IV.int IntKind.i64 0,IV.int IntKind.i64 0,IV.int IntKind.i64 0,IV.int IntKind.i64 0,IV.int IntKind.i64 0,IV.int IntKind.i64 0,IV.int IntKind.i64 0,IV.int IntKind.i64 0,IV.int IntKind.i64 0,IV.int IntKind.i64 0,IV.int IntKind.i64 0,IV.int IntKind.i64 0,IV.int IntKind.i64 0,IV.int IntKind.i64 0,IV.int IntKind.i64 0,IV.int IntKind.i64 0,IV.int IntKind.i64 0,IV.int IntKind.i64 0])],erS e):=fun h=>by rw[hcall];exact n45e h N (by omega)
 have e3:∀ {e:Int},e≠0→∀ J:Int,call 46 [rp,i64 J] (erS e)=some (.one (.iv (.sl true 0 [])),erS e):=fun h J=>by rw[hcall];exact n46e h J N (by omega)
 have e4:∀ {e:Int},e≠0→call 47 [rp] (erS e)=some (.agg [.iv (.arr 64 [IV.int IntKind.i64 0,IV.int IntKind.i64 0,IV.int IntKind.i64 0,IV.int IntKind.i64 0,IV.int IntKind.i64 0,IV.int IntKind.i64 0,IV.int IntKind.i64 0,IV.int IntKind.i64 0,IV.int IntKind.i64 0,IV.int IntKind.i64 0,IV.int IntKind.i64 0,IV.int IntKind.i64 0,IV.int IntKind.i64 0,IV.int IntKind.i64 0,IV.int IntKind.i64 0,IV.int IntKind.i64 0,IV.int IntKind.i64 0,IV.int IntKind.i64 0,IV.int IntKind.i64 0,IV.int IntKind.i64 0,IV.int IntKind.i64 0,IV.int IntKind.i64 0,IV.int IntKind.i64 0,IV.int IntKind.i64 0,IV.int IntKind.i64 0,IV.int IntKind.i64 0,IV.int IntKind.i64 0,IV.int IntKind.i64 0,IV.int IntKind.i64 0,IV.int IntKind.i64 0,IV.int IntKind.i64 0,IV.int IntKind.i64 0,IV.int IntKind.i64 0,IV.int IntKind.i64 0,IV.int IntKind.i64 0,IV.int IntKind.i64 0,IV.int IntKind.i64 0,IV.int IntKind.i64 0,IV.int IntKind.i64 0,IV.int IntKind.i64 0,IV.int IntKind.i64 0,IV.int IntKind.i64 0,IV.int IntKind.i64 0,IV.int IntKind.i64 0,IV.int IntKind.i64 0,IV.int IntKind.i64 0,IV.int IntKind.i64 0,IV.int IntKind.i64 0,IV.int IntKind.i64 0,IV.int IntKind.i64 0,IV.int IntKind.i64 0,IV.int IntKind.i64 0,IV.int IntKind.i64 0,IV.int IntKind.i64 0,IV.int IntKind.i64 0,IV.int IntKind.i64 0,IV.int IntKind.i64 0,IV.int IntKind.i64 0,IV.int IntKind.i64 0,IV.int IntKind.i64 0,IV.int IntKind.i64 0,IV.int IntKind.i64 0,IV.int IntKind.i64 0,IV.int IntKind.i64 0]),.iv (.sl true 0 [])],erS e):=fun h=>by rw[hcall];exact n47e h N (by omega)
 have e5:∀ {e:Int},e≠0→call 48 [rp] (erS e)=some (.agg [.iv (.sl true 0 []),.iv (.arr 64 [IV.int IntKind.i64 0,IV.int IntKind.i64 0,IV.int IntKind.i64 0,IV.int IntKind.i64 0,IV.int IntKind.i64 0,IV.int IntKind.i64 0,IV.int IntKind.i64 0,IV.int IntKind.i64 0,IV.int IntKind.i64 0,IV.int IntKind.i64 0,IV.int IntKind.i64 0,IV.int IntKind.i64 0,IV.int IntKind.i64 0,IV.int IntKind.i64 0,IV.int IntKind.i64 0,IV.int IntKind.i64 0,IV.int IntKind.i64 0,IV.int IntKind.i64 0,IV.int IntKind.i64 0,IV.int IntKind.i64 0,IV.int IntKind.i64 0,IV.int IntKind.i64 0,IV.int IntKind.i64 0,IV.int IntKind.i64 0,IV.int IntKind.i64 0,IV.int IntKind.i64 0,IV.int IntKind.i64 0,IV.int IntKind.i64 0,IV.int IntKind.i64 0,IV.int IntKind.i64 0,IV.int IntKind.i64 0,IV.int IntKind.i64 0,IV.int IntKind.i64 0,IV.int IntKind.i64 0,IV.int IntKind.i64 0,IV.int IntKind.i64 0,IV.int IntKind.i64 0,IV.int IntKind.i64 0,IV.int IntKind.i64 0,IV.int IntKind.i64 0,IV.int IntKind.i64 0,IV.int IntKind.i64 0,IV.int IntKind.i64 0,IV.int IntKind.i64 0,IV.int IntKind.i64 0,IV.int IntKind.i64 0,IV.int IntKind.i64 0,IV.int IntKind.i64 0,IV.int IntKind.i64 0,IV.int IntKind.i64 0,IV.int IntKind.i64 0,IV.int IntKind.i64 0,IV.int IntKind.i64 0,IV.int IntKind.i64 0,IV.int IntKind.i64 0,IV.int IntKind.i64 0,IV.int IntKind.i64 0,IV.int IntKind.i64 0,IV.int IntKind.i64 0,IV.int IntKind.i64 0,IV.int IntKind.i64 0,IV.int IntKind.i64 0,IV.int IntKind.i64 0,IV.int IntKind.i64 0])],erS e):=fun h=>by rw[hcall];exact n48e h N (by omega)
 have e6:∀ {e:Int},e≠0→call 49 [rp] (erS e)=some (i64 e,erS e):=fun h=>by rw[hcall];exact n49e h N (by omega)
 have sg:=seg8 hA bs
 have ln:A .ofN bs.length=(bs.length:Int):=by rw[hA];rfl
 have x6:∀ f o n,s5=.ok f o n→call 46 [rp,i64 1024] (rdS true (by8 bs) (.ok f o n))=some (lsF 2 (l6,s6),rdS true (by8 bs) s6++lsK (l6,s6)):=fun f o n h=>by rw[hcall];exact hkv f o n h N (by omega)
 have x7:∀ f o n,s4=.ok f o n→call 47 [rp] (rdS true (by8 bs) (.ok f o n))=some (stV 2 ((v7,w7),s7),rdS true (by8 bs) s7++stK ((v7,w7),s7)):=fun f o n h=>by rw[hcall];exact hks f o n h N (by omega)
 have x8:∀ f o n,s7=.ok f o n→call 48 [rp] (rdS true (by8 bs) (.ok f o n))=some (psV 2 ((v8,l8),s8),rdS true (by8 bs) s8++psK ((v8,l8),s8)):=fun f o n h=>by rw[hcall];exact hkp f o n h N (by omega)
 have y2:∀ b,call 12 [msF b 8 true 0 (⟨2,v2,v3,v4,v5,zeros,[],zeros⟩:Msg) (okL l6)] []=some (i64 (chkM (⟨2,v2,v3,v4,v5,zeros,[],zeros⟩:Msg) (okL l6)),[]):=fun b=>by rw[hcall];exact hc2 b 8 true 0 (.inl rfl) (.inr ⟨rfl,rfl⟩) N (by omega)
 have y3:∀ b b2,call 12 [msF b 8 b2 6 (⟨3,v2,v3,v4,zeros,v7,w7,v8⟩:Msg) (okL l8)] []=some (i64 (chkM (⟨3,v2,v3,v4,zeros,v7,w7,v8⟩:Msg) (okL l8)),[]):=fun b b2=>by rw[hcall];exact hc3 b 8 b2 6 (.inl rfl) (.inl rfl) N (by omega)
 have yo:call 12 [msF true 0 true 0 (⟨(v1:Nat),v2,v3,v4,zeros,zeros,[],zeros⟩:Msg) (okL [])] []=some (i64 (chkM (⟨(v1:Nat),v2,v3,v4,zeros,zeros,[],zeros⟩:Msg) (okL [])),[]):=by rw[hcall];exact hco true 0 true 0 (.inr ⟨rfl,rfl⟩) (.inr ⟨rfl,rfl⟩) N (by omega)
 have sx6:=sgX hA l6
 have sx8:=sgX hA l8
 have sw:=sgW hA w7
 clear hkv hks hkp hc2 hc3 hco m2 m3 mo h1 h2
 obtain⟨h1,h2,h3,h4,h5,_,_,_⟩:=id R
 have bad:=fun h=>resO_bad (B:=B) hO (bs:=bs) h
 have good:=fun x h=>resO_ok (B:=B) hO (bs:=bs) (x:=x) h
 have r1:=fun f e=>@Rd.er1 _ _ _ _ _ _ _ _ _ _ _ _ _ _ _ _ _ _ _ R f e
 have r2:=fun f e=>@Rd.er2 _ _ _ _ _ _ _ _ _ _ _ _ _ _ _ _ _ _ _ R f e
 have r3:=fun f e=>@Rd.er3 _ _ _ _ _ _ _ _ _ _ _ _ _ _ _ _ _ _ _ R f e
 have r4:=fun f e=>@Rd.er4 _ _ _ _ _ _ _ _ _ _ _ _ _ _ _ _ _ _ _ R f e
 have r5:=fun f e=>@Rd.er5 _ _ _ _ _ _ _ _ _ _ _ _ _ _ _ _ _ _ _ R f e
 have r7:=fun f e=>@Rd.er7 _ _ _ _ _ _ _ _ _ _ _ _ _ _ _ _ _ _ _ R f e
 have dO:=R.do
 have d2:=R.d2
 have d3:=R.d3
 have z1:=fun f e=>@Rd.z1 _ _ _ _ _ _ _ _ _ _ _ _ _ _ _ _ _ _ _ R f e
 clear R
 obtain⟨va,hva⟩:∃ x,x=vec v4:=⟨_,rfl⟩
 obtain⟨vb,hvb⟩:∃ x,x=vec v5:=⟨_,rfl⟩
 obtain⟨vs,hvs⟩:∃ x,x=vec v7:=⟨_,rfl⟩
 obtain⟨vf,hvf⟩:∃ x,x=vec v8:=⟨_,rfl⟩
 obtain⟨V1,hV1⟩:∃ x:Int,x=(v1:Int):=⟨_,rfl⟩
 obtain⟨V2,hV2⟩:∃ x:Int,x=(v2:Int):=⟨_,rfl⟩
 obtain⟨V3,hV3⟩:∃ x:Int,x=(v3:Int):=⟨_,rfl⟩
 dsimp only[msF] at y2 y3 yo
 rw[show eWs []=[] from rfl] at y2 yo
 rw[show exs (okL [])=[] from rfl] at yo
 obtain⟨C2,hC2⟩:∃ x,x=chkM (⟨2,v2,v3,v4,v5,zeros,[],zeros⟩:Msg) (okL l6):=⟨_,rfl⟩
 obtain⟨C3,hC3⟩:∃ x,x=chkM (⟨3,v2,v3,v4,zeros,v7,w7,v8⟩:Msg) (okL l8):=⟨_,rfl⟩
 obtain⟨CO,hCO⟩:∃ x,x=chkM (⟨(v1:Nat),v2,v3,v4,zeros,zeros,[],zeros⟩:Msg) (okL []):=⟨_,rfl⟩
 rw[← hva,← hvb,← hC2,← hV2,← hV3,← zerosR] at y2
 rw[← hva,← hvs,← hvf,← hC3,← hV2,← hV3,← zerosR] at y3
 rw[← hva,← hCO,← hV1,← hV2,← hV3,← zerosR] at yo
 obtain⟨RF,hRF⟩:∃ x,x=outF (resO B):=⟨_,rfl⟩
 obtain⟨RK,hRK⟩:∃ x,x=outK (resO B):=⟨_,rfl⟩
 rw[← hRF,← hRK]
 have none':resD bs=none→RF=.tup [(true,[.iv (.int .i64 0),.iv (.int .i64 0),.iv (.int .i64 0),.iv (.arr 64 [IV.int IntKind.i64 0,IV.int IntKind.i64 0,IV.int IntKind.i64 0,IV.int IntKind.i64 0,IV.int IntKind.i64 0,IV.int IntKind.i64 0,IV.int IntKind.i64 0,IV.int IntKind.i64 0,IV.int IntKind.i64 0,IV.int IntKind.i64 0,IV.int IntKind.i64 0,IV.int IntKind.i64 0,IV.int IntKind.i64 0,IV.int IntKind.i64 0,IV.int IntKind.i64 0,IV.int IntKind.i64 0,IV.int IntKind.i64 0,IV.int IntKind.i64 0,IV.int IntKind.i64 0,IV.int IntKind.i64 0,IV.int IntKind.i64 0,IV.int IntKind.i64 0,IV.int IntKind.i64 0,IV.int IntKind.i64 0,IV.int IntKind.i64 0,IV.int IntKind.i64 0,IV.int IntKind.i64 0,IV.int IntKind.i64 0,IV.int IntKind.i64 0,IV.int IntKind.i64 0,IV.int IntKind.i64 0,IV.int IntKind.i64 0,IV.int IntKind.i64 0,IV.int IntKind.i64 0,IV.int IntKind.i64 0,IV.int IntKind.i64 0,IV.int IntKind.i64 0,IV.int IntKind.i64 0,IV.int IntKind.i64 0,IV.int IntKind.i64 0,IV.int IntKind.i64 0,IV.int IntKind.i64 0,IV.int IntKind.i64 0,IV.int IntKind.i64 0,IV.int IntKind.i64 0,IV.int IntKind.i64 0,IV.int IntKind.i64 0,IV.int IntKind.i64 0,IV.int IntKind.i64 0,IV.int IntKind.i64 0,IV.int IntKind.i64 0,IV.int IntKind.i64 0,IV.int IntKind.i64 0,IV.int IntKind.i64 0,IV.int IntKind.i64 0,IV.int IntKind.i64 0,IV.int IntKind.i64 0,IV.int IntKind.i64 0,IV.int IntKind.i64 0,IV.int IntKind.i64 0,IV.int IntKind.i64 0,IV.int IntKind.i64 0,IV.int IntKind.i64 0,IV.int IntKind.i64 0]),.iv (.arr 64 [IV.int IntKind.i64 0,IV.int IntKind.i64 0,IV.int IntKind.i64 0,IV.int IntKind.i64 0,IV.int IntKind.i64 0,IV.int IntKind.i64 0,IV.int IntKind.i64 0,IV.int IntKind.i64 0,IV.int IntKind.i64 0,IV.int IntKind.i64 0,IV.int IntKind.i64 0,IV.int IntKind.i64 0,IV.int IntKind.i64 0,IV.int IntKind.i64 0,IV.int IntKind.i64 0,IV.int IntKind.i64 0,IV.int IntKind.i64 0,IV.int IntKind.i64 0,IV.int IntKind.i64 0,IV.int IntKind.i64 0,IV.int IntKind.i64 0,IV.int IntKind.i64 0,IV.int IntKind.i64 0,IV.int IntKind.i64 0,IV.int IntKind.i64 0,IV.int IntKind.i64 0,IV.int IntKind.i64 0,IV.int IntKind.i64 0,IV.int IntKind.i64 0,IV.int IntKind.i64 0,IV.int IntKind.i64 0,IV.int IntKind.i64 0,IV.int IntKind.i64 0,IV.int IntKind.i64 0,IV.int IntKind.i64 0,IV.int IntKind.i64 0,IV.int IntKind.i64 0,IV.int IntKind.i64 0,IV.int IntKind.i64 0,IV.int IntKind.i64 0,IV.int IntKind.i64 0,IV.int IntKind.i64 0,IV.int IntKind.i64 0,IV.int IntKind.i64 0,IV.int IntKind.i64 0,IV.int IntKind.i64 0,IV.int IntKind.i64 0,IV.int IntKind.i64 0,IV.int IntKind.i64 0,IV.int IntKind.i64 0,IV.int IntKind.i64 0,IV.int IntKind.i64 0,IV.int IntKind.i64 0,IV.int IntKind.i64 0,IV.int IntKind.i64 0,IV.int IntKind.i64 0,IV.int IntKind.i64 0,IV.int IntKind.i64 0,IV.int IntKind.i64 0,IV.int IntKind.i64 0,IV.int IntKind.i64 0,IV.int IntKind.i64 0,IV.int IntKind.i64 0,IV.int IntKind.i64 0]),.iv (.sl true 0 []),.iv (.arr 64 [IV.int IntKind.i64 0,IV.int IntKind.i64 0,IV.int IntKind.i64 0,IV.int IntKind.i64 0,IV.int IntKind.i64 0,IV.int IntKind.i64 0,IV.int IntKind.i64 0,IV.int IntKind.i64 0,IV.int IntKind.i64 0,IV.int IntKind.i64 0,IV.int IntKind.i64 0,IV.int IntKind.i64 0,IV.int IntKind.i64 0,IV.int IntKind.i64 0,IV.int IntKind.i64 0,IV.int IntKind.i64 0,IV.int IntKind.i64 0,IV.int IntKind.i64 0,IV.int IntKind.i64 0,IV.int IntKind.i64 0,IV.int IntKind.i64 0,IV.int IntKind.i64 0,IV.int IntKind.i64 0,IV.int IntKind.i64 0,IV.int IntKind.i64 0,IV.int IntKind.i64 0,IV.int IntKind.i64 0,IV.int IntKind.i64 0,IV.int IntKind.i64 0,IV.int IntKind.i64 0,IV.int IntKind.i64 0,IV.int IntKind.i64 0,IV.int IntKind.i64 0,IV.int IntKind.i64 0,IV.int IntKind.i64 0,IV.int IntKind.i64 0,IV.int IntKind.i64 0,IV.int IntKind.i64 0,IV.int IntKind.i64 0,IV.int IntKind.i64 0,IV.int IntKind.i64 0,IV.int IntKind.i64 0,IV.int IntKind.i64 0,IV.int IntKind.i64 0,IV.int IntKind.i64 0,IV.int IntKind.i64 0,IV.int IntKind.i64 0,IV.int IntKind.i64 0,IV.int IntKind.i64 0,IV.int IntKind.i64 0,IV.int IntKind.i64 0,IV.int IntKind.i64 0,IV.int IntKind.i64 0,IV.int IntKind.i64 0,IV.int IntKind.i64 0,IV.int IntKind.i64 0,IV.int IntKind.i64 0,IV.int IntKind.i64 0,IV.int IntKind.i64 0,IV.int IntKind.i64 0,IV.int IntKind.i64 0,IV.int IntKind.i64 0,IV.int IntKind.i64 0,IV.int IntKind.i64 0]),.iv (.sl true 0 []),.iv (.arr 64 [IV.int IntKind.i64 0,IV.int IntKind.i64 0,IV.int IntKind.i64 0,IV.int IntKind.i64 0,IV.int IntKind.i64 0,IV.int IntKind.i64 0,IV.int IntKind.i64 0,IV.int IntKind.i64 0,IV.int IntKind.i64 0,IV.int IntKind.i64 0,IV.int IntKind.i64 0,IV.int IntKind.i64 0,IV.int IntKind.i64 0,IV.int IntKind.i64 0,IV.int IntKind.i64 0,IV.int IntKind.i64 0,IV.int IntKind.i64 0,IV.int IntKind.i64 0,IV.int IntKind.i64 0,IV.int IntKind.i64 0,IV.int IntKind.i64 0,IV.int IntKind.i64 0,IV.int IntKind.i64 0,IV.int IntKind.i64 0,IV.int IntKind.i64 0,IV.int IntKind.i64 0,IV.int IntKind.i64 0,IV.int IntKind.i64 0,IV.int IntKind.i64 0,IV.int IntKind.i64 0,IV.int IntKind.i64 0,IV.int IntKind.i64 0,IV.int IntKind.i64 0,IV.int IntKind.i64 0,IV.int IntKind.i64 0,IV.int IntKind.i64 0,IV.int IntKind.i64 0,IV.int IntKind.i64 0,IV.int IntKind.i64 0,IV.int IntKind.i64 0,IV.int IntKind.i64 0,IV.int IntKind.i64 0,IV.int IntKind.i64 0,IV.int IntKind.i64 0,IV.int IntKind.i64 0,IV.int IntKind.i64 0,IV.int IntKind.i64 0,IV.int IntKind.i64 0,IV.int IntKind.i64 0,IV.int IntKind.i64 0,IV.int IntKind.i64 0,IV.int IntKind.i64 0,IV.int IntKind.i64 0,IV.int IntKind.i64 0,IV.int IntKind.i64 0,IV.int IntKind.i64 0,IV.int IntKind.i64 0,IV.int IntKind.i64 0,IV.int IntKind.i64 0,IV.int IntKind.i64 0,IV.int IntKind.i64 0,IV.int IntKind.i64 0,IV.int IntKind.i64 0,IV.int IntKind.i64 0])]),(false,[.iv (.int .i64 3)])]∧RK=[]:=fun h=>by
  rw[hRF,hRK,bad h];exact⟨rfl,rfl⟩
 have some2:∀ f o,v1=2→s6=.ok f o 0→C2=0→RF=.tup [(true,[.iv (.int .i64 2),.iv (.int .i64 V2),.iv (.int .i64 V3),.iv (.arr 64 va),.iv (.arr 64 vb),.slo 0 0 l6.length,.iv (.arr 64 [IV.int IntKind.i64 0,IV.int IntKind.i64 0,IV.int IntKind.i64 0,IV.int IntKind.i64 0,IV.int IntKind.i64 0,IV.int IntKind.i64 0,IV.int IntKind.i64 0,IV.int IntKind.i64 0,IV.int IntKind.i64 0,IV.int IntKind.i64 0,IV.int IntKind.i64 0,IV.int IntKind.i64 0,IV.int IntKind.i64 0,IV.int IntKind.i64 0,IV.int IntKind.i64 0,IV.int IntKind.i64 0,IV.int IntKind.i64 0,IV.int IntKind.i64 0,IV.int IntKind.i64 0,IV.int IntKind.i64 0,IV.int IntKind.i64 0,IV.int IntKind.i64 0,IV.int IntKind.i64 0,IV.int IntKind.i64 0,IV.int IntKind.i64 0,IV.int IntKind.i64 0,IV.int IntKind.i64 0,IV.int IntKind.i64 0,IV.int IntKind.i64 0,IV.int IntKind.i64 0,IV.int IntKind.i64 0,IV.int IntKind.i64 0,IV.int IntKind.i64 0,IV.int IntKind.i64 0,IV.int IntKind.i64 0,IV.int IntKind.i64 0,IV.int IntKind.i64 0,IV.int IntKind.i64 0,IV.int IntKind.i64 0,IV.int IntKind.i64 0,IV.int IntKind.i64 0,IV.int IntKind.i64 0,IV.int IntKind.i64 0,IV.int IntKind.i64 0,IV.int IntKind.i64 0,IV.int IntKind.i64 0,IV.int IntKind.i64 0,IV.int IntKind.i64 0,IV.int IntKind.i64 0,IV.int IntKind.i64 0,IV.int IntKind.i64 0,IV.int IntKind.i64 0,IV.int IntKind.i64 0,IV.int IntKind.i64 0,IV.int IntKind.i64 0,IV.int IntKind.i64 0,IV.int IntKind.i64 0,IV.int IntKind.i64 0,IV.int IntKind.i64 0,IV.int IntKind.i64 0,IV.int IntKind.i64 0,IV.int IntKind.i64 0,IV.int IntKind.i64 0,IV.int IntKind.i64 0]),.iv (.sl true 0 []),.iv (.arr 64 [IV.int IntKind.i64 0,IV.int IntKind.i64 0,IV.int IntKind.i64 0,IV.int IntKind.i64 0,IV.int IntKind.i64 0,IV.int IntKind.i64 0,IV.int IntKind.i64 0,IV.int IntKind.i64 0,IV.int IntKind.i64 0,IV.int IntKind.i64 0,IV.int IntKind.i64 0,IV.int IntKind.i64 0,IV.int IntKind.i64 0,IV.int IntKind.i64 0,IV.int IntKind.i64 0,IV.int IntKind.i64 0,IV.int IntKind.i64 0,IV.int IntKind.i64 0,IV.int IntKind.i64 0,IV.int IntKind.i64 0,IV.int IntKind.i64 0,IV.int IntKind.i64 0,IV.int IntKind.i64 0,IV.int IntKind.i64 0,IV.int IntKind.i64 0,IV.int IntKind.i64 0,IV.int IntKind.i64 0,IV.int IntKind.i64 0,IV.int IntKind.i64 0,IV.int IntKind.i64 0,IV.int IntKind.i64 0,IV.int IntKind.i64 0,IV.int IntKind.i64 0,IV.int IntKind.i64 0,IV.int IntKind.i64 0,IV.int IntKind.i64 0,IV.int IntKind.i64 0,IV.int IntKind.i64 0,IV.int IntKind.i64 0,IV.int IntKind.i64 0,IV.int IntKind.i64 0,IV.int IntKind.i64 0,IV.int IntKind.i64 0,IV.int IntKind.i64 0,IV.int IntKind.i64 0,IV.int IntKind.i64 0,IV.int IntKind.i64 0,IV.int IntKind.i64 0,IV.int IntKind.i64 0,IV.int IntKind.i64 0,IV.int IntKind.i64 0,IV.int IntKind.i64 0,IV.int IntKind.i64 0,IV.int IntKind.i64 0,IV.int IntKind.i64 0,IV.int IntKind.i64 0,IV.int IntKind.i64 0,IV.int IntKind.i64 0,IV.int IntKind.i64 0,IV.int IntKind.i64 0,IV.int IntKind.i64 0,IV.int IntKind.i64 0,IV.int IntKind.i64 0,IV.int IntKind.i64 0])]),(false,[.iv (.int .i64 0)])]∧RK=[.arr false false 8 (exs (okL l6))]:=fun f o h h' hc=>by
  have hd:=d2 h
  rw[h'] at hd
  rw[hRF,hRK,good _ (resD_ok hd (hC2 ▸ hc)),hva,hvb,hV2,hV3];exact⟨rfl,rfl⟩
 have some3:∀ f o,v1=3→s8=.ok f o 0→C3=0→RF=.tup [(true,[.iv (.int .i64 3),.iv (.int .i64 V2),.iv (.int .i64 V3),.iv (.arr 64 va),.iv (.arr 64 [IV.int IntKind.i64 0,IV.int IntKind.i64 0,IV.int IntKind.i64 0,IV.int IntKind.i64 0,IV.int IntKind.i64 0,IV.int IntKind.i64 0,IV.int IntKind.i64 0,IV.int IntKind.i64 0,IV.int IntKind.i64 0,IV.int IntKind.i64 0,IV.int IntKind.i64 0,IV.int IntKind.i64 0,IV.int IntKind.i64 0,IV.int IntKind.i64 0,IV.int IntKind.i64 0,IV.int IntKind.i64 0,IV.int IntKind.i64 0,IV.int IntKind.i64 0,IV.int IntKind.i64 0,IV.int IntKind.i64 0,IV.int IntKind.i64 0,IV.int IntKind.i64 0,IV.int IntKind.i64 0,IV.int IntKind.i64 0,IV.int IntKind.i64 0,IV.int IntKind.i64 0,IV.int IntKind.i64 0,IV.int IntKind.i64 0,IV.int IntKind.i64 0,IV.int IntKind.i64 0,IV.int IntKind.i64 0,IV.int IntKind.i64 0,IV.int IntKind.i64 0,IV.int IntKind.i64 0,IV.int IntKind.i64 0,IV.int IntKind.i64 0,IV.int IntKind.i64 0,IV.int IntKind.i64 0,IV.int IntKind.i64 0,IV.int IntKind.i64 0,IV.int IntKind.i64 0,IV.int IntKind.i64 0,IV.int IntKind.i64 0,IV.int IntKind.i64 0,IV.int IntKind.i64 0,IV.int IntKind.i64 0,IV.int IntKind.i64 0,IV.int IntKind.i64 0,IV.int IntKind.i64 0,IV.int IntKind.i64 0,IV.int IntKind.i64 0,IV.int IntKind.i64 0,IV.int IntKind.i64 0,IV.int IntKind.i64 0,IV.int IntKind.i64 0,IV.int IntKind.i64 0,IV.int IntKind.i64 0,IV.int IntKind.i64 0,IV.int IntKind.i64 0,IV.int IntKind.i64 0,IV.int IntKind.i64 0,IV.int IntKind.i64 0,IV.int IntKind.i64 0,IV.int IntKind.i64 0]),.slo 0 0 l8.length,.iv (.arr 64 vs),.slo 1 0 w7.length,.iv (.arr 64 vf)]),(false,[.iv (.int .i64 0)])]∧RK=[.arr false false 8 (exs (okL l8)),.arr false false 6 (eWs w7)]:=fun f o h h' hc=>by
  have hd:=d3 h
  rw[h'] at hd
  rw[hRF,hRK,good _ (resD_ok hd (hC3 ▸ hc)),hva,hvs,hvf,hV2,hV3];exact⟨rfl,rfl⟩
 have someO:∀ f o,v1≠2→v1≠3→s4=.ok f o 0→CO=0→V1=1∧RF=.tup [(true,[.iv (.int .i64 1),.iv (.int .i64 V2),.iv (.int .i64 V3),.iv (.arr 64 va),.iv (.arr 64 [IV.int IntKind.i64 0,IV.int IntKind.i64 0,IV.int IntKind.i64 0,IV.int IntKind.i64 0,IV.int IntKind.i64 0,IV.int IntKind.i64 0,IV.int IntKind.i64 0,IV.int IntKind.i64 0,IV.int IntKind.i64 0,IV.int IntKind.i64 0,IV.int IntKind.i64 0,IV.int IntKind.i64 0,IV.int IntKind.i64 0,IV.int IntKind.i64 0,IV.int IntKind.i64 0,IV.int IntKind.i64 0,IV.int IntKind.i64 0,IV.int IntKind.i64 0,IV.int IntKind.i64 0,IV.int IntKind.i64 0,IV.int IntKind.i64 0,IV.int IntKind.i64 0,IV.int IntKind.i64 0,IV.int IntKind.i64 0,IV.int IntKind.i64 0,IV.int IntKind.i64 0,IV.int IntKind.i64 0,IV.int IntKind.i64 0,IV.int IntKind.i64 0,IV.int IntKind.i64 0,IV.int IntKind.i64 0,IV.int IntKind.i64 0,IV.int IntKind.i64 0,IV.int IntKind.i64 0,IV.int IntKind.i64 0,IV.int IntKind.i64 0,IV.int IntKind.i64 0,IV.int IntKind.i64 0,IV.int IntKind.i64 0,IV.int IntKind.i64 0,IV.int IntKind.i64 0,IV.int IntKind.i64 0,IV.int IntKind.i64 0,IV.int IntKind.i64 0,IV.int IntKind.i64 0,IV.int IntKind.i64 0,IV.int IntKind.i64 0,IV.int IntKind.i64 0,IV.int IntKind.i64 0,IV.int IntKind.i64 0,IV.int IntKind.i64 0,IV.int IntKind.i64 0,IV.int IntKind.i64 0,IV.int IntKind.i64 0,IV.int IntKind.i64 0,IV.int IntKind.i64 0,IV.int IntKind.i64 0,IV.int IntKind.i64 0,IV.int IntKind.i64 0,IV.int IntKind.i64 0,IV.int IntKind.i64 0,IV.int IntKind.i64 0,IV.int IntKind.i64 0,IV.int IntKind.i64 0]),.iv (.sl true 0 []),.iv (.arr 64 [IV.int IntKind.i64 0,IV.int IntKind.i64 0,IV.int IntKind.i64 0,IV.int IntKind.i64 0,IV.int IntKind.i64 0,IV.int IntKind.i64 0,IV.int IntKind.i64 0,IV.int IntKind.i64 0,IV.int IntKind.i64 0,IV.int IntKind.i64 0,IV.int IntKind.i64 0,IV.int IntKind.i64 0,IV.int IntKind.i64 0,IV.int IntKind.i64 0,IV.int IntKind.i64 0,IV.int IntKind.i64 0,IV.int IntKind.i64 0,IV.int IntKind.i64 0,IV.int IntKind.i64 0,IV.int IntKind.i64 0,IV.int IntKind.i64 0,IV.int IntKind.i64 0,IV.int IntKind.i64 0,IV.int IntKind.i64 0,IV.int IntKind.i64 0,IV.int IntKind.i64 0,IV.int IntKind.i64 0,IV.int IntKind.i64 0,IV.int IntKind.i64 0,IV.int IntKind.i64 0,IV.int IntKind.i64 0,IV.int IntKind.i64 0,IV.int IntKind.i64 0,IV.int IntKind.i64 0,IV.int IntKind.i64 0,IV.int IntKind.i64 0,IV.int IntKind.i64 0,IV.int IntKind.i64 0,IV.int IntKind.i64 0,IV.int IntKind.i64 0,IV.int IntKind.i64 0,IV.int IntKind.i64 0,IV.int IntKind.i64 0,IV.int IntKind.i64 0,IV.int IntKind.i64 0,IV.int IntKind.i64 0,IV.int IntKind.i64 0,IV.int IntKind.i64 0,IV.int IntKind.i64 0,IV.int IntKind.i64 0,IV.int IntKind.i64 0,IV.int IntKind.i64 0,IV.int IntKind.i64 0,IV.int IntKind.i64 0,IV.int IntKind.i64 0,IV.int IntKind.i64 0,IV.int IntKind.i64 0,IV.int IntKind.i64 0,IV.int IntKind.i64 0,IV.int IntKind.i64 0,IV.int IntKind.i64 0,IV.int IntKind.i64 0,IV.int IntKind.i64 0,IV.int IntKind.i64 0]),.iv (.sl true 0 []),.iv (.arr 64 [IV.int IntKind.i64 0,IV.int IntKind.i64 0,IV.int IntKind.i64 0,IV.int IntKind.i64 0,IV.int IntKind.i64 0,IV.int IntKind.i64 0,IV.int IntKind.i64 0,IV.int IntKind.i64 0,IV.int IntKind.i64 0,IV.int IntKind.i64 0,IV.int IntKind.i64 0,IV.int IntKind.i64 0,IV.int IntKind.i64 0,IV.int IntKind.i64 0,IV.int IntKind.i64 0,IV.int IntKind.i64 0,IV.int IntKind.i64 0,IV.int IntKind.i64 0,IV.int IntKind.i64 0,IV.int IntKind.i64 0,IV.int IntKind.i64 0,IV.int IntKind.i64 0,IV.int IntKind.i64 0,IV.int IntKind.i64 0,IV.int IntKind.i64 0,IV.int IntKind.i64 0,IV.int IntKind.i64 0,IV.int IntKind.i64 0,IV.int IntKind.i64 0,IV.int IntKind.i64 0,IV.int IntKind.i64 0,IV.int IntKind.i64 0,IV.int IntKind.i64 0,IV.int IntKind.i64 0,IV.int IntKind.i64 0,IV.int IntKind.i64 0,IV.int IntKind.i64 0,IV.int IntKind.i64 0,IV.int IntKind.i64 0,IV.int IntKind.i64 0,IV.int IntKind.i64 0,IV.int IntKind.i64 0,IV.int IntKind.i64 0,IV.int IntKind.i64 0,IV.int IntKind.i64 0,IV.int IntKind.i64 0,IV.int IntKind.i64 0,IV.int IntKind.i64 0,IV.int IntKind.i64 0,IV.int IntKind.i64 0,IV.int IntKind.i64 0,IV.int IntKind.i64 0,IV.int IntKind.i64 0,IV.int IntKind.i64 0,IV.int IntKind.i64 0,IV.int IntKind.i64 0,IV.int IntKind.i64 0,IV.int IntKind.i64 0,IV.int IntKind.i64 0,IV.int IntKind.i64 0,IV.int IntKind.i64 0,IV.int IntKind.i64 0,IV.int IntKind.i64 0,IV.int IntKind.i64 0])]),(false,[.iv (.int .i64 0)])]∧RK=[]:=fun f o h h3 h' hc=>by
  have hd:=dO h h3
  rw[h'] at hd
  have hc':=hCO ▸ hc
  have hk1:v1=1:=by
   rcases chkM_k hc' with h|h|h<;>dsimp only at h<;>omega
  subst hk1
  rw[hRF,hRK,good _ (resD_ok hd hc'),hva,hV1,hV2,hV3];exact⟨rfl,rfl,rfl⟩
 clear hRF hRK bad good hO hb h8 hl hbl
 have f0:0+bs.length=bs.length:=by omega
 dsimp only[rd,List.cons_append,List.nil_append] at *
 generalize by8 B=xs at *
 generalize by8 bs=es at *
 generalize bs.length=bn at *
 have k1:=nm 3 (.ok false 0 bn) f0
 rw[h1] at k1
 dsimp only at k1
 rw[← hV1] at k1
 clear h1
 apply wpV_seq;refine wpV_ofH (by ((try(conv=>lhs;cbv));(exact rfl))) ?_
 apply wpV_seq;refine wpV_ofH (by ((try(conv=>lhs;cbv));(repeat((first|(rewrite[op]));(try(conv=>lhs;cbv))));(exact rfl))) ?_
 apply wpV_seq;refine wpV_ofH (by ((try(conv=>lhs;cbv));(repeat((first|(rewrite[K.neF];rotate_left;focus((try simp only[K.df,X.df,V.df,true_and,and_true])<;>omega)));(try(conv=>lhs;cbv))));(exact rfl))) ?_
 apply wpV_seq;refine wpV_ofH (by ((try(conv=>lhs;cbv));(repeat((first|(rewrite[sg])|(rewrite[rd']));(try(conv=>lhs;cbv))));(exact rfl))) ?_
 apply wpV_seq
 cases s1 with
 | er g1 u1 =>
  have fx:u1≠0:=f1
  dsimp only[rdS,RS.isOk,cond_true,cond_false,vecF,List.cons_append,List.nil_append,List.append_nil] at k1
  obtain⟨rfl,rfl⟩:=none' (r1 _ _ rfl)
  obtain rfl:V1=0:=by rw[hV1,z1 _ _ rfl];rfl
  have e1:=e1 fx
  have e2:=e2 fx
  have e3:=e3 fx
  have e4:=e4 fx
  have e5:=e5 fx
  have e6:=e6 fx
  clear nm vc en x6 x7 x8 y2 y3 yo none' some2 some3 someO
  refine wpV_ofH (by ((try(conv=>lhs;cbv));(repeat((first|(rewrite[k1]));(try(conv=>lhs;cbv))));(exact rfl))) ?_
  apply wpV_seq;refine wpV_ofH (by ((try(conv=>lhs;cbv));(repeat((first|(rewrite[e1]));(try(conv=>lhs;cbv))));(exact rfl))) ?_
  apply wpV_seq;refine wpV_ofH (by ((try(conv=>lhs;cbv));(repeat((first|(rewrite[e1]));(try(conv=>lhs;cbv))));(exact rfl))) ?_
  apply wpV_seq;refine wpV_ofH (by ((try(conv=>lhs;cbv));(repeat((first|(rewrite[e2]));(try(conv=>lhs;cbv))));(exact rfl))) ?_
  refine wpV_ofH (by ((try(conv=>lhs;cbv));(repeat((first|(rewrite[e2])|(rewrite[e4])|(rewrite[e6])|(rewrite[K.neT];rotate_left;focus((try simp only[K.df,X.df,V.df,true_and,and_true])<;>omega))|(rewrite[K.eqF];rotate_left;focus((try simp only[K.df,X.df,V.df,true_and,and_true])<;>omega)));(try(conv=>lhs;cbv))));(exact rfl))) ?_
  (show finV _ _ _=some _;((try(conv=>lhs;cbv));(try(with_reducible rfl)));(try rfl))
 | ok g1 o1 n1 =>
  dsimp only[rdS,RS.isOk,cond_true,cond_false,vecF,List.cons_append,List.nil_append,List.append_nil] at k1
  refine wpV_ofH (by ((try(conv=>lhs;cbv));(repeat((first|(rewrite[k1]));(try(conv=>lhs;cbv))));(exact rfl))) ?_
  apply wpV_seq
  cases s2 with
  | er g2 u2 =>
   have fx:u2≠0:=f2
   have k2:=nm 63 (.ok g1 o1 n1) f1
   rw[h2] at k2
   dsimp only[rdS,RS.isOk,cond_true,cond_false,vecF,List.cons_append,List.nil_append,List.append_nil] at k2
   rw[← hV2] at k2
   obtain⟨rfl,rfl⟩:=none' (r2 _ _ rfl)
   have e1:=e1 fx
   have e2:=e2 fx
   have e3:=e3 fx
   have e4:=e4 fx
   have e5:=e5 fx
   have e6:=e6 fx
   clear nm vc en x6 x7 x8 y2 y3 yo none' some2 some3 someO
   refine wpV_ofH (by ((try(conv=>lhs;cbv));(repeat((first|(rewrite[k2]));(try(conv=>lhs;cbv))));(exact rfl))) ?_
   apply wpV_seq;refine wpV_ofH (by ((try(conv=>lhs;cbv));(repeat((first|(rewrite[e1]));(try(conv=>lhs;cbv))));(exact rfl))) ?_
   apply wpV_seq;refine wpV_ofH (by ((try(conv=>lhs;cbv));(repeat((first|(rewrite[e2]));(try(conv=>lhs;cbv))));(exact rfl))) ?_
   rcases (show V1=2∨V1=3∨V1≠2∧V1≠3 by omega) with rfl|rfl|⟨w2,w3⟩
   all_goals
    refine wpV_ofH (by ((try(conv=>lhs;cbv));(repeat((first|(rewrite[e2])|(rewrite[e3])|(rewrite[e4])|(rewrite[e5])|(rewrite[e6])|(rewrite[K.eqT];rotate_left;focus((try simp only[K.df,X.df,V.df,true_and,and_true])<;>omega))|(rewrite[K.neT];rotate_left;focus((try simp only[K.df,X.df,V.df,true_and,and_true])<;>omega))|(rewrite[K.eqF];rotate_left;focus((try simp only[K.df,X.df,V.df,true_and,and_true])<;>omega)));(try(conv=>lhs;cbv))));(exact rfl))) ?_
    (show finV _ _ _=some _;((try(conv=>lhs;cbv));(try(with_reducible rfl)));(try rfl))
  | ok g2 o2 n2 =>
   have k2:=nm 63 (.ok g1 o1 n1) f1
   rw[h2] at k2
   dsimp only[rdS,RS.isOk,cond_true,cond_false,vecF,List.cons_append,List.nil_append,List.append_nil] at k2
   rw[← hV2] at k2
   refine wpV_ofH (by ((try(conv=>lhs;cbv));(repeat((first|(rewrite[k2]));(try(conv=>lhs;cbv))));(exact rfl))) ?_
   apply wpV_seq
   cases s3 with
   | er g3 u3 =>
    have fx:u3≠0:=f3
    have k3:=nm 63 (.ok g2 o2 n2) f2
    rw[h3] at k3
    dsimp only[rdS,RS.isOk,cond_true,cond_false,vecF,List.cons_append,List.nil_append,List.append_nil] at k3
    rw[← hV3] at k3
    obtain⟨rfl,rfl⟩:=none' (r3 _ _ rfl)
    have e1:=e1 fx
    have e2:=e2 fx
    have e3:=e3 fx
    have e4:=e4 fx
    have e5:=e5 fx
    have e6:=e6 fx
    clear nm vc en x6 x7 x8 y2 y3 yo none' some2 some3 someO
    refine wpV_ofH (by ((try(conv=>lhs;cbv));(repeat((first|(rewrite[k3]));(try(conv=>lhs;cbv))));(exact rfl))) ?_
    apply wpV_seq;refine wpV_ofH (by ((try(conv=>lhs;cbv));(repeat((first|(rewrite[e2]));(try(conv=>lhs;cbv))));(exact rfl))) ?_
    rcases (show V1=2∨V1=3∨V1≠2∧V1≠3 by omega) with rfl|rfl|⟨w2,w3⟩
    all_goals
     refine wpV_ofH (by ((try(conv=>lhs;cbv));(repeat((first|(rewrite[e2])|(rewrite[e3])|(rewrite[e4])|(rewrite[e5])|(rewrite[e6])|(rewrite[K.eqT];rotate_left;focus((try simp only[K.df,X.df,V.df,true_and,and_true])<;>omega))|(rewrite[K.neT];rotate_left;focus((try simp only[K.df,X.df,V.df,true_and,and_true])<;>omega))|(rewrite[K.eqF];rotate_left;focus((try simp only[K.df,X.df,V.df,true_and,and_true])<;>omega)));(try(conv=>lhs;cbv))));(exact rfl))) ?_
     (show finV _ _ _=some _;((try(conv=>lhs;cbv));(try(with_reducible rfl)));(try rfl))
   | ok g3 o3 n3 =>
    have k3:=nm 63 (.ok g2 o2 n2) f2
    rw[h3] at k3
    dsimp only[rdS,RS.isOk,cond_true,cond_false,vecF,List.cons_append,List.nil_append,List.append_nil] at k3
    rw[← hV3] at k3
    refine wpV_ofH (by ((try(conv=>lhs;cbv));(repeat((first|(rewrite[k3]));(try(conv=>lhs;cbv))));(exact rfl))) ?_
    apply wpV_seq
    cases s4 with
    | er g4 u4 =>
     have fx:u4≠0:=f4
     have k4:=vc g3 o3 n3 f3
     rw[h4] at k4
     dsimp only[rdS,RS.isOk,cond_true,cond_false,vecF,List.cons_append,List.nil_append,List.append_nil] at k4
     rw[← hva] at k4
     obtain⟨rfl,rfl⟩:=none' (r4 _ _ rfl)
     have e1:=e1 fx
     have e2:=e2 fx
     have e3:=e3 fx
     have e4:=e4 fx
     have e5:=e5 fx
     have e6:=e6 fx
     clear nm vc en x6 x7 x8 y2 y3 yo none' some2 some3 someO
     refine wpV_ofH (by ((try(conv=>lhs;cbv));(repeat((first|(rewrite[k4]));(try(conv=>lhs;cbv))));(exact rfl))) ?_
     rcases (show V1=2∨V1=3∨V1≠2∧V1≠3 by omega) with rfl|rfl|⟨w2,w3⟩
     all_goals
      refine wpV_ofH (by ((try(conv=>lhs;cbv));(repeat((first|(rewrite[e2])|(rewrite[e3])|(rewrite[e4])|(rewrite[e5])|(rewrite[e6])|(rewrite[K.eqT];rotate_left;focus((try simp only[K.df,X.df,V.df,true_and,and_true])<;>omega))|(rewrite[K.neT];rotate_left;focus((try simp only[K.df,X.df,V.df,true_and,and_true])<;>omega))|(rewrite[K.eqF];rotate_left;focus((try simp only[K.df,X.df,V.df,true_and,and_true])<;>omega)));(try(conv=>lhs;cbv))));(exact rfl))) ?_
      (show finV _ _ _=some _;((try(conv=>lhs;cbv));(try(with_reducible rfl)));(try rfl))
    | ok g4 o4 n4 =>
     have k4:=vc g3 o3 n3 f3
     rw[h4] at k4
     dsimp only[rdS,RS.isOk,cond_true,cond_false,vecF,List.cons_append,List.nil_append,List.append_nil] at k4
     rw[← hva] at k4
     refine wpV_ofH (by ((try(conv=>lhs;cbv));(repeat((first|(rewrite[k4]));(try(conv=>lhs;cbv))));(exact rfl))) ?_
     clear nm
     rcases (show v1=2∨v1=3∨v1≠2∧v1≠3 by omega) with rfl|rfl|⟨w2,w3⟩
     ·obtain rfl:V1=2:=hV1
      have k5:=vc g4 o4 n4 f4
      rw[h5] at k5
      clear vc x7 x8 y3 yo some3 someO
      cases s5 with
      | er g5 u5 =>
       have fx:u5≠0:=f5
       dsimp only[rdS,RS.isOk,cond_true,cond_false,vecF,List.cons_append,List.nil_append,List.append_nil] at k5
       rw[← hvb] at k5
       obtain⟨rfl,rfl⟩:=none' (r5 _ _ rfl rfl)
       have e3:=e3 fx
       have e6:=e6 fx
       refine wpV_ofH (by ((try(conv=>lhs;cbv));(repeat((first|(rewrite[k5])|(rewrite[e3])|(rewrite[e6])|(rewrite[K.eqT];rotate_left;focus((try simp only[K.df,X.df,V.df,true_and,and_true])<;>omega))|(rewrite[K.neT];rotate_left;focus((try simp only[K.df,X.df,V.df,true_and,and_true])<;>omega)));(try(conv=>lhs;cbv))));(exact rfl))) ?_
       (show finV _ _ _=some _;((try(conv=>lhs;cbv));(try(with_reducible rfl)));(try rfl))
      | ok g5 o5 n5 =>
       dsimp only[rdS,RS.isOk,cond_true,cond_false,vecF,List.cons_append,List.nil_append,List.append_nil] at k5
       rw[← hvb] at k5
       have k6:=x6 _ _ _ rfl
       cases s6 with
       | er g6 u6 =>
        have fx:u6≠0:=f6
        obtain⟨rfl,rfl⟩:=none' (resD_er (d2 rfl))
        have e6:=e6 fx
        clear some2 none' x6
        rw[show lsF 2 (l6,RS.er g6 u6)=.one (.iv (.sl true 0 [])) from rfl,show lsK (l6,RS.er g6 u6)=[] from rfl] at k6
        dsimp only[rdS,RS.isOk,cond_true,cond_false,vecF,List.cons_append,List.nil_append,List.append_nil] at k6
        refine wpV_ofH (by ((try(conv=>lhs;cbv));(repeat((first|(rewrite[k5])|(rewrite[k6])|(rewrite[e6])|(rewrite[K.eqT];rotate_left;focus((try simp only[K.df,X.df,V.df,true_and,and_true])<;>omega))|(rewrite[K.neT];rotate_left;focus((try simp only[K.df,X.df,V.df,true_and,and_true])<;>omega)));(try(conv=>lhs;cbv))));(exact rfl))) ?_
        (show finV _ _ _=some _;((try(conv=>lhs;cbv));(try(with_reducible rfl)));(try rfl))
       | ok g6 o6 n6 =>
        rw[show lsF 2 (l6,RS.ok g6 o6 n6)=.one (.slo 2 0 l6.length) from rfl,show lsK (l6,RS.ok g6 o6 n6)=[.arr false false 8 (exs (okL l6))] from rfl] at k6
        have k7:=en g6 o6 n6 f6
        dsimp only[rdS,RS.isOk,cond_true,cond_false,vecF,List.cons_append,List.nil_append,List.append_nil] at k6 k7
        by_cases hn:0<n6
        ·obtain⟨rfl,rfl⟩:=none' (resD_left (d2 rfl) hn)
         rw[if_pos hn] at k7
         clear some2 none'
         generalize exs (okL l6)=le at *;generalize l6.length=en at *
         refine wpV_ofH (by ((try(conv=>lhs;cbv));(repeat((first|(rewrite[k5])|(rewrite[k6])|(rewrite[k7])|(rewrite[K.eqT];rotate_left;focus((try simp only[K.df,X.df,V.df,true_and,and_true])<;>omega))|(rewrite[K.neT];rotate_left;focus((try simp only[K.df,X.df,V.df,true_and,and_true])<;>omega)));(try(conv=>lhs;cbv))));(exact rfl))) ?_
         (show finV _ _ _=some _;((try(conv=>lhs;cbv));(try(with_reducible rfl)));(try rfl))
        ·obtain rfl:n6=0:=by omega
         rw[if_neg hn] at k7
         by_cases hc:C2=0
         ·obtain⟨rfl,rfl⟩:=some2 _ _ rfl rfl hc
          rw[hc] at y2
          clear some2 none'
          generalize exs (okL l6)=le at *;generalize l6.length=en at *
          refine wpV_ofH (by ((try(conv=>lhs;cbv));(repeat((first|(rewrite[k5])|(rewrite[k6])|(rewrite[k7])|(rewrite[sx6])|(rewrite[y2])|(rewrite[K.eqT];rotate_left;focus((try simp only[K.df,X.df,V.df,true_and,and_true])<;>omega))|(rewrite[K.neF];rotate_left;focus((try simp only[K.df,X.df,V.df,true_and,and_true])<;>omega)));(try(conv=>lhs;cbv))));(exact rfl))) ?_
          (show finV _ _ _=some _;((try(conv=>lhs;cbv));(try(with_reducible rfl)));(try rfl))
         ·obtain⟨rfl,rfl⟩:=none' (resD_bad (d2 rfl) (hC2 ▸ hc))
          clear some2 none'
          generalize exs (okL l6)=le at *;generalize l6.length=en at *
          refine wpV_ofH (by ((try(conv=>lhs;cbv));(repeat((first|(rewrite[k5])|(rewrite[k6])|(rewrite[k7])|(rewrite[sx6])|(rewrite[y2])|(rewrite[K.eqT];rotate_left;focus((try simp only[K.df,X.df,V.df,true_and,and_true])<;>omega))|(rewrite[K.neT];rotate_left;focus((try simp only[K.df,X.df,V.df,true_and,and_true])<;>omega))|(rewrite[K.neF];rotate_left;focus((try simp only[K.df,X.df,V.df,true_and,and_true])<;>omega)));(try(conv=>lhs;cbv))));(exact rfl))) ?_
          (show finV _ _ _=some _;((try(conv=>lhs;cbv));(try(with_reducible rfl)));(try rfl))
     ·obtain rfl:V1=3:=hV1
      have k5:=x7 _ _ _ rfl
      clear vc x6 x7 y2 yo some2 someO
      cases s7 with
      | er g7 u7 =>
       have fx:u7≠0:=f7
       rw[stV_er fx,stK_er fx,← zerosR] at k5
       dsimp only[rdS,RS.isOk,cond_true,cond_false,vecF,List.cons_append,List.nil_append,List.append_nil] at k5
       obtain⟨rfl,rfl⟩:=none' (r7 _ _ rfl rfl)
       have e5:=e5 fx
       have e6:=e6 fx
       refine wpV_ofH (by ((try(conv=>lhs;cbv));(repeat((first|(rewrite[k5])|(rewrite[e5])|(rewrite[e6])|(rewrite[K.eqT];rotate_left;focus((try simp only[K.df,X.df,V.df,true_and,and_true])<;>omega))|(rewrite[K.neT];rotate_left;focus((try simp only[K.df,X.df,V.df,true_and,and_true])<;>omega))|(rewrite[K.eqF];rotate_left;focus((try simp only[K.df,X.df,V.df,true_and,and_true])<;>omega)));(try(conv=>lhs;cbv))));(exact rfl))) ?_
       (show finV _ _ _=some _;((try(conv=>lhs;cbv));(try(with_reducible rfl)));(try rfl))
      | ok g7 o7 n7 =>
       rw[stV_ok,stK_ok] at k5
       dsimp only[rdS,RS.isOk,cond_true,cond_false,vecF,List.cons_append,List.nil_append,List.append_nil] at k5
       rw[← hvs] at k5
       have k6:=x8 _ _ _ rfl
       cases s8 with
       | er g8 u8 =>
        have fx:u8≠0:=f8
        obtain⟨rfl,rfl⟩:=none' (resD_er (d3 rfl))
        have e6:=e6 fx
        rw[show psV 2 ((v8,l8),RS.er g8 u8)=.agg [.iv (.sl true 0 []),.iv (.arr 64 (vec zeros))] from rfl,show psK ((v8,l8),RS.er g8 u8)=[] from rfl,← zerosR] at k6
        dsimp only[rdS,RS.isOk,cond_true,cond_false,vecF,List.cons_append,List.nil_append,List.append_nil] at k6
        clear some3 none' x8
        generalize exs (okL l8)=le at *;generalize l8.length=en at *;generalize eWs w7=lw at *;generalize w7.length=wn at *
        refine wpV_ofH (by ((try(conv=>lhs;cbv));(repeat((first|(rewrite[k5])|(rewrite[k6])|(rewrite[e6])|(rewrite[K.eqT];rotate_left;focus((try simp only[K.df,X.df,V.df,true_and,and_true])<;>omega))|(rewrite[K.neT];rotate_left;focus((try simp only[K.df,X.df,V.df,true_and,and_true])<;>omega))|(rewrite[K.eqF];rotate_left;focus((try simp only[K.df,X.df,V.df,true_and,and_true])<;>omega)));(try(conv=>lhs;cbv))));(exact rfl))) ?_
        (show finV _ _ _=some _;((try(conv=>lhs;cbv));(try(with_reducible rfl)));(try rfl))
       | ok g8 o8 n8 =>
        rw[show psV 2 ((v8,l8),RS.ok g8 o8 n8)=.agg [.slo 2 0 l8.length,.iv (.arr 64 (vec v8))] from rfl,show psK ((v8,l8),RS.ok g8 o8 n8)=[.arr false false 8 (exs (okL l8))] from rfl,← hvf] at k6
        have k7:=en g8 o8 n8 f8
        dsimp only[rdS,RS.isOk,cond_true,cond_false,vecF,List.cons_append,List.nil_append,List.append_nil] at k6 k7
        by_cases hn:0<n8
        ·obtain⟨rfl,rfl⟩:=none' (resD_left (d3 rfl) hn)
         rw[if_pos hn] at k7
         clear some3 none'
         generalize exs (okL l8)=le at *;generalize l8.length=en at *;generalize eWs w7=lw at *;generalize w7.length=wn at *
         refine wpV_ofH (by ((try(conv=>lhs;cbv));(repeat((first|(rewrite[k5])|(rewrite[k6])|(rewrite[k7])|(rewrite[K.eqT];rotate_left;focus((try simp only[K.df,X.df,V.df,true_and,and_true])<;>omega))|(rewrite[K.neT];rotate_left;focus((try simp only[K.df,X.df,V.df,true_and,and_true])<;>omega))|(rewrite[K.eqF];rotate_left;focus((try simp only[K.df,X.df,V.df,true_and,and_true])<;>omega)));(try(conv=>lhs;cbv))));(exact rfl))) ?_
         (show finV _ _ _=some _;((try(conv=>lhs;cbv));(try(with_reducible rfl)));(try rfl))
        ·obtain rfl:n8=0:=by omega
         rw[if_neg hn] at k7
         by_cases hc:C3=0
         ·obtain⟨rfl,rfl⟩:=some3 _ _ rfl rfl hc
          rw[hc] at y3
          clear some3 none'
          generalize exs (okL l8)=le at *;generalize l8.length=en at *;generalize eWs w7=lw at *;generalize w7.length=wn at *
          refine wpV_ofH (by ((try(conv=>lhs;cbv));(repeat((first|(rewrite[k5])|(rewrite[k6])|(rewrite[k7])|(rewrite[sx8])|(rewrite[sw])|(rewrite[y3])|(rewrite[K.eqT];rotate_left;focus((try simp only[K.df,X.df,V.df,true_and,and_true])<;>omega))|(rewrite[K.eqF];rotate_left;focus((try simp only[K.df,X.df,V.df,true_and,and_true])<;>omega))|(rewrite[K.neF];rotate_left;focus((try simp only[K.df,X.df,V.df,true_and,and_true])<;>omega)));(try(conv=>lhs;cbv))));(exact rfl))) ?_
          (show finV _ _ _=some _;((try(conv=>lhs;cbv));(try(with_reducible rfl)));(try rfl))
         ·obtain⟨rfl,rfl⟩:=none' (resD_bad (d3 rfl) (hC3 ▸ hc))
          clear some3 none'
          generalize exs (okL l8)=le at *;generalize l8.length=en at *;generalize eWs w7=lw at *;generalize w7.length=wn at *
          refine wpV_ofH (by ((try(conv=>lhs;cbv));(repeat((first|(rewrite[k5])|(rewrite[k6])|(rewrite[k7])|(rewrite[sx8])|(rewrite[sw])|(rewrite[y3])|(rewrite[K.eqT];rotate_left;focus((try simp only[K.df,X.df,V.df,true_and,and_true])<;>omega))|(rewrite[K.neT];rotate_left;focus((try simp only[K.df,X.df,V.df,true_and,and_true])<;>omega))|(rewrite[K.eqF];rotate_left;focus((try simp only[K.df,X.df,V.df,true_and,and_true])<;>omega))|(rewrite[K.neF];rotate_left;focus((try simp only[K.df,X.df,V.df,true_and,and_true])<;>omega)));(try(conv=>lhs;cbv))));(exact rfl))) ?_
          (show finV _ _ _=some _;((try(conv=>lhs;cbv));(try(with_reducible rfl)));(try rfl))
     ·have w2':V1≠2:=by omega
      have w3':V1≠3:=by omega
      clear vc x6 x7 x8 y2 y3 some2 some3
      have k7:=en g4 o4 n4 f4
      dsimp only[rdS,RS.isOk,cond_true,cond_false,vecF,List.cons_append,List.nil_append,List.append_nil] at k7
      by_cases hn:0<n4
      ·obtain⟨rfl,rfl⟩:=none' (resD_left (dO w2 w3) hn)
       rw[if_pos hn] at k7
       clear someO none'
       skip
       refine wpV_ofH (by ((try(conv=>lhs;cbv));(repeat((first|(rewrite[k7])|(rewrite[K.neT];rotate_left;focus((try simp only[K.df,X.df,V.df,true_and,and_true])<;>omega))|(rewrite[K.eqF];rotate_left;focus((try simp only[K.df,X.df,V.df,true_and,and_true])<;>omega)));(try(conv=>lhs;cbv))));(exact rfl))) ?_
       (show finV _ _ _=some _;((try(conv=>lhs;cbv));(try(with_reducible rfl)));(try rfl))
      ·obtain rfl:n4=0:=by omega
       rw[if_neg hn] at k7
       by_cases hc:CO=0
       ·obtain⟨rfl,rfl,rfl⟩:=someO _ _ w2 w3 rfl hc
        rw[hc] at yo
        clear someO none'
        skip
        refine wpV_ofH (by ((try(conv=>lhs;cbv));(repeat((first|(rewrite[k7])|(rewrite[yo])|(rewrite[K.eqF];rotate_left;focus((try simp only[K.df,X.df,V.df,true_and,and_true])<;>omega))|(rewrite[K.neF];rotate_left;focus((try simp only[K.df,X.df,V.df,true_and,and_true])<;>omega)));(try(conv=>lhs;cbv))));(exact rfl))) ?_
        (show finV _ _ _=some _;((try(conv=>lhs;cbv));(try(with_reducible rfl)));(try rfl))
       ·obtain⟨rfl,rfl⟩:=none' (resD_bad (dO w2 w3) (hCO ▸ hc))
        clear someO none'
        skip
        refine wpV_ofH (by ((try(conv=>lhs;cbv));(repeat((first|(rewrite[k7])|(rewrite[yo])|(rewrite[K.neT];rotate_left;focus((try simp only[K.df,X.df,V.df,true_and,and_true])<;>omega))|(rewrite[K.eqF];rotate_left;focus((try simp only[K.df,X.df,V.df,true_and,and_true])<;>omega))|(rewrite[K.neF];rotate_left;focus((try simp only[K.df,X.df,V.df,true_and,and_true])<;>omega)));(try(conv=>lhs;cbv))));(exact rfl))) ?_
        (show finV _ _ _=some _;((try(conv=>lhs;cbv));(try(with_reducible rfl)));(try rfl))
theorem n16g (B:List Nat) (h8:∀ b,b∈B→b<256) (hl:B.length≤1000000000000):∃ k,∀ t,Pn k 16 [.one (.iv (.sl t 1 (by8 B)))] [] (outF (resO B)) (outK (resO B)):=by
 rcases openS_cases B with ⟨e,he,hO⟩|hO
 ·exact n16_0 B h8 hl he hO
 ·exact n16_1 B (B.drop 4) h8 hl hO (fun b h=>h8 b (List.mem_of_mem_drop h)) (by rw[List.length_drop];omega)
set_option maxHeartbeats 20000000

theorem q8:∃ k,Pn k 8 [] [] (bl true) []:=by
 have h:Pl 8 [] (bl true) []:=⟨100,by kernel_rfl⟩
 exact h.at pr_mono
theorem msq_refl (m:Msg) (lx:List EvX):msq m lx m lx=true:=by
 unfold msq stq evsq
 rw[allB_refl (q:=wq) fun x _=>wq_refl x,allB_refl (q:=fun (a b:EvX)=>evq a.1 b.1) fun x _=>evq_refl x.1]
 simp
theorem dcd_facts (bs:List Nat):MsgL (dcd bs).1.1∧∀ e,e∈(dcd bs).1.2→e.gone.length≤1000:=by
 have hz:zeros.length=64:=by simp[zeros]
 unfold dcd
 split
 ·exact⟨⟨vecS_64 _ _,vecS_64 _ _,hz,hz,Nat.zero_le _⟩,fun e he=>(evsR_all e he).1⟩
 ·split
  ·have h:(q7 bs).1.1.length=64∧(q7 bs).1.2.length≤4096∧∀ w,w∈(q7 bs).1.2→w.doc.size≤bs.length:=stS_b bs (q4 bs).2
   exact⟨⟨vecS_64 _ _,hz,h.1,vecS_64 _ _,by have:=h.2.1;dsimp only;omega⟩,fun e he=>(evsR_all e he).1⟩
  ·exact⟨⟨vecS_64 _ _,hz,hz,hz,Nat.zero_le _⟩,fun e he=>by simp at he⟩
theorem resD_some {bs:List Nat} {m:Msg} {l:List Ev} (h:resD bs=some (m,l)):MsgL m∧Held (okL l)∧(m.k=1∧l=[]∧m.live=[]∨m.k=2∧m.live=[]∨m.k=3):=by
 obtain⟨f1,f2⟩:=dcd_facts bs
 unfold resD at h
 split at h
 ·cases h
 ·split at h
  ·rename_i hc
   injection h with h
   rw[h] at f1 f2 hc
   dsimp only at f1 f2 hc
   have h0:=(chkM_ok hc.2).1
   simp only[Bool.and_eq_true,decide_eq_true_eq] at h0
   have hl:l.length≤1024:=by have:=h0.2.2.2.2;simpa [okL] using this
   refine⟨f1,⟨fun x hx=>?_,fun x hx=>?_,by simp[okL];omega⟩,?_⟩
   ·obtain⟨e,he,rfl⟩:=List.mem_map.1 hx;rfl
   ·obtain⟨e,he,rfl⟩:=List.mem_map.1 hx;exact f2 e he
   ·rcases chkM_k hc.2 with hk|hk|hk
    ·obtain⟨z1,z2,z3,z4,z5⟩:=chkM_1 hc.2 hk
     exact .inl ⟨hk,by cases l with|nil=>rfl|cons a r=>simp[okL] at z1,z4⟩
    ·exact .inr (.inl ⟨hk,(chkM_2 hc.2 hk).2.1⟩)
    ·exact .inr (.inr hk)
  ·cases h
theorem law4 (B:List Nat) (h8:∀ b,b∈B→b<256) (hl:B.length≤140737488351232):∃ n,play real (lookT tab) (fun _=>clonePr clones) n 4 [.one (.iv (.sl false 1 (by8 B)))] []=some (bl true,[]):=by
 obtain⟨ka,ha⟩:=q8
 by_cases h4:B.length≤8192
 ·obtain⟨kp,hp⟩:=n16g B h8 (by omega)
  obtain⟨kr,hr⟩:=n17g B h8 (by omega)
  have hz64:zeros.length=64:=by simp[zeros]
  have hcs:(∃ e,resO B=(none,e))∨∃ m l,resO B=(some (m,l),0)∧MsgL m∧Held (okL l)∧(m.k=1∧l=[]∧m.live=[]∨m.k=2∧m.live=[]∨m.k=3):=by
   rcases openS_cases B with ⟨e,he,hO⟩|hO
   ·exact .inl ⟨e,resO_none hO⟩
   ·cases hD:resD (B.drop 4) with
    | none=>exact .inl ⟨3,resO_bad hO hD⟩
    | some x=>exact .inr ⟨x.1,x.2,resO_ok hO hD,resD_some hD⟩
  obtain⟨n,hn⟩:∃ n,n=ka+kp+kr+8000:=⟨_,rfl⟩
  obtain⟨CL,hCL⟩:∃ x:Int,x=B.length:=⟨_,rfl⟩
  have hc4:CL≤8192:=by omega
  rcases hcs with ⟨e,hR⟩|⟨m,l,hR,hM,hH,hk⟩
  ·rw[hR] at hp hr
   have h15:=n15g ⟨0,0,0,zeros,zeros,zeros,[],zeros⟩ ⟨0,0,0,zeros,zeros,zeros,[],zeros⟩ [] [] ⟨hz64,hz64,hz64,hz64,Nat.zero_le _⟩ ⟨hz64,hz64,hz64,hz64,Nat.zero_le _⟩ ⟨fun x hx=>by simp at hx,fun x hx=>by simp at hx,Nat.zero_le _⟩ ⟨fun x hx=>by simp at hx,fun x hx=>by simp at hx,Nat.zero_le _⟩ true true true true 0 0 0 0 (.inr ⟨rfl,rfl⟩) (.inr ⟨rfl,rfl⟩) (.inr ⟨rfl,rfl⟩) (.inr ⟨rfl,rfl⟩)
   rw[msq_refl] at h15
   refine⟨n+1,playN n rfl rfl (fun A call hA hcall=>?_) (n+1) (Nat.le_refl _)⟩
   obtain⟨pl,mi,ml,nt,tn,ad,sb,K⟩:=kit hA
   obtain⟨EX,ix,sn,ll,cc,sg,X⟩:=lkit hA K zeroX exI 96
   obtain⟨W,gx,st',V⟩:=rkit hA
   have q8:=ha n (by omega)
   have q16:=hp false n (by omega)
   have q17:=hr false n (by omega)
   have q15:=h15 n (by omega)
   have lC:A .len (by8 B)=CL:=by rw[hA,real_len,by8_len,hCL]
   rw[← hcall] at q8 q16 q17 q15
   dsimp only[outF,outK,msF] at q16 q17 q15
   rw[show eWs []=[] from rfl,show exs []=[] from rfl] at q15
   rw[← zerosR] at q15 q16 q17
   clear hp hr h15 ha
   generalize by8 B=xs at *
   refine wpV_ofH (by ((try(conv=>lhs;cbv));(repeat((first|(rewrite[lC])|(rewrite[q16])|(rewrite[q17])|(rewrite[q15])|(rewrite[q8])|(rewrite[K.eqT];rotate_left;focus((try simp only[K.df,X.df,V.df,true_and,and_true])<;>omega))|(rewrite[K.gtF];rotate_left;focus((try simp only[K.df,X.df,V.df,true_and,and_true])<;>omega)));(try(conv=>lhs;cbv))));(exact rfl))) ?_
   (show finV _ _ _=some _;((try(conv=>lhs;cbv));(try(with_reducible rfl)));(try rfl))
  ·rw[hR] at hp hr
   rcases hk with ⟨hk,rfl,hw⟩|⟨hk,hw⟩|hk
   ·have h15:=n15g m m (okL []) (okL []) hM hM hH hH true true true true 0 0 0 0 (.inr ⟨rfl,rfl⟩) (.inr ⟨rfl,rfl⟩) (.inr ⟨rfl,hw⟩) (.inr ⟨rfl,hw⟩)
    rw[msq_refl] at h15
    refine⟨n+1,playN n rfl rfl (fun A call hA hcall=>?_) (n+1) (Nat.le_refl _)⟩
    obtain⟨pl,mi,ml,nt,tn,ad,sb,K⟩:=kit hA
    obtain⟨EX,ix,sn,ll,cc,sg,X⟩:=lkit hA K zeroX exI 96
    obtain⟨W,gx,st',V⟩:=rkit hA
    have q8:=ha n (by omega)
    have q16:=hp false n (by omega)
    have q17:=hr false n (by omega)
    have q15:=h15 n (by omega)
    have lC:A .len (by8 B)=CL:=by rw[hA,real_len,by8_len,hCL]
    rw[← hcall] at q8 q16 q17 q15
    obtain⟨mk,fr,to,ack,base,seen,live,floor⟩:=m
    dsimp only at hk hw
    subst hk hw
    dsimp only[outF,outK,msF] at q16 q17 q15
    rw[if_pos rfl,if_pos rfl,if_neg (by decide)] at q16 q17
    rw[show eWs []=[] from rfl,show exs (okL [])=[] from rfl] at q15
    clear hp hr h15 ha hM hH
    generalize by8 B=xs at *
    generalize vec ack=va at *
    generalize vec base=vb at *
    generalize vec seen=vs at *
    generalize vec floor=vf at *
    refine wpV_ofH (by ((try(conv=>lhs;cbv));(repeat((first|(rewrite[lC])|(rewrite[q16])|(rewrite[q17])|(rewrite[q15])|(rewrite[q8])|(rewrite[K.eqT];rotate_left;focus((try simp only[K.df,X.df,V.df,true_and,and_true])<;>omega))|(rewrite[K.gtF];rotate_left;focus((try simp only[K.df,X.df,V.df,true_and,and_true])<;>omega)));(try(conv=>lhs;cbv))));(exact rfl))) ?_
    (show finV _ _ _=some _;((try(conv=>lhs;cbv));(try(with_reducible rfl)));(try rfl))
   ·have h15:=fun b b'=>n15g m m (okL l) (okL l) hM hM hH hH b b' true true 8 8 0 0 (.inl rfl) (.inl rfl) (.inr ⟨rfl,hw⟩) (.inr ⟨rfl,hw⟩)
    rw[msq_refl] at h15
    refine⟨n+1,playN n rfl rfl (fun A call hA hcall=>?_) (n+1) (Nat.le_refl _)⟩
    obtain⟨pl,mi,ml,nt,tn,ad,sb,K⟩:=kit hA
    obtain⟨EX,ix,sn,ll,cc,sg,X⟩:=lkit hA K zeroX exI 96
    obtain⟨W,gx,st',V⟩:=rkit hA
    have q8:=ha n (by omega)
    have q16:=hp false n (by omega)
    have q17:=hr false n (by omega)
    have q15:∀ b b',call 15 [msF b 8 true 0 m (okL l),msF b' 8 true 0 m (okL l)] []=some (bl true,[]):=fun b b'=>by rw[hcall];exact h15 b b' n (by omega)
    have lC:A .len (by8 B)=CL:=by rw[hA,real_len,by8_len,hCL]
    have sg2:A .seg (exs (okL l)) 0 l.length=exs (okL l):=by
     rw[hA,real_seg];unfold rSeg;rw[List.drop_zero,List.take_of_length_le (by simp[exs,okL])]
    rw[← hcall] at q8 q16 q17
    obtain⟨mk,fr,to,ack,base,seen,live,floor⟩:=m
    dsimp only at hk hw
    subst hk hw
    dsimp only[outF,outK,msF] at q16 q17 q15
    rw[if_neg (by decide),if_neg (by decide),if_neg (by decide),if_pos rfl] at q16 q17
    rw[show eWs []=[] from rfl] at q15
    clear hp hr h15 ha hM hH
    generalize by8 B=xs at *
    generalize vec ack=va at *
    generalize vec base=vb at *
    generalize vec seen=vs at *
    generalize vec floor=vf at *
    generalize exs (okL l)=ls at *
    generalize l.length=ln at *
    refine wpV_ofH (by ((try(conv=>lhs;cbv));(repeat((first|(rewrite[lC])|(rewrite[q16])|(rewrite[q17])|(rewrite[sg2])|(rewrite[q15])|(rewrite[q8])|(rewrite[K.eqT];rotate_left;focus((try simp only[K.df,X.df,V.df,true_and,and_true])<;>omega))|(rewrite[K.gtF];rotate_left;focus((try simp only[K.df,X.df,V.df,true_and,and_true])<;>omega)));(try(conv=>lhs;cbv))));(exact rfl))) ?_
    (show finV _ _ _=some _;((try(conv=>lhs;cbv));(try(with_reducible rfl)));(try rfl))
   ·have h15:=fun b b' b2 b2'=>n15g m m (okL l) (okL l) hM hM hH hH b b' b2 b2' 8 8 6 6 (.inl rfl) (.inl rfl) (.inl rfl) (.inl rfl)
    rw[msq_refl] at h15
    refine⟨n+1,playN n rfl rfl (fun A call hA hcall=>?_) (n+1) (Nat.le_refl _)⟩
    obtain⟨pl,mi,ml,nt,tn,ad,sb,K⟩:=kit hA
    obtain⟨EX,ix,sn,ll,cc,sg,X⟩:=lkit hA K zeroX exI 96
    obtain⟨W,gx,st',V⟩:=rkit hA
    have q8:=ha n (by omega)
    have q16:=hp false n (by omega)
    have q17:=hr false n (by omega)
    have q15:∀ b b' b2 b2',call 15 [msF b 8 b2 6 m (okL l),msF b' 8 b2' 6 m (okL l)] []=some (bl true,[]):=fun b b' b2 b2'=>by rw[hcall];exact h15 b b' b2 b2' n (by omega)
    have lC:A .len (by8 B)=CL:=by rw[hA,real_len,by8_len,hCL]
    have sg2:A .seg (exs (okL l)) 0 l.length=exs (okL l):=by
     rw[hA,real_seg];unfold rSeg;rw[List.drop_zero,List.take_of_length_le (by simp[exs,okL])]
    have sg3:A .seg (eWs m.live) 0 m.live.length=eWs m.live:=by
     rw[hA,real_seg];unfold rSeg;rw[List.drop_zero,List.take_of_length_le (by simp[eWs])]
    rw[← hcall] at q8 q16 q17
    obtain⟨mk,fr,to,ack,base,seen,live,floor⟩:=m
    dsimp only at hk
    subst hk
    dsimp only[outF,outK,msF] at q16 q17 q15 sg3
    rw[if_neg (by decide),if_pos rfl,if_neg (by decide),if_neg (by decide)] at q16 q17
    clear hp hr h15 ha hM hH
    generalize by8 B=xs at *
    generalize vec ack=va at *
    generalize vec base=vb at *
    generalize vec seen=vs at *
    generalize vec floor=vf at *
    generalize exs (okL l)=ls at *
    generalize l.length=ln at *
    generalize eWs live=lw at *
    generalize live.length=wn at *
    refine wpV_ofH (by ((try(conv=>lhs;cbv));(repeat((first|(rewrite[lC])|(rewrite[q16])|(rewrite[q17])|(rewrite[sg2])|(rewrite[sg3])|(rewrite[q15])|(rewrite[q8])|(rewrite[K.eqT];rotate_left;focus((try simp only[K.df,X.df,V.df,true_and,and_true])<;>omega))|(rewrite[K.gtF];rotate_left;focus((try simp only[K.df,X.df,V.df,true_and,and_true])<;>omega)));(try(conv=>lhs;cbv))));(exact rfl))) ?_
    (show finV _ _ _=some _;((try(conv=>lhs;cbv));(try(with_reducible rfl)));(try rfl))
 ·obtain⟨n,hn⟩:∃ n,n=ka+100:=⟨_,rfl⟩
  obtain⟨CL,hCL⟩:∃ x:Int,x=B.length:=⟨_,rfl⟩
  have hc4:8192<CL:=by omega
  refine⟨n+1,playN n rfl rfl (fun A call hA hcall=>?_) (n+1) (Nat.le_refl _)⟩
  obtain⟨pl,mi,ml,nt,tn,ad,sb,K⟩:=kit hA
  obtain⟨EX,ix,sn,ll,cc,sg,X⟩:=lkit hA K zeroX exI 96
  obtain⟨W,gx,st',V⟩:=rkit hA
  have q8:=ha n (by omega)
  have lC:A .len (by8 B)=CL:=by rw[hA,real_len,by8_len,hCL]
  rw[← hcall] at q8
  generalize by8 B=xs at *
  refine wpV_ofH (by ((try(conv=>lhs;cbv));(repeat((first|(rewrite[lC])|(rewrite[q8])|(rewrite[K.gtT];rotate_left;focus((try simp only[K.df,X.df,V.df,true_and,and_true])<;>omega)));(try(conv=>lhs;cbv))));(exact rfl))) ?_
  (show finV _ _ _=some _;((try(conv=>lhs;cbv));(try(with_reducible rfl)));(try rfl))
theorem lawD:∀ xss,TyA [byteSh] xss→∃ n,play real (lookT tab) (fun _=>clonePr clones) n 4 (argsF [byteSh] xss) []=some (.one (.iv (.bool true)),[]):=by
 intro xss h
 rcases xss with _|⟨a,_|⟨b,r⟩⟩
 ·exact h.elim
 ·obtain⟨h1,_⟩:=h
  obtain⟨x,rfl,hx,hx8⟩:=ty_bytes h1
  exact law4 x hx8 hx
 ·exact h.2.elim
end Go.Proofs.Ytlljgefgbglmbaa
