/- Numbers as facts; small functions of layer 3. -/
import Derived.Test.YtlljgefgbglmbaaCGH
import Derived.Lib.SlicesS
set_option linter.unusedSimpArgs false
set_option linter.unusedVariables false
set_option maxRecDepth 100000
set_option maxHeartbeats 1000000
namespace Go.Proofs.Ytlljgefgbglmbaa
open Go GoV


theorem e125 (A:Ar) (call:CallT) (it:IterT) (r:Int) {b1 b2 b3 b4:Bool} (h1:A .cmp .geq r 0=b1) (h2:A .cmp .lss r 55296=b2) (h3:A .cmp .gtr r 57343=b3) (h4:A .cmp .leq r 1114111=b4) :
  bodyV A call it v125 [i64 r] []=some (bl ((b1&&b2)||(b3&&b4)),[]):=by
 conv=>lhs;cbv
 rewrite[h1]
 cases b1<;>(conv=>lhs;cbv)
 ·rewrite[h3]
  cases b3<;>(conv=>lhs;cbv)<;>try rfl
  rewrite[h4]
  rfl
 ·rewrite[h2]
  cases b2<;>(conv=>lhs;cbv)<;>try rfl
  rewrite[h3]
  cases b3<;>(conv=>lhs;cbv)<;>try rfl
  rewrite[h4]
  rfl
theorem e122 (A:Ar) (call:CallT) (it:IterT) (r:Int) {b1 b2 b3 b4:Bool} (h1:A .cmp .geq r 0=b1) (h2:A .cmp .leq r 1114111=b2) (h3:A .cmp .lss r 55296=b3) (h4:A .cmp .gtr r 57343=b4) :
  bodyV A call it v122 [i64 r] []=some (bl (b1&&(b2&&(b3||b4))),[]):=by
 conv=>lhs;cbv
 rewrite[h1]
 cases b1<;>(conv=>lhs;cbv)<;>try rfl
 rewrite[h2]
 cases b2<;>(conv=>lhs;cbv)<;>try rfl
 rewrite[h3]
 cases b3<;>(conv=>lhs;cbv)<;>try rfl
 rewrite[h4]
 rfl
/-- A sign's number. -/
def isSign (r:Int):Bool:=decide (0≤r∧r≤1114111∧(r<55296∨57343<r))
theorem p125 (r:Int):Pl 125 [i64 r] (bl (isSign r)) []:=by
 have h:=e125 real (play real (lookT tab) (fun _=>clonePr clones) 0) (iterN 0) r (geq_real _ _) (lss_real _ _) (gtr_real _ _) (leq_real _ _)
 have e:((decide (r≥0)&&decide (r<55296))||(decide (r > 57343)&&decide (r≤1114111)))=isSign r:=by
  rw[Bool.eq_iff_iff];simp only[isSign,Bool.or_eq_true,Bool.and_eq_true,decide_eq_true_eq];omega
 rw[e] at h
 exact Plays.body pr_mono (vf:=v125) rfl ⟨0,h⟩
theorem p122 (r:Int):Pl 122 [i64 r] (bl (isSign r)) []:=by
 have h:=e122 real (play real (lookT tab) (fun _=>clonePr clones) 0) (iterN 0) r (geq_real _ _) (leq_real _ _) (lss_real _ _) (gtr_real _ _)
 have e:(decide (r≥0)&&(decide (r≤1114111)&&(decide (r<55296)||decide (r > 57343))))=isSign r:=by
  rw[Bool.eq_iff_iff];simp only[isSign,Bool.or_eq_true,Bool.and_eq_true,decide_eq_true_eq];try omega
 rw[e] at h
 exact Plays.body pr_mono (vf:=v122) rfl ⟨0,h⟩
theorem p123 {b:Int} (h0:0≤b) (h1:b<256):Pl 123 [u8 b] (i64 (b % 64)) []:=by
 refine Plays.wp (vf:=v123) rfl rfl ⟨0,fun A call hA hcall=>?_⟩
 obtain⟨m,hm⟩:∃ m,m=b % 64:=⟨_,rfl⟩
 rw[← hm]
 apply wpV_seq;refine wpV_of (by ((conv=>lhs;cbv);(try(with_reducible rfl)))) ?_
 (refine wpV_of (by ((conv=>lhs;cbv);(repeat((first|rewrite[ckI hA (a:=b) (by omega)]|rewrite[nzR hA (a:=64) (by decide)]|rewrite[remR hA h0 hm]);(try(conv=>lhs;cbv))));(try(with_reducible rfl)))) ?_;(show finV _ _ _=some _;((conv=>lhs;cbv);(repeat((first|rewrite[ckI hA (a:=b) (by omega)]|rewrite[nzR hA (a:=64) (by decide)]|rewrite[remR hA h0 hm]);(try(conv=>lhs;cbv))));(try(with_reducible rfl)));(try rfl)))
/-! ### The shape that a byte begins -/
def fS (b:Int):Int:=if b<128 then 1 else if b<192 then 0 else if b<224 then 2 else if b<240 then 3 else if b<248 then 4 else 0
def fB (b:Int):Int:=if b<128 then b else if b<192 then 0 else if b<224 then b % 32 else if b<240 then b % 16 else if b<248 then b % 8 else 0
def fL (b:Int):Int:=if b<128 then 0 else if b<192 then 0 else if b<224 then 128 else if b<240 then 2048 else if b<248 then 65536 else 0
theorem and_u8 (m:Int) (k:Nat) (hm:∀ x:Fin 256,real .ar .and .u8 (x.val:Int) m=((x.val % k:Nat):Int)) {b:Int} (h0:0≤b) (h1:b<256):real .ar .and .u8 b m=b % k:=by
 have h:=hm ⟨b.toNat,by omega⟩
 simp only[Int.toNat_of_nonneg h0] at h
 rw[h,Int.natCast_emod,Int.toNat_of_nonneg h0]
theorem and31 {b:Int} (h0:0≤b) (h1:b<256):real .ar .and .u8 b 31=b % 32:=and_u8 31 32 (by decide +kernel) h0 h1
theorem and15 {b:Int} (h0:0≤b) (h1:b<256):real .ar .and .u8 b 15=b % 16:=and_u8 15 16 (by decide +kernel) h0 h1
theorem and7 {b:Int} (h0:0≤b) (h1:b<256):real .ar .and .u8 b 7=b % 8:=and_u8 7 8 (by decide +kernel) h0 h1
theorem and63 {b:Int} (h0:0≤b) (h1:b<256):real .ar .and .u8 b 63=b % 64:=and_u8 63 64 (by decide +kernel) h0 h1
theorem and192':∀ x:Fin 256,real .ar .and .u8 (x.val:Int) 192=(x.val:Int) / 64*64:=by decide +kernel
theorem and192 {b:Int} (h0:0≤b) (h1:b<256):real .ar .and .u8 b 192=b / 64*64:=by
 have h:=and192' ⟨b.toNat,by omega⟩
 simp only[Int.toNat_of_nonneg h0] at h
 exact h
abbrev shF (a b c:Int):FV:=.agg [.iv (.int .i64 a),.iv (.int .i64 b),.iv (.int .i64 c)]
theorem p121 {b:Int} (h0:0≤b) (h1:b<256):Pl 121 [u8 b] (shF (fS b) (fB b) (fL b)) []:=by
 refine Plays.wp (vf:=v121) rfl rfl ⟨0,fun A call hA hcall=>?_⟩
 by_cases c1:b<128
 ·rw[show fS b=1 by simp[fS,c1],show fB b=b by simp[fB,c1],show fL b=0 by simp[fL,c1]]
  (refine wpV_of (by ((conv=>lhs;cbv);(repeat((first|rewrite[ltT hA c1]|rewrite[ckI hA (a:=b) (by omega)]);(try(conv=>lhs;cbv))));(try(with_reducible rfl)))) ?_;(show finV _ _ _=some _;((conv=>lhs;cbv);(repeat((first|rewrite[ltT hA c1]|rewrite[ckI hA (a:=b) (by omega)]);(try(conv=>lhs;cbv))));(try(with_reducible rfl)));(try rfl)))
 by_cases c2:b<192
 ·rw[show fS b=0 by simp[fS,c1,c2],show fB b=0 by simp[fB,c1,c2],show fL b=0 by simp[fL,c1,c2]]
  (refine wpV_of (by ((conv=>lhs;cbv);(repeat((first|rewrite[ltF hA (a:=b) (b:=128) (by omega)]|rewrite[ltT hA c2]);(try(conv=>lhs;cbv))));(try(with_reducible rfl)))) ?_;(show finV _ _ _=some _;((conv=>lhs;cbv);(repeat((first|rewrite[ltF hA (a:=b) (b:=128) (by omega)]|rewrite[ltT hA c2]);(try(conv=>lhs;cbv))));(try(with_reducible rfl)));(try rfl)))
 by_cases c3:b<224
 ·rw[show fS b=2 by simp[fS,c1,c2,c3],show fB b=b % 32 by simp[fB,c1,c2,c3],show fL b=128 by simp[fL,c1,c2,c3]]
  have h:=and31 h0 h1
  rw[← hA] at h
  obtain⟨m,hm⟩:∃ m,m=b % 32:=⟨_,rfl⟩
  rw[← hm] at h ⊢
  (refine wpV_of (by ((conv=>lhs;cbv);(repeat((first|rewrite[ltF hA (a:=b) (b:=128) (by omega)]|rewrite[ltF hA (a:=b) (b:=192) (by omega)]|rewrite[ltT hA c3]|rewrite[h]|rewrite[ckI hA (a:=m) (by omega)]);(try(conv=>lhs;cbv))));(try(with_reducible rfl)))) ?_;(show finV _ _ _=some _;((conv=>lhs;cbv);(repeat((first|rewrite[ltF hA (a:=b) (b:=128) (by omega)]|rewrite[ltF hA (a:=b) (b:=192) (by omega)]|rewrite[ltT hA c3]|rewrite[h]|rewrite[ckI hA (a:=m) (by omega)]);(try(conv=>lhs;cbv))));(try(with_reducible rfl)));(try rfl)))
 by_cases c4:b<240
 ·rw[show fS b=3 by simp[fS,c1,c2,c3,c4],show fB b=b % 16 by simp[fB,c1,c2,c3,c4],show fL b=2048 by simp[fL,c1,c2,c3,c4]]
  have h:=and15 h0 h1
  rw[← hA] at h
  obtain⟨m,hm⟩:∃ m,m=b % 16:=⟨_,rfl⟩
  rw[← hm] at h ⊢
  (refine wpV_of (by ((conv=>lhs;cbv);(repeat((first|rewrite[ltF hA (a:=b) (b:=128) (by omega)]|rewrite[ltF hA (a:=b) (b:=192) (by omega)]|rewrite[ltF hA (a:=b) (b:=224) (by omega)]|rewrite[ltT hA c4]|rewrite[h]|rewrite[ckI hA (a:=m) (by omega)]);(try(conv=>lhs;cbv))));(try(with_reducible rfl)))) ?_;(show finV _ _ _=some _;((conv=>lhs;cbv);(repeat((first|rewrite[ltF hA (a:=b) (b:=128) (by omega)]|rewrite[ltF hA (a:=b) (b:=192) (by omega)]|rewrite[ltF hA (a:=b) (b:=224) (by omega)]|rewrite[ltT hA c4]|rewrite[h]|rewrite[ckI hA (a:=m) (by omega)]);(try(conv=>lhs;cbv))));(try(with_reducible rfl)));(try rfl)))
 by_cases c5:b<248
 ·rw[show fS b=4 by simp[fS,c1,c2,c3,c4,c5],show fB b=b % 8 by simp[fB,c1,c2,c3,c4,c5],show fL b=65536 by simp[fL,c1,c2,c3,c4,c5]]
  have h:=and7 h0 h1
  rw[← hA] at h
  obtain⟨m,hm⟩:∃ m,m=b % 8:=⟨_,rfl⟩
  rw[← hm] at h ⊢
  (refine wpV_of (by ((conv=>lhs;cbv);(repeat((first|rewrite[ltF hA (a:=b) (b:=128) (by omega)]|rewrite[ltF hA (a:=b) (b:=192) (by omega)]|rewrite[ltF hA (a:=b) (b:=224) (by omega)]|rewrite[ltF hA (a:=b) (b:=240) (by omega)]|rewrite[ltT hA c5]|rewrite[h]|rewrite[ckI hA (a:=m) (by omega)]);(try(conv=>lhs;cbv))));(try(with_reducible rfl)))) ?_;(show finV _ _ _=some _;((conv=>lhs;cbv);(repeat((first|rewrite[ltF hA (a:=b) (b:=128) (by omega)]|rewrite[ltF hA (a:=b) (b:=192) (by omega)]|rewrite[ltF hA (a:=b) (b:=224) (by omega)]|rewrite[ltF hA (a:=b) (b:=240) (by omega)]|rewrite[ltT hA c5]|rewrite[h]|rewrite[ckI hA (a:=m) (by omega)]);(try(conv=>lhs;cbv))));(try(with_reducible rfl)));(try rfl)))
 ·rw[show fS b=0 by simp[fS,c1,c2,c3,c4,c5],show fB b=0 by simp[fB,c1,c2,c3,c4,c5],show fL b=0 by simp[fL,c1,c2,c3,c4,c5]]
  (refine wpV_of (by ((conv=>lhs;cbv);(repeat((first|rewrite[ltF hA (a:=b) (b:=128) (by omega)]|rewrite[ltF hA (a:=b) (b:=192) (by omega)]|rewrite[ltF hA (a:=b) (b:=224) (by omega)]|rewrite[ltF hA (a:=b) (b:=240) (by omega)]|rewrite[ltF hA (a:=b) (b:=248) (by omega)]);(try(conv=>lhs;cbv))));(try(with_reducible rfl)))) ?_;(show finV _ _ _=some _;((conv=>lhs;cbv);(repeat((first|rewrite[ltF hA (a:=b) (b:=128) (by omega)]|rewrite[ltF hA (a:=b) (b:=192) (by omega)]|rewrite[ltF hA (a:=b) (b:=224) (by omega)]|rewrite[ltF hA (a:=b) (b:=240) (by omega)]|rewrite[ltF hA (a:=b) (b:=248) (by omega)]);(try(conv=>lhs;cbv))));(try(with_reducible rfl)));(try rfl)))
/-! ### The bytes of a sign -/
def bytesOf (r:Int):List Int :=
 if isSign r=false then [] else if r≤127 then [r] else if r≤2047 then [192+r / 64,128+r % 64] else if r≤65535 then [224+r / 4096,128+r / 64 % 64,128+r % 64] else [240+r / 262144,128+r / 4096 % 64,128+r / 64 % 64,128+r % 64]
def encB (l:List Int):List (List IV):=l.map fun n=>[.int .u8 n]
def zB (r:Int):Nat:=bif isSign r then 1 else 0
theorem p124 (r:Int):Pl 124 [i64 r] (.one (.iv (.sl true (zB r) (encB (bytesOf r))))) []:=by
 obtain⟨n,h125⟩:=p125 r
 refine Plays.wp (vf:=v124) rfl rfl ⟨n,fun A call hA hcall=>?_⟩
 rw[← hcall] at h125
 cases hs:isSign r with
 | false =>
  rw[hs] at h125
  rw[show bytesOf r=[] by simp[bytesOf,hs],show zB r=0 by simp[zB,hs]]
  (refine wpV_of (by ((conv=>lhs;cbv);(repeat((first|rewrite[h125]);(try(conv=>lhs;cbv))));(try(with_reducible rfl)))) ?_;(show finV _ _ _=some _;((conv=>lhs;cbv);(repeat((first|rewrite[h125]);(try(conv=>lhs;cbv))));(try(with_reducible rfl)));(try rfl)))
 | true =>
  rw[hs] at h125
  have hr:0≤r∧r≤1114111:=by simp only[isSign,decide_eq_true_eq] at hs;omega
  rw[show zB r=1 by simp[zB,hs]]
  by_cases c1:r≤127
  ·rw[show bytesOf r=[r] by simp[bytesOf,hs,c1]]
   (refine wpV_of (by ((conv=>lhs;cbv);(repeat((first|rewrite[h125]|rewrite[leT hA c1]|rewrite[ckU hA (a:=r) (by omega) (by omega)]);(try(conv=>lhs;cbv))));(try(with_reducible rfl)))) ?_;(show finV _ _ _=some _;((conv=>lhs;cbv);(repeat((first|rewrite[h125]|rewrite[leT hA c1]|rewrite[ckU hA (a:=r) (by omega) (by omega)]);(try(conv=>lhs;cbv))));(try(with_reducible rfl)));(try rfl)))
  obtain⟨m1,hm1⟩:∃ m,m=r % 64:=⟨_,rfl⟩
  obtain⟨n1,hn1⟩:∃ m,m=128+m1:=⟨_,rfl⟩
  obtain⟨q1,hq1⟩:∃ m,m=r / 64:=⟨_,rfl⟩
  have k1:=leF hA (a:=r) (b:=127) (by omega)
  have k64:=nzR hA (a:=64) (by decide)
  have e1:=remR hA (a:=r) (b:=64) (by omega) hm1
  have e2:=addR hA (a:=128) (b:=m1) hn1 (by omega)
  have e3:=ckU hA (a:=n1) (by omega) (by omega)
  have e4:=quoR hA (a:=r) (b:=64) (by omega) hq1 (by omega)
  by_cases c2:r≤2047
  ·obtain⟨a1,ha1⟩:∃ m,m=192+q1:=⟨_,rfl⟩
   rw[show bytesOf r=[a1,n1] by simp[bytesOf,hs,c1,c2,ha1,hn1,hq1,hm1]]
   have e5:=addR hA (a:=192) (b:=q1) ha1 (by omega)
   have e6:=ckU hA (a:=a1) (by omega) (by omega)
   (refine wpV_of (by ((conv=>lhs;cbv);(repeat((first|rewrite[h125]|rewrite[k1]|rewrite[leT hA c2]|rewrite[k64]|rewrite[e1]|rewrite[e2]|rewrite[e3]|rewrite[e4]|rewrite[e5]|rewrite[e6]);(try(conv=>lhs;cbv))));(try(with_reducible rfl)))) ?_;(show finV _ _ _=some _;((conv=>lhs;cbv);(repeat((first|rewrite[h125]|rewrite[k1]|rewrite[leT hA c2]|rewrite[k64]|rewrite[e1]|rewrite[e2]|rewrite[e3]|rewrite[e4]|rewrite[e5]|rewrite[e6]);(try(conv=>lhs;cbv))));(try(with_reducible rfl)));(try rfl)))
  have k2:=leF hA (a:=r) (b:=2047) (by omega)
  obtain⟨m2,hm2⟩:∃ m,m=q1 % 64:=⟨_,rfl⟩
  obtain⟨n2,hn2⟩:∃ m,m=128+m2:=⟨_,rfl⟩
  obtain⟨q2,hq2⟩:∃ m,m=r / 4096:=⟨_,rfl⟩
  have g1:=remR hA (a:=q1) (b:=64) (by omega) hm2
  have g2:=addR hA (a:=128) (b:=m2) hn2 (by omega)
  have g3:=ckU hA (a:=n2) (by omega) (by omega)
  have g4:=quoR hA (a:=r) (b:=4096) (by omega) hq2 (by omega)
  have k4096:=nzR hA (a:=4096) (by decide)
  by_cases c3:r≤65535
  ·obtain⟨a1,ha1⟩:∃ m,m=224+q2:=⟨_,rfl⟩
   rw[show bytesOf r=[a1,n2,n1] by simp[bytesOf,hs,c1,c2,c3,ha1,hn1,hq1,hm1,hn2,hm2,hq2]]
   have e5:=addR hA (a:=224) (b:=q2) ha1 (by omega)
   have e6:=ckU hA (a:=a1) (by omega) (by omega)
   (refine wpV_of (by ((conv=>lhs;cbv);(repeat((first|rewrite[h125]|rewrite[k1]|rewrite[k2]|rewrite[leT hA c3]|rewrite[k64]|rewrite[k4096]|rewrite[e1]|rewrite[e2]|rewrite[e3]|rewrite[e4]|rewrite[g1]|rewrite[g2]|rewrite[g3]|rewrite[g4]|rewrite[e5]|rewrite[e6]);(try(conv=>lhs;cbv))));(try(with_reducible rfl)))) ?_;(show finV _ _ _=some _;((conv=>lhs;cbv);(repeat((first|rewrite[h125]|rewrite[k1]|rewrite[k2]|rewrite[leT hA c3]|rewrite[k64]|rewrite[k4096]|rewrite[e1]|rewrite[e2]|rewrite[e3]|rewrite[e4]|rewrite[g1]|rewrite[g2]|rewrite[g3]|rewrite[g4]|rewrite[e5]|rewrite[e6]);(try(conv=>lhs;cbv))));(try(with_reducible rfl)));(try rfl)))
  have k3:=leF hA (a:=r) (b:=65535) (by omega)
  obtain⟨m3,hm3⟩:∃ m,m=q2 % 64:=⟨_,rfl⟩
  obtain⟨n3,hn3⟩:∃ m,m=128+m3:=⟨_,rfl⟩
  obtain⟨q3,hq3⟩:∃ m,m=r / 262144:=⟨_,rfl⟩
  have f1:=remR hA (a:=q2) (b:=64) (by omega) hm3
  have f2:=addR hA (a:=128) (b:=m3) hn3 (by omega)
  have f3:=ckU hA (a:=n3) (by omega) (by omega)
  have f4:=quoR hA (a:=r) (b:=262144) (by omega) hq3 (by omega)
  have k262144:=nzR hA (a:=262144) (by decide)
  obtain⟨a1,ha1⟩:∃ m,m=240+q3:=⟨_,rfl⟩
  rw[show bytesOf r=[a1,n3,n2,n1] by simp[bytesOf,hs,c1,c2,c3,ha1,hn1,hq1,hm1,hn2,hm2,hq2,hn3,hm3,hq3]]
  have e5:=addR hA (a:=240) (b:=q3) ha1 (by omega)
  have e6:=ckU hA (a:=a1) (by omega) (by omega)
  (refine wpV_of (by ((conv=>lhs;cbv);(repeat((first|rewrite[h125]|rewrite[k1]|rewrite[k2]|rewrite[k3]|rewrite[k64]|rewrite[k4096]|rewrite[k262144]|rewrite[e1]|rewrite[e2]|rewrite[e3]|rewrite[e4]|rewrite[g1]|rewrite[g2]|rewrite[g3]|rewrite[g4]|rewrite[f1]|rewrite[f2]|rewrite[f3]|rewrite[f4]|rewrite[e5]|rewrite[e6]);(try(conv=>lhs;cbv))));(try(with_reducible rfl)))) ?_;(show finV _ _ _=some _;((conv=>lhs;cbv);(repeat((first|rewrite[h125]|rewrite[k1]|rewrite[k2]|rewrite[k3]|rewrite[k64]|rewrite[k4096]|rewrite[k262144]|rewrite[e1]|rewrite[e2]|rewrite[e3]|rewrite[e4]|rewrite[g1]|rewrite[g2]|rewrite[g3]|rewrite[g4]|rewrite[f1]|rewrite[f2]|rewrite[f3]|rewrite[f4]|rewrite[e5]|rewrite[e6]);(try(conv=>lhs;cbv))));(try(with_reducible rfl)));(try rfl)))
set_option maxHeartbeats 4000000

/-- Byte i of a text (0 beyond it). -/
def bt (s:ByteArray) (i:Nat):Int:=((s.data.toList.getD i 0).toNat:Int)
theorem bt_range (s:ByteArray) (i:Nat):0≤bt s i∧bt s i<256:=by
 have:=(s.data.toList.getD i 0).toNat_lt
 unfold bt;omega
theorem sidx_real {s:ByteArray} {i:Int} (h0:0≤i) (h:i<s.size):real .sidx s i=some (bt s i.toNat):=by
 rw[real_sidx,if_pos h0]
 have h':i.toNat<s.size:=by omega
 have e:s[i.toNat]?=some s[i.toNat]:=getElem?_pos s i.toNat h'
 rw[e,Option.map_some]
 have h2:i.toNat<s.data.toList.length:=by simpa using h'
 simp only[bt,List.getD_eq_getElem?_getD,List.getElem?_eq_getElem h2,Option.getD_some]
 rfl
/-- A part of a text. -/
def sx (s:ByteArray) (a b:Nat):ByteArray:=s.extract a b
theorem sext_real {s:ByteArray} {a b:Nat} (h1:a≤b) (h2:b≤s.size):real .sext s (some (a:Int)) (some (b:Int))=some (sx s a b):=by
 rw[real_sext]
 simp[rSext,rCut,rBound,h1,h2,sx]
theorem sext_lo {s:ByteArray} {a:Nat} (h:a≤s.size):real .sext s (some (a:Int)) none=some (sx s a s.size):=by
 rw[real_sext]
 simp[rSext,rCut,rBound,h,sx]
theorem sext_hi {s:ByteArray} {b:Nat} (h:b≤s.size):real .sext s none (some (b:Int))=some (sx s 0 b):=by
 rw[real_sext]
 simp[rSext,rCut,rBound,h,sx]
theorem sx_list (s:ByteArray) (a b:Nat) (hb:b≤s.size):(sx s a b).data.toList=(s.data.toList.drop a).take (b - a):=by
 have:(sx s a b).data=s.data.extract a b:=ByteArray.data_extract
 rw[this,Array.toList_extract,List.extract_eq_take_drop]
theorem sx_size (s:ByteArray) (a b:Nat) (ha:a≤b) (hb:b≤s.size):(sx s a b).size=b - a:=by
 have h:=congrArg List.length (sx_list s a b hb)
 simp only[List.length_take,List.length_drop,Array.length_toList] at h
 have e:(sx s a b).size=(sx s a b).data.size:=rfl
 have e2:s.size=s.data.size:=rfl
 omega
theorem bt_sx (s:ByteArray) {a b i:Nat} (hb:b≤s.size) (hi:a+i<b):bt (sx s a b) i=bt s (a+i):=by
 unfold bt
 rw[sx_list s a b hb]
 simp only[List.getD_eq_getElem?_getD,List.getElem?_take,List.getElem?_drop]
 rw[if_pos (by omega)]
theorem s2b_real (s:ByteArray):real .s2b s=encB (s.data.toList.map fun b=>(b.toNat:Int)):=by
 rw[real_s2b];simp[encB]
theorem s2b_sx (s:ByteArray) {a b:Nat} (hb:b≤s.size):real .s2b (sx s a b)=encB ((List.range (b - a)).map fun i=>bt s (a+i)):=by
 rw[s2b_real,sx_list s a b hb]
 congr 1
 apply List.ext_getElem
 ·simp only[List.length_map,List.length_take,List.length_drop,Array.length_toList,List.length_range]
  have e2:s.size=s.data.size:=rfl
  omega
 ·intro i h1 h2
  simp only[List.length_map,List.length_range] at h2
  have e2:s.size=s.data.toList.length:=by simp
  simp only[List.getElem_map,List.getElem_take,List.getElem_drop,List.getElem_range,bt,List.getD_eq_getElem?_getD]
  rw[List.getElem?_eq_getElem (by omega)]
  rfl
/-! ### What the next sign is -/
/-- What four bytes give, of which n are there. -/
def nx (n:Nat) (a b c d:Int):Int × Int :=
 if a<128 then (a,1)
 else if a<192 then (-1,1)
 else if a<224 then (if n<2∨b / 64≠2∨a % 32*64+b % 64<128 then (-1,1) else (a % 32*64+b % 64,2))
 else if a<240 then (if n<3∨b / 64≠2∨c / 64≠2∨(a % 16*64+b % 64)*64+c % 64<2048∨isSign ((a % 16*64+b % 64)*64+c % 64)=false then (-1,1) else ((a % 16*64+b % 64)*64+c % 64,3))
 else if a<248 then (if n<4∨b / 64≠2∨c / 64≠2∨d / 64≠2∨((a % 8*64+b % 64)*64+c % 64)*64+d % 64<65536∨isSign (((a % 8*64+b % 64)*64+c % 64)*64+d % 64)=false then (-1,1) else (((a % 8*64+b % 64)*64+c % 64)*64+d % 64,4))
 else (-1,1)
/-- The sign that begins at a place of a text, and how many bytes it has. -/
def nxt (s:ByteArray) (i:Nat):Int × Int:=nx (s.size - i) (bt s i) (bt s (i+1)) (bt s (i+2)) (bt s (i+3))
theorem nx_range (n:Nat) (hn:1≤n) {a b c d:Int} (ha:0≤a) (hb:0≤b) (hc:0≤c) (hd:0≤d):-1≤(nx n a b c d).1∧(nx n a b c d).1≤1114111∧1≤(nx n a b c d).2∧(nx n a b c d).2≤n:=by
 unfold nx
 split
 ·dsimp only;omega
 split
 ·dsimp only;omega
 split
 ·split
  ·dsimp only;omega
  ·dsimp only;omega
 split
 ·split
  ·dsimp only;omega
  ·rename_i h
   simp only[isSign] at h
   simp at h
   dsimp only;omega
 split
 ·split
  ·dsimp only;omega
  ·rename_i h
   simp only[isSign] at h
   simp at h
   dsimp only;omega
 ·dsimp only;omega
abbrev tupF (a b:Int):FV:=.tup [(false,[.iv (.int .i64 a)]),(false,[.iv (.int .i64 b)])]
theorem w116a (A:Ar) (call:CallT) (n:Nat) (s:ByteArray) (i L b0 sz bi le rem:Int) (z0 g:Bool) (h1:A .cmp .lss i 0=false) (h2:A .slen s=L) (h3:A .cmp .geq i L=false) (h4:A .sidx s i=some b0) (h5:call 121 [u8 b0] []=some (shF sz bi le,[]))
  (h6:A .cmp .eql sz 0=z0) (h7:A .ar .sub .i64 L i=rem) (h8:A .cmp .gtr sz rem=g) (h:z0=true∨g=true) :
  wpV A call (iterN n) v116.body ⟨0,padE 72 [.one (.iv (.str s)),i64 i],[]⟩ (finQ A v116 (tupF (-1) 1,[])):=by
 apply wpV_seq;refine wpV_of (by ((conv=>lhs;cbv);(try(with_reducible rfl)))) ?_
 apply wpV_seq;refine wpV_of (by ((conv=>lhs;cbv);(repeat((first|rewrite[h2]|rewrite[h1]|rewrite[h3]);(try(conv=>lhs;cbv))));(try(with_reducible rfl)))) ?_
 apply wpV_seq;refine wpV_of (by ((conv=>lhs;cbv);(repeat((first|rewrite[h4]|rewrite[h5]);(try(conv=>lhs;cbv))));(try(with_reducible rfl)))) ?_
 cases z0 with
 | true =>
  (refine wpV_of (by ((conv=>lhs;cbv);(repeat((first|rewrite[h6]);(try(conv=>lhs;cbv))));(try(with_reducible rfl)))) ?_;(show finV _ _ _=some _;((conv=>lhs;cbv);(repeat((first|rewrite[h6]);(try(conv=>lhs;cbv))));(try(with_reducible rfl)));(try rfl)))
 | false =>
  cases g with
  | true =>
   (refine wpV_of (by ((conv=>lhs;cbv);(repeat((first|rewrite[h6]|rewrite[h2]|rewrite[h7]|rewrite[h8]);(try(conv=>lhs;cbv))));(try(with_reducible rfl)))) ?_;(show finV _ _ _=some _;((conv=>lhs;cbv);(repeat((first|rewrite[h6]|rewrite[h2]|rewrite[h7]|rewrite[h8]);(try(conv=>lhs;cbv))));(try(with_reducible rfl)));(try rfl)))
  | false=>simp at h
theorem w116 (A:Ar) (call:CallT) (n m:Nat) (hn:m<n) (s t:ByteArray) (i L b0 sz bi le rem i1 i2:Int) (h1:A .cmp .lss i 0=false) (h2:A .slen s=L) (h3:A .cmp .geq i L=false) (h4:A .sidx s i=some b0) (h5:call 121 [u8 b0] []=some (shF sz bi le,[]))
  (h6:A .cmp .eql sz 0=false) (h7:A .ar .sub .i64 L i=rem) (h8:A .cmp .gtr sz rem=false) (h9009:A .ar .add .i64 i 1=i1) (h9010:A .ar .add .i64 i sz=i2) (h11:A .sext s (some i1) (some i2)=some t)
  (es:List (List IV)) (h12:A .s2b t=es) (ix cc rr sh lo dj:Nat→Int) (bad:Nat→Bool) (hz:ix 0=0) (hr:rr 0=bi)
  (g1:∀ j,j<m→A .cmp .lss (ix j) (A .len es)=true) (g2:A .cmp .lss (ix m) (A .len es)=false) (g3:∀ j,j<m→A .ar .add .i64 (ix j) 1=ix (j+1)) (g4:∀ j,j<m→A .get es (ix j)=some [.int .u8 (cc j)])
  (g5:∀ j,j<m→A .ar .and .u8 (cc j) 192=dj j) (g6:∀ j,j<m→A .cmp .neq (dj j) 128=bad j) (g7:∀ j,j<m→A .ar .shl .i64 (rr j) 6=sh j) (g8:A .nn 6=true) (g9:∀ j,j<m→A .ar .and .u8 (cc j) 63=lo j) (g10:∀ j,j<m→A .ck .i64 (lo j)=lo j)
  (g11:∀ j,j<m→A .ar .or .i64 (sh j) (lo j)=rr (j+1)) (b1 b2:Bool) (k1:A .cmp .lss (rr m) le=b1) (k2:call 122 [i64 (rr m)] []=some (bl b2,[])) (x y:Int)
  (r1:∀ j,j<m→bad j=true→x=-1∧y=1) (r2:(∀ j,j<m→bad j=false)→b1=true∨b2=false→x=-1∧y=1) (r3:(∀ j,j<m→bad j=false)→b1=false→b2=true→x=rr m∧y=sz) :
  wpV A call (iterN n) v116.body ⟨0,padE 72 [.one (.iv (.str s)),i64 i],[]⟩ (finQ A v116 (tupF x y,[])):=by
 apply wpV_seq;refine wpV_of (by ((conv=>lhs;cbv);(try(with_reducible rfl)))) ?_
 apply wpV_seq;refine wpV_of (by ((conv=>lhs;cbv);(repeat((first|rewrite[h2]|rewrite[h1]|rewrite[h3]);(try(conv=>lhs;cbv))));(try(with_reducible rfl)))) ?_
 apply wpV_seq;refine wpV_of (by ((conv=>lhs;cbv);(repeat((first|rewrite[h4]|rewrite[h5]);(try(conv=>lhs;cbv))));(try(with_reducible rfl)))) ?_
 apply wpV_seq;refine wpV_of (by ((conv=>lhs;cbv);(repeat((first|rewrite[h6]|rewrite[h2]|rewrite[h7]|rewrite[h8]);(try(conv=>lhs;cbv))));(try(with_reducible rfl)))) ?_
 apply wpV_seq;refine wpV_of (by ((conv=>lhs;cbv);(try(with_reducible rfl)))) ?_
 apply wpV_seq;apply wpV_seq;refine wpV_of (by ((conv=>lhs;cbv);(repeat((first|rewrite[h9009]|rewrite[h9010]|rewrite[h11]|rewrite[h12]);(try(conv=>lhs;cbv))));(try(with_reducible rfl)))) ?_
 apply wpV_block
 refine wpV_loop m (fun j st=>(∀ k,k<j→bad k=false)∧st=⟨0,(u::u::u::u::u::u::.one (.ptr 0 0)::i64 (rr j)::u::u::u::u::u::u::u::u::u::u::u::u::u::u::u::u::u::u::u::u::u::u::u::u::u::u::u::u::u::u::u::u::u::u::u::u::.one (.iv (.sl false 1 es))::i64 (A .len es)::i64 (ix j)::u::u::u::u::u::u::u::u::u::u::u::u::u::u::u::u::u::u::u::u::u::u::u::u::u::[]),[.var false [.iv (.int .i64 sz),.iv (.int .i64 bi),.iv (.int .i64 le)]]⟩) hn (by ((conv=>lhs;cbv);(try(with_reducible rfl)))) ⟨fun k hk=>by omega,by rw[hz,hr,← h12]⟩ ?_
 rintro j hj st ⟨hbad,rfl⟩
 by_cases hjm:j<m
 ·cases hb:bad j with
  | true =>
   obtain⟨rfl,rfl⟩:=r1 j hjm hb
   have g6j:=g6 j hjm
   rw[hb] at g6j
   (refine wpV_of (by ((conv=>lhs;cbv);(repeat((first|rewrite[g1 j hjm]|rewrite[g4 j hjm]|rewrite[g5 j hjm]|rewrite[g6j]);(try(conv=>lhs;cbv))));(try(with_reducible rfl)))) ?_;(show finV _ _ _=some _;((conv=>lhs;cbv);(repeat((first|rewrite[g1 j hjm]|rewrite[g4 j hjm]|rewrite[g5 j hjm]|rewrite[g6j]);(try(conv=>lhs;cbv))));(try(with_reducible rfl)));(try rfl)))
  | false =>
   have g6j:=g6 j hjm
   rw[hb] at g6j
   refine wpV_of (by ((conv=>lhs;cbv);(repeat((first|rewrite[g1 j hjm]|rewrite[g4 j hjm]|rewrite[g5 j hjm]|rewrite[g6j]|rewrite[g8]|rewrite[g9 j hjm]);(try(conv=>lhs;cbv))));(try(with_reducible rfl)))) ?_
   refine headQ_of (by ((conv=>lhs;cbv);(try(with_reducible rfl)))) ?_
   refine⟨hjm,fun k hk=>?_,(by ((rw[g7 j hjm,g9 j hjm,g10 j hjm,g11 j hjm,g3 j hjm])<;>rfl))⟩
   by_cases e:k=j
   ·rw[e];exact hb
   ·exact hbad k (by omega)
 ·obtain rfl:j=m:=by omega
  refine wpV_of (by ((conv=>lhs;cbv);(repeat((first|rewrite[g2]);(try(conv=>lhs;cbv))));(try(with_reducible rfl)))) ?_
  show wpV _ _ _ _ _ _
  cases b1 with
  | true =>
   obtain⟨rfl,rfl⟩:=r2 hbad (.inl rfl)
   (refine wpV_of (by ((conv=>lhs;cbv);(repeat((first|rewrite[k1]);(try(conv=>lhs;cbv))));(try(with_reducible rfl)))) ?_;(show finV _ _ _=some _;((conv=>lhs;cbv);(repeat((first|rewrite[k1]);(try(conv=>lhs;cbv))));(try(with_reducible rfl)));(try rfl)))
  | false =>
   cases b2 with
   | false =>
    obtain⟨rfl,rfl⟩:=r2 hbad (.inr rfl)
    (refine wpV_of (by ((conv=>lhs;cbv);(repeat((first|rewrite[k1]|rewrite[k2]);(try(conv=>lhs;cbv))));(try(with_reducible rfl)))) ?_;(show finV _ _ _=some _;((conv=>lhs;cbv);(repeat((first|rewrite[k1]|rewrite[k2]);(try(conv=>lhs;cbv))));(try(with_reducible rfl)));(try rfl)))
   | true =>
    obtain⟨e1,rfl⟩:=r3 hbad rfl rfl
    rw[e1]
    (refine wpV_of (by ((conv=>lhs;cbv);(repeat((first|rewrite[k1]|rewrite[k2]);(try(conv=>lhs;cbv))));(try(with_reducible rfl)))) ?_;(show finV _ _ _=some _;((conv=>lhs;cbv);(repeat((first|rewrite[k1]|rewrite[k2]);(try(conv=>lhs;cbv))));(try(with_reducible rfl)));(try rfl)))
theorem or_low {a b:Int} (h0:0≤a) (h1:a≤1000000000) (hb:0≤b) (hb':b<64):real .ar .or .i64 (a*64) b=a*64+b:=by
 show IntKind.i64.wrap _=_
 have e:((BitVec.ofInt IntKind.i64.bits (a*64) ||| BitVec.ofInt IntKind.i64.bits b).toNat:Int)=a*64+b:=by
  obtain⟨p,rfl⟩:∃ p:Nat,a=p:=⟨a.toNat,by omega⟩
  obtain⟨q,rfl⟩:∃ q:Nat,b=q:=⟨b.toNat,by omega⟩
  have h2:=Nat.two_pow_add_eq_or_of_lt (i:=6) (b:=q) (by omega) p
  rw[BitVec.toNat_or]
  have e1:(BitVec.ofInt IntKind.i64.bits ((p:Int)*64)).toNat=2 ^ 6*p:=by
   show (BitVec.ofInt 64 ((p:Int)*64)).toNat=_
   rw[BitVec.toNat_ofInt];omega
  have e2:(BitVec.ofInt IntKind.i64.bits (q:Int)).toNat=q:=by
   show (BitVec.ofInt 64 (q:Int)).toNat=_
   rw[BitVec.toNat_ofInt];omega
  rw[e1,e2,← h2]
  omega
 rw[e]
 exact wrap_in (by unfold inI;omega)
theorem shl6 {a:Int} (h0:0≤a) (h1:a≤1000000000):real .ar .shl .i64 a 6=a*64:=by
 show IntKind.i64.wrap (a*2 ^ (min (6:Int).toNat 64))=_
 rw[show a*2 ^ (min (6:Int).toNat 64)=a*64 by rfl]
 exact wrap_in (by unfold inI;omega)
/-- What the bytes behind the first one make of its bits. -/
def rrS (s:ByteArray) (i:Nat) (b:Int):Nat→Int
 | 0=>b
 | j+1=>rrS s i b j*64+bt s (i+1+j) % 64
theorem rrS_range (s:ByteArray) (i:Nat) {b:Int} (h0:0≤b) (h1:b<32):∀ j,j≤3→0≤rrS s i b j∧rrS s i b j<32*64 ^ j
 | 0,_=>by simp[rrS,h0,h1]
 | j+1,hj=>by
  obtain⟨h2,h3⟩:=rrS_range s i h0 h1 j (by omega)
  rcases (by omega:j=0∨j=1∨j=2) with rfl|rfl|rfl<;>(simp only[rrS] at h2 h3 ⊢;omega)
theorem nx_1 {n:Nat} {a b c d:Int} (h:a<128):nx n a b c d=(a,1):=by simp[nx,h]
theorem nx_2 {n:Nat} {a b c d:Int} (h:192≤a) (h':a<224):nx n a b c d=if n<2∨b / 64≠2∨a % 32*64+b % 64<128 then (-1,1) else (a % 32*64+b % 64,2):=by
 unfold nx;rw[if_neg (by omega),if_neg (by omega),if_pos (by omega)]
theorem nx_3 {n:Nat} {a b c d:Int} (h:224≤a) (h':a<240):nx n a b c d=if n<3∨b / 64≠2∨c / 64≠2∨(a % 16*64+b % 64)*64+c % 64<2048∨isSign ((a % 16*64+b % 64)*64+c % 64)=false then (-1,1) else ((a % 16*64+b % 64)*64+c % 64,3):=by
 unfold nx;rw[if_neg (by omega),if_neg (by omega),if_neg (by omega),if_pos (by omega)]
theorem nx_4 {n:Nat} {a b c d:Int} (h:240≤a) (h':a<248):nx n a b c d=if n<4∨b / 64≠2∨c / 64≠2∨d / 64≠2∨((a % 8*64+b % 64)*64+c % 64)*64+d % 64<65536∨isSign (((a % 8*64+b % 64)*64+c % 64)*64+d % 64)=false then (-1,1) else (((a % 8*64+b % 64)*64+c % 64)*64+d % 64,4):=by
 unfold nx;rw[if_neg (by omega),if_neg (by omega),if_neg (by omega),if_neg (by omega),if_pos (by omega)]
theorem nx_0 {n:Nat} {a b c d:Int} (h:128≤a∧a<192∨248≤a):nx n a b c d=(-1,1):=by
 unfold nx
 rw[if_neg (by omega)]
 by_cases h2:a<192
 ·rw[if_pos h2]
 ·rw[if_neg h2,if_neg (by omega),if_neg (by omega),if_neg (by omega)]
theorem fB_2 {a:Int} (h:192≤a) (h':a<224):fB a=a % 32:=by unfold fB;rw[if_neg (by omega),if_neg (by omega),if_pos (by omega)]
theorem fB_3 {a:Int} (h:224≤a) (h':a<240):fB a=a % 16:=by unfold fB;rw[if_neg (by omega),if_neg (by omega),if_neg (by omega),if_pos (by omega)]
theorem fB_4 {a:Int} (h:240≤a) (h':a<248):fB a=a % 8:=by unfold fB;rw[if_neg (by omega),if_neg (by omega),if_neg (by omega),if_neg (by omega),if_pos (by omega)]
theorem fL_2 {a:Int} (h:192≤a) (h':a<224):fL a=128:=by unfold fL;rw[if_neg (by omega),if_neg (by omega),if_pos (by omega)]
theorem fL_3 {a:Int} (h:224≤a) (h':a<240):fL a=2048:=by unfold fL;rw[if_neg (by omega),if_neg (by omega),if_neg (by omega),if_pos (by omega)]
theorem fL_4 {a:Int} (h:240≤a) (h':a<248):fL a=65536:=by unfold fL;rw[if_neg (by omega),if_neg (by omega),if_neg (by omega),if_neg (by omega),if_pos (by omega)]
theorem fS_cases {a:Int} (h0:0≤a):(fS a=0∧(128≤a∧a<192∨248≤a))∨(fS a=1∧0≤a∧a<128)∨(fS a=2∧192≤a∧a<224)∨(fS a=3∧224≤a∧a<240)∨(fS a=4∧240≤a∧a<248):=by
 unfold fS
 split
 ·omega
 split
 ·omega
 split
 ·omega
 split
 ·omega
 split<;>omega
theorem p116 (s:ByteArray) (hs:s.size≤1000000000) (i:Nat) (hi:i<s.size):Pl 116 [.one (.iv (.str s)),i64 i] (tupF (nxt s i).1 (nxt s i).2) []:=by
 obtain⟨k1,h121⟩:=(p121 (bt_range s i).1 (bt_range s i).2).at pr_mono
 have hr:=bt_range s i
 have hr1:=bt_range s (i+1)
 have hr2:=bt_range s (i+2)
 have hr3:=bt_range s (i+3)
 by_cases hearly:fS (bt s i)=0∨fS (bt s i) > s.size - i
 ·have hx:nxt s i=(-1,1):=by
   rcases fS_cases hr.1 with ⟨h,h1⟩|⟨h,h1,h2⟩|⟨h,h1,h2⟩|⟨h,h1,h2⟩|⟨h,h1,h2⟩
   ·rw[nxt,nx_0 h1]
   ·omega
   ·rw[nxt,nx_2 h1 h2,if_pos (.inl (by omega))]
   ·rw[nxt,nx_3 h1 h2,if_pos (.inl (by omega))]
   ·rw[nxt,nx_4 h1 h2,if_pos (.inl (by omega))]
  rw[hx]
  refine Plays.wp (vf:=v116) rfl rfl ⟨k1,fun A call hA hcall=>?_⟩
  have h121:=h121 k1 (Nat.le_refl _)
  rw[← hcall] at h121
  exact w116a A call k1 s i s.size (bt s i) (fS (bt s i)) (fB (bt s i)) (fL (bt s i)) (s.size - i) (decide (fS (bt s i)=0)) (decide (fS (bt s i) > s.size - i)) (ltF hA (by omega)) (by rw[hA];rfl) (geF hA (by omega)) (by rw[hA,sidx_real (by omega) (by omega)];simp) h121
   (by rw[hA,eql_real]) (subR hA rfl (by omega)) (by rw[hA,gtr_real]) (by simpa using hearly)
 ·obtain⟨m,hm,hcls⟩:∃ m:Nat,(m:Int)+1=fS (bt s i)∧((m=0∧0≤bt s i∧bt s i<128)∨(m=1∧192≤bt s i∧bt s i<224)∨(m=2∧224≤bt s i∧bt s i<240)∨(m=3∧240≤bt s i∧bt s i<248)):=by
   rcases fS_cases hr.1 with ⟨h,h1⟩|⟨h,h1,h2⟩|⟨h,h1,h2⟩|⟨h,h1,h2⟩|⟨h,h1,h2⟩
   ·omega
   ·exact⟨0,by omega,.inl ⟨rfl,h1,h2⟩⟩
   ·exact⟨1,by omega,.inr (.inl ⟨rfl,h1,h2⟩)⟩
   ·exact⟨2,by omega,.inr (.inr (.inl ⟨rfl,h1,h2⟩))⟩
   ·exact⟨3,by omega,.inr (.inr (.inr ⟨rfl,h1,h2⟩))⟩
  have hm3:m≤3:=by omega
  have hbi:0≤fB (bt s i)∧fB (bt s i)≤255∧(m=0∨fB (bt s i)<32):=by
   rcases hcls with ⟨rfl,c1,c2⟩|⟨rfl,c1,c2⟩|⟨rfl,c1,c2⟩|⟨rfl,c1,c2⟩
   ·rw[show fB (bt s i)=bt s i by simp[fB,c2]];omega
   ·rw[fB_2 c1 c2];omega
   ·rw[fB_3 c1 c2];omega
   ·rw[fB_4 c1 c2];omega
  have hrr:∀ j,j≤m→0≤rrS s i (fB (bt s i)) j∧rrS s i (fB (bt s i)) j≤10000000:=fun j hj=>by
   rcases hbi.2.2 with h0|h0
   ·obtain rfl:j=0:=by omega
    simp only[rrS];omega
   ·have:=rrS_range s i hbi.1 h0 j (by omega)
    rcases (by omega:j=0∨j=1∨j=2∨j=3) with rfl|rfl|rfl|rfl<;>omega
  have hn:i+1+m≤s.size:=by omega
  obtain⟨k2,h122⟩:=(p122 (rrS s i (fB (bt s i)) m)).at pr_mono
  refine Plays.wp (vf:=v116) rfl rfl ⟨k1+k2+m+1,fun A call hA hcall=>?_⟩
  have h121:=h121 (k1+k2+m+1) (by omega)
  have h122:=h122 (k1+k2+m+1) (by omega)
  rw[← hcall] at h121 h122
  have hes:=s2b_sx s (a:=i+1) (b:=i+1+m) hn
  rw[show i+1+m - (i+1)=m by omega] at hes
  have hb:=fun j=>bt_range s (i+1+j)
  refine w116 A call (k1+k2+m+1) m (by omega) s (sx s (i+1) (i+1+m)) i s.size (bt s i) (fS (bt s i)) (fB (bt s i)) (fL (bt s i)) (s.size - i) ((i+1:Nat):Int) ((i+1+m:Nat):Int) (ltF hA (by omega)) (by rw[hA];rfl) (geF hA (by omega)) (by rw[hA,sidx_real (by omega) (by omega)];simp) h121
   (eqF hA (by omega)) (subR hA rfl (by omega)) (gtF hA (by omega)) (addR hA (by omega) (by omega)) (addR hA (by omega) (by omega)) (by rw[hA,sext_real (by omega) hn]) _ (by rw[hA,hes])
   (fun j=>(j:Int)) (fun j=>bt s (i+1+j)) (rrS s i (fB (bt s i))) (fun j=>rrS s i (fB (bt s i)) j*64) (fun j=>bt s (i+1+j) % 64) (fun j=>bt s (i+1+j) / 64*64) (fun j=>decide (bt s (i+1+j) / 64≠2)) rfl rfl
   (fun j hj=>ltT hA (by rw[hA,real_len];simp[encB];exact hj)) (ltF hA (by rw[hA,real_len];simp[encB])) (fun j hj=>addR hA (by omega) (by omega)) (fun j hj=>by rw[hA,real_get];simp[encB,hj])
   (fun j hj=>by rw[hA];exact and192 (hb j).1 (hb j).2) (fun j hj=>by rw[hA,neq_real];congr 1;simp only[eq_iff_iff];have:=hb j;omega) (fun j hj=>by rw[hA];have:=hrr j (by omega);exact shl6 this.1 (by omega)) (by rw[hA];rfl)
   (fun j hj=>by rw[hA];exact and63 (hb j).1 (hb j).2) (fun j hj=>ckI hA (by have:=hb j;omega)) (fun j hj=>by rw[hA];have:=hrr j (by omega);have:=hb j;exact or_low (by omega) (by omega) (by omega) (by omega))
   (decide (rrS s i (fB (bt s i)) m<fL (bt s i))) (isSign (rrS s i (fB (bt s i)) m)) (by rw[hA,lss_real]) h122 _ _ ?_ ?_ ?_
  ·intro j hj hbj
   simp only[decide_eq_true_eq] at hbj
   have hx:nxt s i=(-1,1):=by
    rcases hcls with ⟨rfl,c1,c2⟩|⟨rfl,c1,c2⟩|⟨rfl,c1,c2⟩|⟨rfl,c1,c2⟩
    ·omega
    ·obtain rfl:j=0:=by omega
     rw[nxt,nx_2 c1 c2,if_pos (.inr (.inl hbj))]
    ·rw[nxt,nx_3 c1 c2]
     rcases (by omega:j=0∨j=1) with rfl|rfl
     ·rw[if_pos (.inr (.inl hbj))]
     ·rw[if_pos (.inr (.inr (.inl hbj)))]
    ·rw[nxt,nx_4 c1 c2]
     rcases (by omega:j=0∨j=1∨j=2) with rfl|rfl|rfl
     ·rw[if_pos (.inr (.inl hbj))]
     ·rw[if_pos (.inr (.inr (.inl hbj)))]
     ·rw[if_pos (.inr (.inr (.inr (.inl hbj))))]
   rw[hx];exact⟨rfl,rfl⟩
  ·intro hall hb12
   simp only[decide_eq_true_eq] at hb12
   have hx:nxt s i=(-1,1):=by
    rcases hcls with ⟨rfl,c1,c2⟩|⟨rfl,c1,c2⟩|⟨rfl,c1,c2⟩|⟨rfl,c1,c2⟩
    ·exfalso
     rw[show fB (bt s i)=bt s i by simp[fB,c2],show fL (bt s i)=0 by simp[fL,c2]] at hb12
     simp only[rrS] at hb12
     rcases hb12 with h|h
     ·omega
     ·simp only[isSign,decide_eq_false_iff_not] at h;omega
    ·rw[fB_2 c1 c2,fL_2 c1 c2] at hb12
     have e:rrS s i (bt s i % 32) 1=bt s i % 32*64+bt s (i+1) % 64:=rfl
     rw[e] at hb12
     rw[nxt,nx_2 c1 c2]
     rcases hb12 with h|h
     ·rw[if_pos (.inr (.inr h))]
     ·by_cases h':bt s i % 32*64+bt s (i+1) % 64<128
      ·rw[if_pos (.inr (.inr h'))]
      ·simp only[isSign,decide_eq_false_iff_not] at h;omega
    ·rw[fB_3 c1 c2,fL_3 c1 c2] at hb12
     have e:rrS s i (bt s i % 16) 2=(bt s i % 16*64+bt s (i+1) % 64)*64+bt s (i+2) % 64:=rfl
     rw[e] at hb12
     rw[nxt,nx_3 c1 c2,if_pos (.inr (.inr (.inr hb12)))]
    ·rw[fB_4 c1 c2,fL_4 c1 c2] at hb12
     have e:rrS s i (bt s i % 8) 3=((bt s i % 8*64+bt s (i+1) % 64)*64+bt s (i+2) % 64)*64+bt s (i+3) % 64:=rfl
     rw[e] at hb12
     rw[nxt,nx_4 c1 c2,if_pos (.inr (.inr (.inr (.inr hb12))))]
   rw[hx];exact⟨rfl,rfl⟩
  ·intro hall hb1 hb2
   simp only[decide_eq_false_iff_not] at hb1
   simp only[decide_eq_false_iff_not,Decidable.not_not] at hall
   have hx:nxt s i=(rrS s i (fB (bt s i)) m,fS (bt s i)):=by
    rw[← hm]
    rcases hcls with ⟨rfl,c1,c2⟩|⟨rfl,c1,c2⟩|⟨rfl,c1,c2⟩|⟨rfl,c1,c2⟩
    ·rw[nxt,nx_1 c2,show fB (bt s i)=bt s i by simp[fB,c2]];rfl
    ·rw[fB_2 c1 c2] at hb1 hb2 ⊢
     rw[fL_2 c1 c2] at hb1
     have e:rrS s i (bt s i % 32) 1=bt s i % 32*64+bt s (i+1) % 64:=rfl
     rw[e] at hb1 hb2 ⊢
     have a0:bt s (i+1) / 64=2:=hall 0 (by omega)
     rw[nxt,nx_2 c1 c2,if_neg (by omega)]
     rfl
    ·rw[fB_3 c1 c2] at hb1 hb2 ⊢
     rw[fL_3 c1 c2] at hb1
     have e:rrS s i (bt s i % 16) 2=(bt s i % 16*64+bt s (i+1) % 64)*64+bt s (i+2) % 64:=rfl
     rw[e] at hb1 hb2 ⊢
     have a0:bt s (i+1) / 64=2:=hall 0 (by omega)
     have a1:bt s (i+2) / 64=2:=hall 1 (by omega)
     rw[nxt,nx_3 c1 c2,hb2,if_neg (by simp;omega)]
     rfl
    ·rw[fB_4 c1 c2] at hb1 hb2 ⊢
     rw[fL_4 c1 c2] at hb1
     have e:rrS s i (bt s i % 8) 3=((bt s i % 8*64+bt s (i+1) % 64)*64+bt s (i+2) % 64)*64+bt s (i+3) % 64:=rfl
     rw[e] at hb1 hb2 ⊢
     have a0:bt s (i+1) / 64=2:=hall 0 (by omega)
     have a1:bt s (i+2) / 64=2:=hall 1 (by omega)
     have a2:bt s (i+3) / 64=2:=hall 2 (by omega)
     rw[nxt,nx_4 c1 c2,hb2,if_neg (by simp;omega)]
     rfl
   rw[hx];exact⟨rfl,rfl⟩
/-- A text's bytes, as numbers. -/
def bsOf (s:ByteArray):List Int:=s.data.toList.map fun b=>(b.toNat:Int)
def mkB (l:List Int):ByteArray:=⟨(l.map fun n=>UInt8.ofNat n.toNat).toArray⟩
theorem mkB_eq {l:List Int} (hl:∀ x,x∈l→0≤x∧x<256) (s:ByteArray):mkB l=s↔l=bsOf s:=by
 constructor
 ·rintro rfl
  unfold bsOf mkB
  simp only[List.map_map]
  conv=>lhs;rw[← List.map_id l]
  apply List.map_congr_left
  intro x hx
  have:=hl x hx
  simp only[id,Function.comp_apply,UInt8.toNat_ofNat']
  omega
 ·rintro rfl
  unfold mkB bsOf
  simp only[List.map_map]
  have:(fun n:Int=>UInt8.ofNat n.toNat) ∘ (fun b:UInt8=>(b.toNat:Int))=id:=by
   funext b;simp
  rw[this,List.map_id]
theorem rNums_enc:∀ l:List Int,rNums (encB l)=some l
 | []=>rfl
 | x::r=>by
  show (rNums (encB r)).bind _=_
  rw[rNums_enc r];rfl
theorem b2s_real (l:List Int):real .b2s (encB l)=some (mkB l):=by
 rw[real_b2s,rB2s,rNums_enc];rfl
theorem bsOf_sx (s:ByteArray) {a b:Nat} (hb:b≤s.size):bsOf (sx s a b)=(List.range (b - a)).map fun i=>bt s (a+i):=by
 have h:=s2b_sx s (a:=a) (b:=b) hb
 rw[s2b_real] at h
 have inj:∀ (x y:List Int),encB x=encB y→x=y:=by
  intro x
  induction x with
  | nil=>intro y h;cases y with|nil=>rfl|cons _ _=>simp[encB] at h
  | cons p r ih =>
   intro y h
   cases y with
   | nil=>simp[encB] at h
   | cons q t =>
    simp only[encB,List.map_cons,List.cons.injEq,IV.int.injEq,true_and,and_true] at h
    rw[h.1,ih t h.2]
 exact inj _ _ h
theorem scmp_real {l:List Int} (hl:∀ x,x∈l→0≤x∧x<256) (s:ByteArray):real .scmp .eql (mkB l) s=decide (l=bsOf s):=by
 show ((mkB l).toList==s.toList)=_
 rw[Bool.eq_iff_iff,Go.Lib.bytes_beq_iff,mkB_eq hl,decide_eq_true_eq]
theorem bytesOf_range {r:Int}:∀ x,x∈bytesOf r→0≤x∧x<256:=by
 intro x hx
 unfold bytesOf at hx
 split at hx
 ·simp at hx
 rename_i hs
 have hr:0≤r∧r≤1114111:=by simp only[isSign,decide_eq_false_iff_not] at hs;omega
 split at hx
 ·simp only[List.mem_singleton] at hx;omega
 split at hx
 ·simp only[List.mem_cons,List.mem_singleton,List.not_mem_nil,or_false] at hx;omega
 split at hx
 ·simp only[List.mem_cons,List.mem_singleton,List.not_mem_nil,or_false] at hx;omega
 ·simp only[List.mem_cons,List.mem_singleton,List.not_mem_nil,or_false] at hx;omega
/-- What the reference tries: as so many bytes. -/
def rK (a b c d:Int):Nat→Int
 | 0=>a
 | 1=>a % 32*64+b % 64
 | 2=>a % 16*4096+b % 64*64+c % 64
 | _=>a % 8*262144+b % 64*4096+c % 64*64+d % 64
def bK (a b c d:Int):Nat→List Int
 | 0=>[a]
 | 1=>[a,b]
 | 2=>[a,b,c]
 | _=>[a,b,c,d]
theorem bytesOf_1 {r x:Int} (h:bytesOf r=[x]):isSign r=true∧r≤127∧r=x:=by
 unfold bytesOf at h
 split at h
 ·cases h
 rename_i hs
 split at h
 ·rename_i h1;simp only[List.cons.injEq,and_true] at h;exact⟨by simpa using hs,h1,h⟩
 split at h
 ·simp at h
 split at h<;>simp at h
theorem bytesOf_2 {r x y:Int} (h:bytesOf r=[x,y]):127<r∧r≤2047∧192+r / 64=x∧128+r % 64=y:=by
 unfold bytesOf at h
 split at h
 ·cases h
 split at h
 ·simp at h
 split at h
 ·simp only[List.cons.injEq,and_true] at h;omega
 split at h<;>simp at h
theorem bytesOf_3 {r x y z:Int} (h:bytesOf r=[x,y,z]):isSign r=true∧2047<r∧r≤65535∧224+r / 4096=x∧128+r / 64 % 64=y∧128+r % 64=z:=by
 unfold bytesOf at h
 split at h
 ·cases h
 rename_i hs
 split at h
 ·simp at h
 split at h
 ·simp at h
 split at h
 ·simp only[List.cons.injEq,and_true] at h;exact⟨by simpa using hs,by omega⟩
 ·simp at h
theorem bytesOf_4 {r x y z w:Int} (h:bytesOf r=[x,y,z,w]):isSign r=true∧65535<r∧240+r / 262144=x∧128+r / 4096 % 64=y∧128+r / 64 % 64=z∧128+r % 64=w:=by
 unfold bytesOf at h
 split at h
 ·cases h
 rename_i hs
 split at h
 ·simp at h
 split at h
 ·simp at h
 split at h
 ·simp at h
 ·simp only[List.cons.injEq,and_true] at h;exact⟨by simpa using hs,by omega⟩
theorem bytesOf_mk1 {r:Int} (hs:isSign r=true) (h:r≤127):bytesOf r=[r]:=by simp[bytesOf,hs,h]
theorem bytesOf_mk2 {r:Int} (hs:isSign r=true) (h:127<r) (h':r≤2047):bytesOf r=[192+r / 64,128+r % 64]:=by
 unfold bytesOf;rw[if_neg (by simp[hs]),if_neg (by omega),if_pos h']
theorem bytesOf_mk3 {r:Int} (hs:isSign r=true) (h:2047<r) (h':r≤65535):bytesOf r=[224+r / 4096,128+r / 64 % 64,128+r % 64]:=by
 unfold bytesOf;rw[if_neg (by simp[hs]),if_neg (by omega),if_neg (by omega),if_pos h']
theorem bytesOf_mk4 {r:Int} (hs:isSign r=true) (h:65535<r):bytesOf r=[240+r / 262144,128+r / 4096 % 64,128+r / 64 % 64,128+r % 64]:=by
 unfold bytesOf;rw[if_neg (by simp[hs]),if_neg (by omega),if_neg (by omega),if_neg (by omega)]
theorem sign_low {r:Int} (h0:0≤r) (h:r<55296):isSign r=true:=by simp only[isSign,decide_eq_true_eq];omega
theorem match_nx {n:Nat} {a b c d:Int} (ha:0≤a∧a<256) (hb:0≤b∧b<256) (hc:0≤c∧c<256) (hd:0≤d∧d<256):∀ j,j<4→j+1≤n→bytesOf (rK a b c d j)=bK a b c d j→nx n a b c d=(rK a b c d j,((j+1:Nat):Int)):=by
 intro j hj hn h
 rcases (by omega:j=0∨j=1∨j=2∨j=3) with rfl|rfl|rfl|rfl
 ·simp only[rK,bK] at h ⊢
  obtain⟨h1,h2,h3⟩:=bytesOf_1 h
  rw[nx_1 (by omega)];rfl
 ·simp only[rK,bK] at h ⊢
  obtain⟨h2,h3,h4,h5⟩:=bytesOf_2 h
  rw[nx_2 (by omega) (by omega),if_neg (by omega)];rfl
 ·simp only[rK,bK] at h ⊢
  obtain⟨h1,h2,h3,h4,h5,h6⟩:=bytesOf_3 h
  have e:(a % 16*64+b % 64)*64+c % 64=a % 16*4096+b % 64*64+c % 64:=by omega
  rw[nx_3 (by omega) (by omega),e,h1,if_neg (by simp;omega)];rfl
 ·simp only[rK,bK] at h ⊢
  obtain⟨h1,h2,h3,h4,h5,h6⟩:=bytesOf_4 h
  have e:((a % 8*64+b % 64)*64+c % 64)*64+d % 64=a % 8*262144+b % 64*4096+c % 64*64+d % 64:=by omega
  rw[nx_4 (by omega) (by omega),e,h1,if_neg (by simp;omega)];rfl
theorem nomatch_nx {n:Nat} (hn:1≤n) {a b c d:Int} (ha:0≤a∧a<256) (hb:0≤b∧b<256) (hc:0≤c∧c<256) (hd:0≤d∧d<256) (h:∀ j,j<4→j+1≤n→¬ bytesOf (rK a b c d j)=bK a b c d j):nx n a b c d=(-1,1):=by
 rcases fS_cases ha.1 with ⟨g,h1⟩|⟨g,h1,h2⟩|⟨g,h1,h2⟩|⟨g,h1,h2⟩|⟨g,h1,h2⟩
 ·exact nx_0 h1
 ·exact absurd (bytesOf_mk1 (sign_low h1 (by omega)) (by omega)) (h 0 (by omega) hn)
 ·rw[nx_2 h1 h2]
  by_cases hx:n<2∨b / 64≠2∨a % 32*64+b % 64<128
  ·rw[if_pos hx]
  ·exfalso
   refine h 1 (by omega) (by omega) ?_
   simp only[rK,bK]
   rw[bytesOf_mk2 (sign_low (by omega) (by omega)) (by omega) (by omega)]
   simp only[List.cons.injEq,and_true];omega
 ·rw[nx_3 h1 h2]
  by_cases hx:n<3∨b / 64≠2∨c / 64≠2∨(a % 16*64+b % 64)*64+c % 64<2048∨isSign ((a % 16*64+b % 64)*64+c % 64)=false
  ·rw[if_pos hx]
  ·exfalso
   refine h 2 (by omega) (by omega) ?_
   simp only[rK,bK]
   have e:(a % 16*64+b % 64)*64+c % 64=a % 16*4096+b % 64*64+c % 64:=by omega
   rw[e] at hx
   simp only[not_or,Bool.not_eq_false] at hx
   rw[bytesOf_mk3 hx.2.2.2.2 (by omega) (by omega)]
   simp only[List.cons.injEq,and_true];omega
 ·rw[nx_4 h1 h2]
  by_cases hx:n<4∨b / 64≠2∨c / 64≠2∨d / 64≠2∨((a % 8*64+b % 64)*64+c % 64)*64+d % 64<65536∨isSign (((a % 8*64+b % 64)*64+c % 64)*64+d % 64)=false
  ·rw[if_pos hx]
  ·exfalso
   refine h 3 (by omega) (by omega) ?_
   simp only[rK,bK]
   have e:((a % 8*64+b % 64)*64+c % 64)*64+d % 64=a % 8*262144+b % 64*4096+c % 64*64+d % 64:=by omega
   rw[e] at hx
   simp only[not_or,Bool.not_eq_false] at hx
   rw[bytesOf_mk4 hx.2.2.2.2.2 (by omega)]
   simp only[List.cons.injEq,and_true];omega
end Go.Proofs.Ytlljgefgbglmbaa
