/- Bytes and numbers: which vectors may be; numbers as they are. -/
import Derived.Test.YtlljgefgbglmbaaCGCode
set_option linter.unusedSimpArgs false
set_option linter.unusedVariables false
set_option maxRecDepth 100000
set_option maxHeartbeats 1000000
set_option cbv.maxSteps 10000000
namespace Go.Proofs.Ytlljgefgbglmbaa
open Go GoV

def vec (v:List Int):List IV:=v.map (.int .i64 ·)
abbrev vecF (v:List Int):FV:=.agg [.iv (.arr 64 (vec v))]
theorem inc_real {i:Nat} (h:i≤1000000000000000000):real .ar .add .i64 (i:Int) 1=((i+1:Nat):Int):=by
 rw[add_real (by unfold inI;omega)];simp

theorem all_t {g:Nat→Bool} {n:Nat} (h:∀ j,j<n→g j=false):((List.range n).all fun i=>!(g i))=true:=by
 simp only[List.all_eq_true,List.mem_range]
 intro i hi
 rw[h i hi];rfl
theorem all_f {g:Nat→Bool} {n i:Nat} (hi:i<n) (h:g i=true):((List.range n).all fun i=>!(g i))=false:=by
 rw[← Bool.not_eq_true]
 intro hc
 simp only[List.all_eq_true,List.mem_range] at hc
 have:=hc i hi
 rw[h] at this;cases this
def badB (n:Int):Bool:=decide (n<0)||decide (n > 1073741824)
def goodB (a:List Int):Bool:=(List.range 64).all fun i=>!(badB (a.getD i 0))
theorem w102 (A:Ar) (call:CallT) (it:IterT) (x:Int) {p q:Bool} (h1:A .cmp .lss x 0=p) (h2:A .cmp .gtr x 1073741824=q):wpV A call it v102.body ⟨0,padE 9 [i64 x],[]⟩ (finQ A v102 (bl (p||q),[])):=by
 cases p<;>cases q<;>(refine wpV_of (by ((conv=>lhs;cbv);(repeat((first|rewrite[h1]|rewrite[h2]);(try(conv=>lhs;cbv))));(try(with_reducible rfl)))) ?_;(show finV _ _ _=some _;((conv=>lhs;cbv);(repeat((first|rewrite[h1]|rewrite[h2]);(try(conv=>lhs;cbv))));(try(with_reducible rfl)));(try rfl)))
theorem p102 (x:Int):Pl 102 [i64 x] (bl (badB x)) []:=Plays.wp (vf:=v102) rfl rfl ⟨0,fun A call hA _=>by subst hA;exact w102 real call _ x (lss_real _ _) (gtr_real _ _)⟩
def N114 (es:List (List IV)) (g:Nat) (len i:Int):St:=⟨0,[.one (.iv (.sl true 1 es)),.one (.iv (.fn g)),u,u,u,u,u,i64 len,i64 i,u,u,u,u,u,u,u,u,u,u],[]⟩
theorem w114 (A:Ar) (call:CallT) (n:Nat) (hn:64<n) (es:List (List IV)) (f:Nat) (x ix:Nat→Int) (g:Nat→Bool) (hi0:ix 0=0) (h1:∀ i,i<64→A .cmp .lss (ix i) (A .len es)=true) (h1':A .cmp .lss (ix 64) (A .len es)=false)
  (h3:∀ i,i<64→A .get es (ix i)=some [.int .i64 (x i)]) (h5:∀ i,i<64→call f [i64 (x i)] []=some (bl (g i),[])) (h7:∀ i,i<64→A .ar .add .i64 (ix i) 1=ix (i+1)) :
  wpV A call (iterN n) v114.body ⟨0,padE 19 [.one (.iv (.sl true 1 es)),.one (.iv (.fn f))],[]⟩ (fun ex s=>∃ r,(∃ z,r=(i64 z,([]:List Blk))∧((∃ i,i<64∧g i=true∧z=ix i)∨((∀ i,i<64→g i=false)∧z=-1)))∧finV A v114 (ex,s)=some r):=by
 apply wpV_seq;refine wpV_of (by ((conv=>lhs;cbv);(try(with_reducible rfl)))) ?_
 apply wpV_seq;apply wpV_seq;refine wpV_of (by ((conv=>lhs;cbv);(try(with_reducible rfl)))) ?_
 apply wpV_block
 refine wpV_loop 64 (fun i s=>s=N114 es f (A .len es) (ix i)∧∀ j,j<i→g j=false) hn (by ((conv=>lhs;cbv);(try(with_reducible rfl)))) ⟨by rw[hi0];rfl,by omega⟩ ?_
 rintro i hi s ⟨rfl,hg⟩
 by_cases him:i<64
 ·have h5i:=h5 i him
  cases hgi:g i with
  | true =>
   rw[hgi] at h5i
   refine wpV_of (by ((conv=>lhs;cbv);(repeat((first|rewrite[h1 i him]|rewrite[h3 i him]|rewrite[h5i]);(try(conv=>lhs;cbv))));(try(with_reducible rfl)))) ?_
   exact⟨_,⟨ix i,rfl,.inl ⟨i,him,hgi,rfl⟩⟩,by (show finV _ _ _=some _;((conv=>lhs;cbv);(try(with_reducible rfl)));(try rfl))⟩
  | false =>
   rw[hgi] at h5i
   refine wpV_of (by ((conv=>lhs;cbv);(repeat((first|rewrite[h1 i him]|rewrite[h3 i him]|rewrite[h5i]);(try(conv=>lhs;cbv))));(try(with_reducible rfl)))) ?_
   refine headQ_of (by ((conv=>lhs;cbv);(try(with_reducible rfl)))) ?_
   refine⟨him,by rw[h7 i him];rfl,fun j hj=>?_⟩
   rcases Nat.lt_succ_iff_lt_or_eq.1 hj with h|rfl
   ·exact hg j h
   ·exact hgi
 ·obtain rfl:i=64:=by omega
  refine wpV_of (by ((conv=>lhs;cbv);(repeat((first|rewrite[h1']);(try(conv=>lhs;cbv))));(try(with_reducible rfl)))) ?_
  show wpV _ _ _ _ _ _
  refine wpV_of (by ((conv=>lhs;cbv);(try(with_reducible rfl)))) ?_
  exact⟨_,⟨-1,rfl,.inr ⟨hg,rfl⟩⟩,by (show finV _ _ _=some _;((conv=>lhs;cbv);(try(with_reducible rfl)));(try rfl))⟩
theorem w101 (A:Ar) (call:CallT) (it:IterT) (es:List (List IV)) (f:Nat) (z:Int) {t:Bool} (h:call 114 [.one (.iv (.sl true 1 es)),.one (.iv (.fn f))] []=some (i64 z,[])) (h1:A .cmp .geq z 0=t) :
  wpV A call it v101.body ⟨0,padE 9 [.one (.iv (.sl true 1 es)),.one (.iv (.fn f))],[]⟩ (finQ A v101 (bl t,[])):=by
 cases t<;>(refine wpV_of (by ((conv=>lhs;cbv);(repeat((first|rewrite[h]);(try(conv=>lhs;cbv))));(try(with_reducible rfl)))) ?_;(show finV _ _ _=some _;((conv=>lhs;cbv);(repeat((first|rewrite[h1]);(try(conv=>lhs;cbv))));(try(with_reducible rfl)));(try rfl)))
theorem w59 (A:Ar) (call:CallT) (it:IterT) (xs:List IV) {t:Bool} (h:call 101 [.one (.iv (.sl true 1 (A .chunk 1 xs))),.one (.iv (.fn 102))] []=some (bl t,[])) :
  wpV A call it v59.body ⟨0,padE 6 [.agg [.iv (.arr 64 xs)]],[]⟩ (finQ A v59 (bl (!t),[])):=by
 cases t<;>(refine wpV_of (by ((conv=>lhs;cbv);(repeat((first|rewrite[h]);(try(conv=>lhs;cbv))));(try(with_reducible rfl)))) ?_;(show finV _ _ _=some _;((conv=>lhs;cbv);(try(with_reducible rfl)));(try rfl)))
theorem w32 (A:Ar) (call:CallT) (it:IterT) (xs:List IV) {t:Bool} (h:call 59 [.agg [.iv (.arr 64 xs)]] []=some (bl t,[])) :
  wpV A call it v32.body ⟨0,padE 5 [.agg [.iv (.arr 64 xs)]],[]⟩ (finQ A v32 (bl t,[])):=by
 refine wpV_of (by ((conv=>lhs;cbv);(repeat((first|rewrite[h]);(try(conv=>lhs;cbv))));(try(with_reducible rfl)))) ?_
 (show finV _ _ _=some _;((conv=>lhs;cbv);(try(with_reducible rfl)));(try rfl))
theorem p59 {a:List Int} (ha:a.length=64):Pl 59 [vecF a] (bl (goodB a)) []:=by
 have h114:∃ r,(∃ z,r=(i64 z,([]:List Blk))∧((∃ i,i<64∧badB (a.getD i 0)=true∧z=(i:Int))∨((∀ i,i<64→badB (a.getD i 0)=false)∧z=-1)))∧Plays (lookT tab) (fun _=>clonePr clones) 114 [.one (.iv (.sl true 1 (real .chunk 1 (vec a)))),.one (.iv (.fn 102))] [] r:=by
  obtain⟨k,hk⟩:=Plays.all pr_mono (T:=lookT tab) (pr:=fun _=>clonePr clones) (f:=102) (vs:=fun i=>[i64 (a.getD i 0)]) (bs:=fun _=>[]) (r:=fun i=>(bl (badB (a.getD i 0)),[])) (m:=64) (fun i _=>p102 _)
  refine Plays.wpE (vf:=v114) rfl rfl ⟨max k 65,fun A call hA hcall=>?_⟩
  subst hA;subst hcall
  have hch:real .chunk 1 (vec a)=a.map fun x=>[.int .i64 x]:=by rw[real_chunk];simp[vec]
  rw[hch]
  exact w114 real _ (max k 65) (by omega) _ 102 (fun i=>a.getD i 0) (fun i=>(i:Int)) (fun i=>badB (a.getD i 0)) rfl (fun i hi=>by rw[lss_real,real_len];simp;omega) (by rw[lss_real,real_len];simp;omega)
   (fun i hi=>get_real _ i (by simp[show i<a.length by omega])) (fun i hi=>hk _ (by omega) i hi) (fun i hi=>inc_real (by omega))
 obtain⟨r,⟨z,rfl,hz⟩,h114⟩:=h114
 have hgb:(!(decide (z≥0)))=goodB a:=by
  rcases hz with ⟨i,hi,hb,rfl⟩|⟨hb,rfl⟩
  ·rw[goodB,all_f (g:=fun i=>badB (a.getD i 0)) hi hb]
   simp
  ·rw[goodB,all_t (g:=fun i=>badB (a.getD i 0)) hb]
   simp
 have h101:Pl 101 [.one (.iv (.sl true 1 (real .chunk 1 (vec a)))),.one (.iv (.fn 102))] (bl (decide (z≥0))) []:=by
  obtain⟨n,h⟩:=h114
  exact Plays.wp (vf:=v101) rfl rfl ⟨n,fun A call hA hcall=>by subst hA;subst hcall;exact w101 real _ _ _ 102 z h (geq_real _ _)⟩
 have h59:Pl 59 [vecF a] (bl (!(decide (z≥0)))) []:=by
  obtain⟨n,h⟩:=h101
  exact Plays.wp (vf:=v59) rfl rfl ⟨n,fun A call hA hcall=>by subst hA;subst hcall;exact w59 real _ _ _ h⟩
 rw[hgb] at h59
 exact h59
theorem p32 {a:List Int} (ha:a.length=64):Pl 32 [vecF a] (bl (goodB a)) []:=by
 obtain⟨n,h⟩:=p59 ha
 exact Plays.wp (vf:=v32) rfl rfl ⟨n,fun A call hA hcall=>by subst hA;subst hcall;exact w32 real _ _ _ h⟩
section nums
variable {A:Ar} (hA:A=real)
include hA
theorem ltT {a b:Int} (h:a<b):A .cmp .lss a b=true:=by rw[hA,lss_real];exact decide_eq_true h
theorem ltF {a b:Int} (h:b≤a):A .cmp .lss a b=false:=by rw[hA,lss_real];exact decide_eq_false (by omega)
theorem leT {a b:Int} (h:a≤b):A .cmp .leq a b=true:=by rw[hA,leq_real];exact decide_eq_true h
theorem leF {a b:Int} (h:b<a):A .cmp .leq a b=false:=by rw[hA,leq_real];exact decide_eq_false (by omega)
theorem gtT {a b:Int} (h:b<a):A .cmp .gtr a b=true:=by rw[hA,gtr_real];exact decide_eq_true h
theorem gtF {a b:Int} (h:a≤b):A .cmp .gtr a b=false:=by rw[hA,gtr_real];exact decide_eq_false (by omega)
theorem geT {a b:Int} (h:b≤a):A .cmp .geq a b=true:=by rw[hA,geq_real];exact decide_eq_true h
theorem geF {a b:Int} (h:a<b):A .cmp .geq a b=false:=by rw[hA,geq_real];exact decide_eq_false (by omega)
theorem eqT {a b:Int} (h:a=b):A .cmp .eql a b=true:=by rw[hA,eql_real];exact decide_eq_true h
theorem eqF {a b:Int} (h:a≠b):A .cmp .eql a b=false:=by rw[hA,eql_real];exact decide_eq_false h
theorem neT {a b:Int} (h:a≠b):A .cmp .neq a b=true:=by rw[hA,neq_real];exact decide_eq_true h
theorem neF {a b:Int} (h:a=b):A .cmp .neq a b=false:=by rw[hA,neq_real];exact decide_eq_false (by simp[h])
theorem addR {a b c:Int} (h:c=a+b) (hc:-9223372036854775808≤c∧c≤9223372036854775807):A .ar .add .i64 a b=c:=by rw[hA,h];rw[h] at hc;exact add_real hc
theorem subR {a b c:Int} (h:c=a - b) (hc:-9223372036854775808≤c∧c≤9223372036854775807):A .ar .sub .i64 a b=c:=by rw[hA,h];rw[h] at hc;exact sub_real hc
theorem mulR {a b c:Int} (h:c=a*b) (hc:-9223372036854775808≤c∧c≤9223372036854775807):A .ar .mul .i64 a b=c:=by rw[hA,h];rw[h] at hc;exact wrap_in hc
theorem remR {a b c:Int} (h0:0≤a) (h:c=a % b):A .ar .rem .i64 a b=c:=by
 rw[hA,h];exact Int.tmod_eq_emod_of_nonneg h0
theorem quoR {a b c:Int} (h0:0≤a) (h:c=a / b) (hc:-9223372036854775808≤c∧c≤9223372036854775807):A .ar .quo .i64 a b=c:=by
 rw[hA,h]
 show IntKind.i64.wrap (a.tdiv b)=_
 rw[Int.tdiv_eq_ediv_of_nonneg h0]
 rw[h] at hc
 exact wrap_in hc
theorem ckI {a:Int} (h:-9223372036854775808≤a∧a≤9223372036854775807):A .ck .i64 a=a:=by rw[hA];exact wrap_in h
theorem ckU {a:Int} (h:0≤a) (h':a<256):A .ck .u8 a=a:=by
 rw[hA]
 show IntKind.u8.wrap a=a
 simp[IntKind.wrap,IntKind.min,IntKind.max,IntKind.signed,IntKind.bits]
 omega
theorem nzR {a:Int} (h:a≠0):A .nz a=true:=by
 rw[hA];show (a != 0)=true;simp[h]
theorem miR {a b c:Int} (h:c=min a b):A .mi a b=c:=by
 rw[hA,h];show (if b<a then b else a)=_;split<;>omega
theorem mxR {a b c:Int} (h:c=max a b):A .mx a b=c:=by
 rw[hA,h];show (if b > a then b else a)=_;split<;>omega
end nums

abbrev Pn (n f:Nat) (vs:List FV) (bs:List Blk) (v:FV) (os:List Blk):Prop:=∀ m,n≤m→play real (lookT tab) (fun _=>clonePr clones) m f vs bs=some (v,os)
theorem playN {f:Nat} {vf:VFn} {vs:List FV} {bs:List Blk} {v:FV} {os:List Blk} (n:Nat) (hT:lookT tab f=some vf) (hlen:Nat.beq (lenF vs) vf.np=true)
  (h:∀ A call,A=real→call=play real (lookT tab) (fun _=>clonePr clones) n→wpV A call (iterN n) vf.body ⟨lenH bs,padE vf.nt vs,bs⟩ (finQ A vf (v,os))):Pn (n+1) f vs bs v os:=by
 obtain⟨ex,s,h1,h2⟩:=h real _ rfl rfl
 have h0:play real (lookT tab) (fun _=>clonePr clones) (n+1) f vs bs=some (v,os):=by
  simp only[play,hT,bodyV,hlen,cond_true,h1,Option.bind_some];exact h2
 exact fun m hm=>play_mono pr_mono hm _ _ _ _ h0
/-- So many bytes stand behind the first one. -/
def nd (x:Nat):Nat:=if x<2 ^ 7 then 0 else if x<2 ^ 14 then 1 else if x<2 ^ 21 then 2 else if x<2 ^ 28 then 3 else if x<2 ^ 35 then 4 else if x<2 ^ 42 then 5 else if x<2 ^ 49 then 6 else if x<2 ^ 56 then 7 else 8
theorem nd_le (x:Nat):nd x≤8:=by
 unfold nd
 repeat' split
 all_goals omega
theorem nd_lt {x k:Nat} (h:nd x=k) (hk:k<8):x<2 ^ (7*k+7):=by
 unfold nd at h
 repeat' split at h
 all_goals (subst h;first|omega|(simp only[Nat.reduceMul,Nat.reduceAdd] at *;assumption))
theorem nd_ge {x k:Nat} (h:nd x=k) (hk:0<k):2 ^ (7*k)≤x:=by
 unfold nd at h
 repeat' split at h
 all_goals (subst h;first|omega|(simp only[Nat.reduceMul,Nat.reduceAdd] at *;omega))
/-- x has L binary places. -/
def IsLen (x L:Nat):Prop:=(x=0∧L=0)∨(0<L∧2 ^ (L - 1)≤x∧x<2 ^ L)
theorem IsLen.up {x L k:Nat} (h:IsLen (x / 2 ^ k) L) (hx:2 ^ k≤x):IsLen x (L+k):=by
 have hp:0<2 ^ k:=Nat.two_pow_pos k
 have h1:1≤x / 2 ^ k:=(Nat.le_div_iff_mul_le hp).2 (by omega)
 rcases h with ⟨h0,_⟩|⟨hL,a,b⟩
 ·omega
 ·refine .inr ⟨by omega,?_,?_⟩
  ·rw[show L+k - 1=(L - 1)+k by omega,Nat.pow_add]
   exact (Nat.le_div_iff_mul_le hp).1 a
  ·rw[Nat.pow_add]
   exact (Nat.div_lt_iff_lt_mul hp).1 b
theorem pw {a b:Nat} (h:2 ^ a<2 ^ b):a<b:=(Nat.pow_lt_pow_iff_right (by omega)).1 h
theorem isLen_nd {x L:Nat} (h:IsLen x L) (hx:x<2 ^ 64):(if L > 56 then 8 else (L - 1) / 7)=nd x:=by
 have h8:=nd_le x
 obtain⟨k,hk⟩:∃ k,nd x=k:=⟨_,rfl⟩
 rw[hk] at h8 ⊢
 have lo:0<k→7*k<L:=by
  intro h0
  have:=nd_ge hk h0
  rcases h with ⟨rfl,_⟩|⟨_,a,b⟩
  ·have:=Nat.two_pow_pos (7*k);omega
  ·exact pw (by omega)
 have hi:k<8→L≤7*k+7:=by
  intro h0
  have:=nd_lt hk h0
  rcases h with ⟨_,rfl⟩|⟨_,a,b⟩
  ·omega
  ·have:=pw (a:=L - 1) (b:=7*k+7) (by omega);omega
 have hi8:L≤64:=by
  rcases h with ⟨_,rfl⟩|⟨_,a,b⟩
  ·omega
  ·have:=pw (a:=L - 1) (b:=64) (by omega);omega
 split<;>omega
/-- The bytes behind the first one: k of them. -/
def tl (x:Nat):Nat→List Nat
 | 0=>[]
 | k+1=>(x / 256 ^ k % 256)::tl x k
theorem tl_len (x k:Nat):(tl x k).length=k:=by induction k with
 | zero=>rfl
 | succ k ih=>simp[tl,ih]
/-- The first byte. -/
def fst8 (x:Nat):Nat:=(256 - 2 ^ (8 - nd x))+x / 256 ^ nd x
def enc (x:Nat):List Nat:=fst8 x::tl x (nd x)
theorem enc_len (x:Nat):(enc x).length=nd x+1:=by simp[enc,tl_len]
theorem top_lt {x:Nat} (h:nd x<8):x / 256 ^ nd x<2 ^ (7 - nd x):=by
 have:=nd_lt rfl h
 rw[Nat.div_lt_iff_lt_mul (Nat.pow_pos (by omega)),show (256:Nat)=2 ^ 8 from rfl,← Nat.pow_mul,← Nat.pow_add]
 rwa [show 7 - nd x+8*nd x=7*nd x+7 by omega]
theorem top_0 {x:Nat} (h:nd x=8) (hx:x<2 ^ 64):x / 256 ^ nd x=0:=by
 rw[h];apply Nat.div_eq_of_lt;omega
theorem tl_get (x:Nat):∀ (k j:Nat) (h:j<(tl x k).length),(tl x k)[j]=x / 256 ^ (k - 1 - j) % 256
 | 0,j,h=>by simp[tl] at h
 | k+1,0,h=>by simp[tl]
 | k+1,j+1,h=>by
  have hj:j<(tl x k).length:=by rw[tl_len] at *;omega
  simp only[tl,List.getElem_cons_succ]
  rw[tl_get x k j hj]
  congr 3
  omega
theorem wrapU64 {a:Int} (h0:0≤a) (h:a<18446744073709551616):IntKind.u64.wrap a=a:=by
 simp[IntKind.wrap,IntKind.min,IntKind.max,IntKind.signed,IntKind.bits];omega
theorem wrapU8 (a:Nat):IntKind.u8.wrap (a:Int)=((a % 256:Nat):Int):=by
 simp[IntKind.wrap,IntKind.min,IntKind.max,IntKind.signed,IntKind.bits]
section nums
variable {A:Ar} (hA:A=real)
include hA
theorem ckU64 {a:Nat} (h:a<2 ^ 64):A .ck .u64 (a:Int)=(a:Int):=by
 rw[hA];exact wrapU64 (by omega) (by omega)
theorem ckU8 (a:Nat):A .ck .u8 (a:Int)=((a % 256:Nat):Int):=by
 rw[hA];exact wrapU8 a
theorem ckI64 {a:Nat} (h:a<2 ^ 63):A .ck .i64 (a:Int)=(a:Int):=by
 rw[hA];exact wrap_in (by unfold inI;omega)
theorem shrN {k:IntKind} {a j:Nat} {b:Int} (hb:b=j) (hj:j≤k.bits):A .ar .shr k (a:Int) b=((a / 2 ^ j:Nat):Int):=by
 rw[hA,hb]
 show Int.fdiv (a:Int) (2 ^ (min (j:Int).toNat k.bits))=_
 rw[Int.toNat_natCast,Nat.min_eq_left hj]
 rw[Int.fdiv_eq_ediv_of_nonneg _ (by exact Int.le_of_lt (Int.pow_pos (by omega)))]
 norm_cast
theorem shlU {a:Nat} (h:a*256<2 ^ 64):A .ar .shl .u64 (a:Int) 8=((a*256:Nat):Int):=by
 rw[hA]
 show IntKind.u64.wrap ((a:Int)*2 ^ (min (8:Int).toNat IntKind.u64.bits))=_
 rw[show (2:Int) ^ (min (8:Int).toNat IntKind.u64.bits)=256 from by decide]
 rw[wrapU64 (by omega) (by omega)]
 omega
theorem orU {a b:Nat} (h:a*256+b<2 ^ 64) (hb:b<256):A .ar .or .u64 ((a*256:Nat):Int) (b:Int)=((a*256+b:Nat):Int):=by
 rw[hA]
 show IntKind.u64.wrap (((BitVec.ofInt 64 ((a*256:Nat):Int) ||| BitVec.ofInt 64 (b:Int)).toNat:Nat):Int)=_
 rw[BitVec.toNat_or,BitVec.ofInt_natCast,BitVec.ofInt_natCast,BitVec.toNat_ofNat,BitVec.toNat_ofNat,Nat.mod_eq_of_lt (by omega),Nat.mod_eq_of_lt (by omega)]
 have:(a*256) ||| b=a*256+b:=by
  have:=Nat.two_pow_add_eq_or_of_lt (i:=8) (b:=b) (by omega) a
  rw[Nat.mul_comm a 256];simp only[Nat.reducePow] at this;omega
 rw[this]
 exact wrapU64 (by omega) (by omega)
theorem not8 {b:Nat} (h:b<256):A .un .xor .u8 (b:Int)=((255 - b:Nat):Int):=by
 rw[hA]
 revert h;revert b
 have:∀ b:Fin 256,real .un .xor .u8 ((b.val:Nat):Int)=((255 - b.val:Nat):Int):=by decide +kernel
 exact fun {b} h=>this ⟨b,h⟩
end nums
theorem fst8_lt {x:Nat} (hx:x<2 ^ 64):fst8 x<256:=by
 have h8:=nd_le x
 unfold fst8
 by_cases h:nd x<8
 ·have a:=top_lt h
  have:2 ^ (8 - nd x)=2*2 ^ (7 - nd x):=by rw[show 8 - nd x=(7 - nd x)+1 by omega,Nat.pow_succ];omega
  have:2 ^ (8 - nd x)≤2 ^ 8:=Nat.pow_le_pow_right (by omega) (by omega)
  omega
 ·have e:nd x=8:=by omega
  rw[top_0 e hx,e]
  omega
abbrev u64 (x:Int):FV:=.one (.iv (.int .u64 x))
abbrev u8 (x:Int):FV:=.one (.iv (.int .u8 x))
theorem tab8 {A:Ar} (hA:A=real) {x:Nat} (h:x<256):∃ L:Nat,IsLen x L∧L≤8∧A .sidx ⟨#[0,1,2,2,3,3,3,3,4,4,4,4,4,4,4,4,5,5,5,5,5,5,5,5,5,5,5,5,5,5,5,5,6,6,6,6,6,6,6,6,6,6,6,6,6,6,6,6,6,6,6,6,6,6,6,6,6,6,6,6,6,6,6,6,7,7,7,7,7,7,7,7,7,7,7,7,7,7,7,7,7,7,7,7,7,7,7,7,7,7,7,7,7,7,7,7,7,7,7,7,7,7,7,7,7,7,7,7,7,7,7,7,7,7,7,7,7,7,7,7,7,7,7,7,7,7,7,7,8,8,8,8,8,8,8,8,8,8,8,8,8,8,8,8,8,8,8,8,8,8,8,8,8,8,8,8,8,8,8,8,8,8,8,8,8,8,8,8,8,8,8,8,8,8,8,8,8,8,8,8,8,8,8,8,8,8,8,8,8,8,8,8,8,8,8,8,8,8,8,8,8,8,8,8,8,8,8,8,8,8,8,8,8,8,8,8,8,8,8,8,8,8,8,8,8,8,8,8,8,8,8,8,8,8,8,8,8,8,8,8,8,8,8,8,8,8,8,8,8,8,8,8,8,8,8,8]⟩ (x:Int)=some (L:Int):=by
 rw[hA]
 have:∀ x:Fin 256,∃ L:Fin 9,((x.val=0∧L.val=0)∨(0<L.val∧2 ^ (L.val - 1)≤x.val∧x.val<2 ^ L.val))∧real .sidx ⟨#[0,1,2,2,3,3,3,3,4,4,4,4,4,4,4,4,5,5,5,5,5,5,5,5,5,5,5,5,5,5,5,5,6,6,6,6,6,6,6,6,6,6,6,6,6,6,6,6,6,6,6,6,6,6,6,6,6,6,6,6,6,6,6,6,7,7,7,7,7,7,7,7,7,7,7,7,7,7,7,7,7,7,7,7,7,7,7,7,7,7,7,7,7,7,7,7,7,7,7,7,7,7,7,7,7,7,7,7,7,7,7,7,7,7,7,7,7,7,7,7,7,7,7,7,7,7,7,7,8,8,8,8,8,8,8,8,8,8,8,8,8,8,8,8,8,8,8,8,8,8,8,8,8,8,8,8,8,8,8,8,8,8,8,8,8,8,8,8,8,8,8,8,8,8,8,8,8,8,8,8,8,8,8,8,8,8,8,8,8,8,8,8,8,8,8,8,8,8,8,8,8,8,8,8,8,8,8,8,8,8,8,8,8,8,8,8,8,8,8,8,8,8,8,8,8,8,8,8,8,8,8,8,8,8,8,8,8,8,8,8,8,8,8,8,8,8,8,8,8,8,8,8,8,8,8,8]⟩ ((x.val:Nat):Int)=some ((L.val:Nat):Int):=by decide +kernel
 obtain⟨L,h1,h2⟩:=this ⟨x,h⟩
 exact⟨L.val,h1,by omega,h2⟩
theorem n120 {x:Nat} (h:x<256):∃ L:Nat,IsLen x L∧L≤8∧Pn 1 120 [u8 x] [] (i64 L) []:=by
 obtain⟨L,h1,h2,h3⟩:=tab8 (A:=real) rfl h
 refine⟨L,h1,h2,playN 0 rfl rfl fun A call hA hcall=>?_⟩
 rw[← hA] at h3
 obtain⟨T,hT⟩:∃ T:ByteArray,T=⟨#[0,1,2,2,3,3,3,3,4,4,4,4,4,4,4,4,5,5,5,5,5,5,5,5,5,5,5,5,5,5,5,5,6,6,6,6,6,6,6,6,6,6,6,6,6,6,6,6,6,6,6,6,6,6,6,6,6,6,6,6,6,6,6,6,7,7,7,7,7,7,7,7,7,7,7,7,7,7,7,7,7,7,7,7,7,7,7,7,7,7,7,7,7,7,7,7,7,7,7,7,7,7,7,7,7,7,7,7,7,7,7,7,7,7,7,7,7,7,7,7,7,7,7,7,7,7,7,7,8,8,8,8,8,8,8,8,8,8,8,8,8,8,8,8,8,8,8,8,8,8,8,8,8,8,8,8,8,8,8,8,8,8,8,8,8,8,8,8,8,8,8,8,8,8,8,8,8,8,8,8,8,8,8,8,8,8,8,8,8,8,8,8,8,8,8,8,8,8,8,8,8,8,8,8,8,8,8,8,8,8,8,8,8,8,8,8,8,8,8,8,8,8,8,8,8,8,8,8,8,8,8,8,8,8,8,8,8,8,8,8,8,8,8,8,8,8,8,8,8,8,8,8,8,8,8,8]⟩:=⟨_,rfl⟩
 rw[← hT] at h3
 (conv at hT=>rhs;cbv)
 rw[hT] at h3
 clear hT
 have h4:=ckI64 hA (a:=L) (by omega)
 generalize (L:Int)=Z at *
 generalize (x:Int)=X at *
 refine wpV_of (by ((conv=>lhs;cbv);(repeat((first|rewrite[h3]|rewrite[h4]);(try(conv=>lhs;cbv))));(try(with_reducible rfl)))) ?_
 (show finV _ _ _=some _;((conv=>lhs;cbv);(repeat((first|rewrite[h4]);(try(conv=>lhs;cbv))));(try(with_reducible rfl)));(try rfl))
theorem n113 {x:Nat} (h:x<256):∃ L:Nat,IsLen x L∧L≤8∧Pn 2 113 [u8 x] [] (i64 ((8 - L:Nat):Int)) []:=by
 obtain⟨L,h1,h2,h3⟩:=n120 h
 refine⟨L,h1,h2,playN 1 rfl rfl fun A call hA hcall=>?_⟩
 have k1:=h3 1 (by omega)
 rw[← hcall] at k1
 have s1:=subR hA (a:=8) (b:=(L:Int)) (c:=((8 - L:Nat):Int)) (by omega) (by omega)
 generalize ((8 - L:Nat):Int)=W at *
 generalize (L:Int)=Z at *
 generalize (x:Int)=X at *
 refine wpV_of (by ((conv=>lhs;cbv);(repeat((first|rewrite[k1]|rewrite[s1]);(try(conv=>lhs;cbv))));(try(with_reducible rfl)))) ?_
 (show finV _ _ _=some _;((conv=>lhs;cbv);(repeat((first|rewrite[s1]);(try(conv=>lhs;cbv))));(try(with_reducible rfl)));(try rfl))
theorem w100 {A:Ar} (call:CallT) (it:IterT) (x y z v:Int) (n1 n2 n3 L R:Int)
  (g1:(A .cmp .geq x 4294967296=true∧A .ar .shr .u64 x 32=y∧n1=32)∨(A .cmp .geq x 4294967296=false∧y=x∧n1=0))
  (g2:(A .cmp .geq y 65536=true∧A .ar .shr .u64 y 16=z∧A .ar .add .i64 n1 16=n2)∨(A .cmp .geq y 65536=false∧z=y∧n2=n1))
  (g3:(A .cmp .geq z 256=true∧A .ar .shr .u64 z 8=v∧A .ar .add .i64 n2 8=n3)∨(A .cmp .geq z 256=false∧v=z∧n3=n2))
  (q:A .nn 32=true∧A .nn 16=true∧A .nn 8=true) (hv:A .ck .u8 v=v) (hs:A .sidx ⟨#[0,1,2,2,3,3,3,3,4,4,4,4,4,4,4,4,5,5,5,5,5,5,5,5,5,5,5,5,5,5,5,5,6,6,6,6,6,6,6,6,6,6,6,6,6,6,6,6,6,6,6,6,6,6,6,6,6,6,6,6,6,6,6,6,7,7,7,7,7,7,7,7,7,7,7,7,7,7,7,7,7,7,7,7,7,7,7,7,7,7,7,7,7,7,7,7,7,7,7,7,7,7,7,7,7,7,7,7,7,7,7,7,7,7,7,7,7,7,7,7,7,7,7,7,7,7,7,7,8,8,8,8,8,8,8,8,8,8,8,8,8,8,8,8,8,8,8,8,8,8,8,8,8,8,8,8,8,8,8,8,8,8,8,8,8,8,8,8,8,8,8,8,8,8,8,8,8,8,8,8,8,8,8,8,8,8,8,8,8,8,8,8,8,8,8,8,8,8,8,8,8,8,8,8,8,8,8,8,8,8,8,8,8,8,8,8,8,8,8,8,8,8,8,8,8,8,8,8,8,8,8,8,8,8,8,8,8,8,8,8,8,8,8,8,8,8,8,8,8,8,8,8,8,8,8,8]⟩ v=some L) (hL:A .ck .i64 L=L) (hr:A .ar .add .i64 n3 L=R) :
  wpV A call it v100.body ⟨0,padE 25 [u64 x],[]⟩ (finQ A v100 (i64 R,[])):=by
 obtain⟨q1,q2,q3⟩:=q
 obtain⟨T,hT⟩:∃ T:ByteArray,T=⟨#[0,1,2,2,3,3,3,3,4,4,4,4,4,4,4,4,5,5,5,5,5,5,5,5,5,5,5,5,5,5,5,5,6,6,6,6,6,6,6,6,6,6,6,6,6,6,6,6,6,6,6,6,6,6,6,6,6,6,6,6,6,6,6,6,7,7,7,7,7,7,7,7,7,7,7,7,7,7,7,7,7,7,7,7,7,7,7,7,7,7,7,7,7,7,7,7,7,7,7,7,7,7,7,7,7,7,7,7,7,7,7,7,7,7,7,7,7,7,7,7,7,7,7,7,7,7,7,7,8,8,8,8,8,8,8,8,8,8,8,8,8,8,8,8,8,8,8,8,8,8,8,8,8,8,8,8,8,8,8,8,8,8,8,8,8,8,8,8,8,8,8,8,8,8,8,8,8,8,8,8,8,8,8,8,8,8,8,8,8,8,8,8,8,8,8,8,8,8,8,8,8,8,8,8,8,8,8,8,8,8,8,8,8,8,8,8,8,8,8,8,8,8,8,8,8,8,8,8,8,8,8,8,8,8,8,8,8,8,8,8,8,8,8,8,8,8,8,8,8,8,8,8,8,8,8,8]⟩:=⟨_,rfl⟩
 rw[← hT] at hs
 (conv at hT=>rhs;cbv)
 rw[hT] at hs
 clear hT
 rcases g1 with ⟨a1,a2,rfl⟩|⟨a1,rfl,rfl⟩<;>rcases g2 with ⟨b1,b2,b3⟩|⟨b1,rfl,rfl⟩<;>rcases g3 with ⟨c1,c2,c3⟩|⟨c1,rfl,rfl⟩
 ·refine wpV_of (by ((conv=>lhs;cbv);(repeat((first|rewrite[a1]|rewrite[q1]|rewrite[a2]|rewrite[b1]|rewrite[q2]|rewrite[b2]|rewrite[b3]|rewrite[c1]|rewrite[q3]|rewrite[c2]|rewrite[c3]|rewrite[hv]|rewrite[hs]|rewrite[hL]|rewrite[hr]);(try(conv=>lhs;cbv))));(try(with_reducible rfl)))) ?_;(show finV _ _ _=some _;((conv=>lhs;cbv);(repeat((first|rewrite[b3]|rewrite[c3]|rewrite[hL]|rewrite[hr]);(try(conv=>lhs;cbv))));(try(with_reducible rfl)));(try rfl))
 ·refine wpV_of (by ((conv=>lhs;cbv);(repeat((first|rewrite[a1]|rewrite[q1]|rewrite[a2]|rewrite[b1]|rewrite[q2]|rewrite[b2]|rewrite[b3]|rewrite[c1]|rewrite[hv]|rewrite[hs]|rewrite[hL]|rewrite[hr]);(try(conv=>lhs;cbv))));(try(with_reducible rfl)))) ?_;(show finV _ _ _=some _;((conv=>lhs;cbv);(repeat((first|rewrite[b3]|rewrite[hL]|rewrite[hr]);(try(conv=>lhs;cbv))));(try(with_reducible rfl)));(try rfl))
 ·refine wpV_of (by ((conv=>lhs;cbv);(repeat((first|rewrite[a1]|rewrite[q1]|rewrite[a2]|rewrite[b1]|rewrite[c1]|rewrite[q3]|rewrite[c2]|rewrite[c3]|rewrite[hv]|rewrite[hs]|rewrite[hL]|rewrite[hr]);(try(conv=>lhs;cbv))));(try(with_reducible rfl)))) ?_;(show finV _ _ _=some _;((conv=>lhs;cbv);(repeat((first|rewrite[c3]|rewrite[hL]|rewrite[hr]);(try(conv=>lhs;cbv))));(try(with_reducible rfl)));(try rfl))
 ·refine wpV_of (by ((conv=>lhs;cbv);(repeat((first|rewrite[a1]|rewrite[q1]|rewrite[a2]|rewrite[b1]|rewrite[c1]|rewrite[hv]|rewrite[hs]|rewrite[hL]|rewrite[hr]);(try(conv=>lhs;cbv))));(try(with_reducible rfl)))) ?_;(show finV _ _ _=some _;((conv=>lhs;cbv);(repeat((first|rewrite[hL]|rewrite[hr]);(try(conv=>lhs;cbv))));(try(with_reducible rfl)));(try rfl))
 ·refine wpV_of (by ((conv=>lhs;cbv);(repeat((first|rewrite[a1]|rewrite[b1]|rewrite[q2]|rewrite[b2]|rewrite[b3]|rewrite[c1]|rewrite[q3]|rewrite[c2]|rewrite[c3]|rewrite[hv]|rewrite[hs]|rewrite[hL]|rewrite[hr]);(try(conv=>lhs;cbv))));(try(with_reducible rfl)))) ?_;(show finV _ _ _=some _;((conv=>lhs;cbv);(repeat((first|rewrite[b3]|rewrite[c3]|rewrite[hL]|rewrite[hr]);(try(conv=>lhs;cbv))));(try(with_reducible rfl)));(try rfl))
 ·refine wpV_of (by ((conv=>lhs;cbv);(repeat((first|rewrite[a1]|rewrite[b1]|rewrite[q2]|rewrite[b2]|rewrite[b3]|rewrite[c1]|rewrite[hv]|rewrite[hs]|rewrite[hL]|rewrite[hr]);(try(conv=>lhs;cbv))));(try(with_reducible rfl)))) ?_;(show finV _ _ _=some _;((conv=>lhs;cbv);(repeat((first|rewrite[b3]|rewrite[hL]|rewrite[hr]);(try(conv=>lhs;cbv))));(try(with_reducible rfl)));(try rfl))
 ·refine wpV_of (by ((conv=>lhs;cbv);(repeat((first|rewrite[a1]|rewrite[b1]|rewrite[c1]|rewrite[q3]|rewrite[c2]|rewrite[c3]|rewrite[hv]|rewrite[hs]|rewrite[hL]|rewrite[hr]);(try(conv=>lhs;cbv))));(try(with_reducible rfl)))) ?_;(show finV _ _ _=some _;((conv=>lhs;cbv);(repeat((first|rewrite[c3]|rewrite[hL]|rewrite[hr]);(try(conv=>lhs;cbv))));(try(with_reducible rfl)));(try rfl))
 ·refine wpV_of (by ((conv=>lhs;cbv);(repeat((first|rewrite[a1]|rewrite[b1]|rewrite[c1]|rewrite[hv]|rewrite[hs]|rewrite[hL]|rewrite[hr]);(try(conv=>lhs;cbv))));(try(with_reducible rfl)))) ?_;(show finV _ _ _=some _;((conv=>lhs;cbv);(repeat((first|rewrite[hL]|rewrite[hr]);(try(conv=>lhs;cbv))));(try(with_reducible rfl)));(try rfl))
theorem n100 {x:Nat} (h:x<2 ^ 64):∃ L:Nat,IsLen x L∧L≤64∧Pn 1 100 [u64 x] [] (i64 L) []:=by
 obtain⟨y,n1,hy,d1,u1⟩:∃ y n1:Nat,y<2 ^ 32∧((2 ^ 32≤x∧y=x / 2 ^ 32∧n1=32)∨(x<2 ^ 32∧y=x∧n1=0))∧∀ L,IsLen y L→IsLen x (n1+L):=by
  by_cases c:2 ^ 32≤x
  ·exact⟨x / 2 ^ 32,32,by omega,.inl ⟨c,rfl,rfl⟩,fun L hL=>by rw[Nat.add_comm];exact hL.up c⟩
  ·exact⟨x,0,by omega,.inr ⟨by omega,rfl,rfl⟩,fun L hL=>by rw[Nat.zero_add];exact hL⟩
 obtain⟨z,n2,hz,d2,u2⟩:∃ z n2:Nat,z<2 ^ 16∧((2 ^ 16≤y∧z=y / 2 ^ 16∧n2=n1+16)∨(y<2 ^ 16∧z=y∧n2=n1))∧∀ L,IsLen z L→IsLen x (n2+L):=by
  by_cases c:2 ^ 16≤y
  ·exact⟨y / 2 ^ 16,n1+16,by omega,.inl ⟨c,rfl,rfl⟩,fun L hL=>by rw[Nat.add_assoc,Nat.add_comm 16];exact u1 _ (hL.up c)⟩
  ·exact⟨y,n1,by omega,.inr ⟨by omega,rfl,rfl⟩,u1⟩
 obtain⟨v,n3,hv,d3,u3⟩:∃ v n3:Nat,v<2 ^ 8∧((2 ^ 8≤z∧v=z / 2 ^ 8∧n3=n2+8)∨(z<2 ^ 8∧v=z∧n3=n2))∧∀ L,IsLen v L→IsLen x (n3+L):=by
  by_cases c:2 ^ 8≤z
  ·exact⟨z / 2 ^ 8,n2+8,by omega,.inl ⟨c,rfl,rfl⟩,fun L hL=>by rw[Nat.add_assoc,Nat.add_comm 8];exact u2 _ (hL.up c)⟩
  ·exact⟨z,n2,by omega,.inr ⟨by omega,rfl,rfl⟩,u2⟩
 obtain⟨L,hL,hL8,hs⟩:=tab8 (A:=real) rfl (x:=v) (by omega)
 refine⟨n3+L,u3 L hL,by omega,playN 0 rfl rfl fun A call hA hcall=>?_⟩
 rw[← hA] at hs
 have hc:=ckU8 hA v
 rw[Nat.mod_eq_of_lt (by omega)] at hc
 refine w100 call _ x y z v n1 n2 n3 L _ ?_ ?_ ?_ ⟨by rw[hA];rfl,by rw[hA];rfl,by rw[hA];rfl⟩ hc hs (ckI64 hA (by omega)) (addR hA (by omega) (by omega))
 ·rcases d1 with ⟨c,rfl,rfl⟩|⟨c,rfl,rfl⟩
  ·exact .inl ⟨geT hA (by omega),shrN hA (j:=32) rfl (by decide),rfl⟩
  ·exact .inr ⟨geF hA (by omega),rfl,rfl⟩
 ·rcases d2 with ⟨c,rfl,rfl⟩|⟨c,rfl,rfl⟩
  ·exact .inl ⟨geT hA (by omega),shrN hA (j:=16) rfl (by decide),addR hA (by omega) (by omega)⟩
  ·exact .inr ⟨geF hA (by omega),rfl,rfl⟩
 ·rcases d3 with ⟨c,rfl,rfl⟩|⟨c,rfl,rfl⟩
  ·exact .inl ⟨geT hA (by omega),shrN hA (j:=8) rfl (by decide),addR hA (by omega) (by omega)⟩
  ·exact .inr ⟨geF hA (by omega),rfl,rfl⟩
theorem n58 {x:Nat} (h:x<2 ^ 64):Pn 2 58 [u64 x] [] (i64 (nd x)) []:=by
 obtain⟨L,hL,hL8,hP⟩:=n100 h
 have hn:=isLen_nd hL h
 refine playN 1 rfl rfl fun A call hA hcall=>?_
 have k1:=hP 1 (by omega)
 rw[← hcall] at k1
 by_cases c:L > 56
 ·rw[if_pos c] at hn
  rw[← hn]
  have g:=gtT hA (a:=(L:Int)) (b:=56) (by omega)
  generalize (L:Int)=Z at *
  generalize (x:Int)=X at *
  refine wpV_of (by ((conv=>lhs;cbv);(repeat((first|rewrite[k1]|rewrite[g]);(try(conv=>lhs;cbv))));(try(with_reducible rfl)))) ?_
  (show finV _ _ _=some _;((conv=>lhs;cbv);(try(with_reducible rfl)));(try rfl))
 ·rw[if_neg c] at hn
  rw[← hn]
  have g:=gtF hA (a:=(L:Int)) (b:=56) (by omega)
  have s:=subR hA (a:=(L:Int)) (b:=1) rfl (by omega)
  have m:=mxR hA (a:=(L:Int) - 1) (b:=0) (c:=((L - 1:Nat):Int)) (by omega)
  have nz:=nzR hA (a:=7) (by omega)
  have qq:=quoR hA (a:=((L - 1:Nat):Int)) (b:=7) (c:=(((L - 1) / 7:Nat):Int)) (by omega) (by omega) (by omega)
  generalize (((L - 1) / 7:Nat):Int)=Q at *
  generalize ((L - 1:Nat):Int)=M at *
  generalize (L:Int) - 1=S at *
  generalize (L:Int)=Z at *
  generalize (x:Int)=X at *
  refine wpV_of (by ((conv=>lhs;cbv);(repeat((first|rewrite[k1]|rewrite[g]|rewrite[s]|rewrite[m]|rewrite[nz]|rewrite[qq]);(try(conv=>lhs;cbv))));(try(with_reducible rfl)))) ?_
  (show finV _ _ _=some _;((conv=>lhs;cbv);(repeat((first|rewrite[s]|rewrite[m]|rewrite[nz]|rewrite[qq]);(try(conv=>lhs;cbv))));(try(with_reducible rfl)));(try rfl))
def by8 (l:List Nat):List (List IV):=l.map fun (b:Nat)=>[.int .u8 (b:Int)]
theorem by8_len (l:List Nat):(by8 l).length=l.length:=by simp[by8]
/-- The first bytes of a number, so many. -/
def pre (x n:Nat):List Nat:=(enc x).take n
theorem pre_len {x n:Nat} (h:n≤nd x+1):(pre x n).length=n:=by simp[pre,enc_len];omega
theorem pre_all (x:Nat):pre x (nd x+1)=enc x:=List.take_of_length_le (by rw[enc_len];omega)
theorem pre_one (x:Nat):pre x 1=[fst8 x]:=by simp[pre,enc]
theorem pre_next {x t:Nat} (h:t<nd x):pre x (1+t+1)=pre x (1+t)++[x / 256 ^ (nd x - 1 - t) % 256]:=by
 have h1:1+t<(enc x).length:=by rw[enc_len];omega
 have h2:(enc x)[1+t]=x / 256 ^ (nd x - 1 - t) % 256:=by
  have:=tl_get x (nd x) t (by rw[tl_len];omega)
  rw[← this]
  simp only[enc,show 1+t=t+1 by omega,List.getElem_cons_succ]
 unfold pre
 rw[List.take_succ_eq_append_getElem h1,h2]
theorem app1 {A:Ar} (hA:A=real) {es:List (List IV)} (y:List IV) (h:es.length+1≤211106232532992):A .app 1 es [y]=some (false,es++[y]):=by
 rw[hA,real_app]
 unfold rApp room
 rw[if_neg (by simp),if_pos (by simpa using h)]
theorem cut3 {A:Ar} (hA:A=real) {es:List (List IV)} {n:Int} (hn:n=es.length):A .sub3 es none (some n) (some n)=some es:=by
 rw[hA,real_sub3,hn]
 unfold rSub3 rSub rCut rBound
 simp
/-- A reader: how many bytes it has left from where on, or its error; f: is its memory frozen? -/
inductive RS where
 | ok (f:Bool) (o n:Nat)
 | er (f:Bool) (e:Int)
def RS.fits (L:Nat):RS→Prop
 | .ok _ o n=>o+n=L
 | .er _ e=>e≠0
def RS.fail (e:Int):RS→RS
 | .ok f _ _=>.er f e
 | s=>s
def RS.isOk:RS→Bool
 | .ok _ _ _=>true
 | .er _ _=>false
/-- w: is its memory at hand (also behind an error)? -/
def rdS (w:Bool) (es:List (List IV)):RS→List Blk
 | .ok f o n=>[.var false [.slo 1 o n,.iv (.int .i64 0),.iv (.bool true)],.arr f false 1 es]
 | .er f e=>.var false [.iv (.sl true 0 []),.iv (.int .i64 e),.iv (.bool true)]::(bif w then [.arr f false 1 es] else [])
/-- The reference's. -/
def rdR (w:Bool) (es:List (List IV)):RS→List Blk
 | .ok _ o n=>[.var false [.slo 1 o n,.iv (.int .i64 0)],.arr false false 1 es]
 | .er _ e=>.var false [.iv (.sl true 0 []),.iv (.int .i64 e)]::(bif w then [.arr false false 1 es] else [])
abbrev rp:FV:=.one (.ptr 0 0)
def RS.err:RS→Int
 | .ok _ _ _=>0
 | .er _ e=>e
def RS.left:RS→Nat
 | .ok _ _ n=>n
 | .er _ _=>0
/-- So many ones stand ahead in a byte. -/
def lo (b:Nat):Nat:=if b<128 then 0 else if b<192 then 1 else if b<224 then 2 else if b<240 then 3 else if b<248 then 4 else if b<252 then 5 else if b<254 then 6 else if b<255 then 7 else 8
theorem lo_le (b:Nat):lo b≤8:=by unfold lo;repeat' split<;>try omega
def hd8 (b:Nat):Nat:=if lo b<8 then b % 2 ^ (7 - lo b) else 0
def acc (x:Nat):List Nat→Nat
 | []=>x
 | c::l=>acc (x*256+c) l
theorem acc_app (x:Nat) (l m:List Nat):acc x (l++m)=acc (acc x l) m:=by
 induction l generalizing x with
 | nil=>rfl
 | cons c l ih=>simp only[List.cons_append,acc,ih]
theorem acc_lt {x p:Nat}:∀ {l:List Nat},x<p→(∀ c,c∈l→c<256)→acc x l<p*256 ^ l.length
 | [],h,_=>by simpa [acc] using h
 | c::l,h,hc=>by
  have h1:=hc c (by simp)
  have:=acc_lt (x:=x*256+c) (p:=p*256) (l:=l) (by omega) (fun d hd=>hc d (by simp[hd]))
  simp only[acc,List.length_cons,Nat.pow_succ]
  rw[Nat.mul_comm (256 ^ l.length) 256,← Nat.mul_assoc]
  exact this
/-- The number that begins at o. -/
def rawV (bs:List Nat) (o:Nat):Nat:=acc (hd8 (bs.getD o 0)) ((bs.drop (o+1)).take (lo (bs.getD o 0)))
def rawS (bs:List Nat):RS→Option Nat × RS
 | .er f e=>(none,.er f e)
 | .ok f o n =>
  if n=0 then (none,.er f 4) else
  if n<lo (bs.getD o 0)+1 then (none,.er true 4) else
  if nd (rawV bs o)=lo (bs.getD o 0) then (some (rawV bs o),.ok true (o+1+lo (bs.getD o 0)) (n - 1 - lo (bs.getD o 0))) else (none,.er true 3)
def numS (bs:List Nat) (most:Int) (s:RS):Nat × RS :=
 match rawS bs s with
 | (none,s')=>(0,s')
 | (some x,s')=>if 2 ^ 63≤x∨most<(x:Int) then (0,s'.fail 5) else (x,s')
theorem rawS_fits {bs:List Nat} {s:RS} (h:s.fits bs.length):(rawS bs s).2.fits bs.length:=by
 cases s with
 | er f e=>exact h
 | ok f o n =>
  simp only[rawS]
  have h:o+n=bs.length:=h
  repeat' split
  all_goals simp only[RS.fits]
  all_goals first|omega|decide
theorem fail_fits {L:Nat} {s:RS} {e:Int} (he:e≠0) (h:s.fits L):(s.fail e).fits L:=by
 cases s with
 | er f e=>exact h
 | ok f o n=>exact he
theorem numS_fits {bs:List Nat} {most:Int} {s:RS} (h:s.fits bs.length):(numS bs most s).2.fits bs.length:=by
 have:=rawS_fits h
 unfold numS
 split
 ·rename_i heq;rw[heq] at this;exact this
 ·rename_i heq;rw[heq] at this
  split
  ·exact fail_fits (by decide) this
  ·exact this
theorem numS_lt (bs:List Nat) (most:Int) (s:RS):(numS bs most s).1<2 ^ 63∧((numS bs most s).1=0∨((numS bs most s).1:Int)≤most):=by
 unfold numS
 split
 ·exact⟨(by decide:(0:Nat)<2 ^ 63),.inl rfl⟩
 ·split
  ·exact⟨(by decide:(0:Nat)<2 ^ 63),.inl rfl⟩
  ·rename_i h;exact⟨by omega,.inr (by omega)⟩
theorem lo_len {b L:Nat} (hb:b<256) (h:IsLen (255 - b) L) (hL:L≤8):8 - L=lo b:=by
 have:∀ b:Fin 256,∀ L:Fin 9,(((255 - b.val)=0∧L.val=0)∨(0<L.val∧2 ^ (L.val - 1)≤255 - b.val∧255 - b.val<2 ^ L.val))→8 - L.val=lo b.val:=by decide +kernel
 exact this ⟨b,hb⟩ ⟨L,by omega⟩ h
theorem hd8_lt {b:Nat} (hb:b<256):hd8 b<2 ^ (7 - lo b):=by
 unfold hd8
 split
 ·exact Nat.mod_lt _ (Nat.two_pow_pos _)
 ·exact Nat.two_pow_pos _
theorem and255 {A:Ar} (hA:A=real) {b:Nat} (hb:b<256) (h:lo b<8):A .ar .and .u8 (b:Int) ((255 / 2 ^ lo b:Nat):Int)=(hd8 b:Int):=by
 rw[hA]
 have:∀ b:Fin 256,lo b.val<8→real .ar .and .u8 ((b.val:Nat):Int) ((255 / 2 ^ lo b.val:Nat):Int)=(hd8 b.val:Int):=by decide +kernel
 exact this ⟨b,hb⟩ h
/-- The number as far as i more bytes are read. -/
def rawP (bs:List Nat) (o i:Nat):Nat:=acc (hd8 (bs.getD o 0)) ((bs.drop (o+1)).take i)
theorem rawP_0 (bs:List Nat) (o:Nat):rawP bs o 0=hd8 (bs.getD o 0):=by simp[rawP,acc]
theorem rawP_succ {bs:List Nat} {o i:Nat} (h:o+1+i<bs.length):rawP bs o (i+1)=rawP bs o i*256+bs.getD (o+1+i) 0:=by
 have hl:i<(bs.drop (o+1)).length:=by rw[List.length_drop];omega
 unfold rawP
 rw[List.take_succ_eq_append_getElem hl,acc_app,List.getElem_drop,show bs.getD (o+1+i) 0=bs[o+1+i] by rw[List.getD_eq_getElem?_getD,List.getElem?_eq_getElem h];rfl]
 rfl
theorem getD_mem {bs:List Nat} (h:∀ b,b∈bs→b<256) (i:Nat):bs.getD i 0<256:=by
 by_cases hi:i<bs.length
 ·rw[List.getD_eq_getElem?_getD,List.getElem?_eq_getElem hi];exact h _ (List.getElem_mem hi)
 ·rw[List.getD_eq_getElem?_getD,List.getElem?_eq_none (by omega)];exact (by decide:(0:Nat)<256)
theorem rawP_lt {bs:List Nat} (hb:∀ b,b∈bs→b<256) (o:Nat) {i:Nat} (hi:i<lo (bs.getD o 0)):rawP bs o i*256+255<2 ^ 64:=by
 have h1:=hd8_lt (getD_mem hb o)
 have h8:=lo_le (bs.getD o 0)
 have hl:((bs.drop (o+1)).take i).length≤i:=by rw[List.length_take];omega
 have h2:=acc_lt (l:=(bs.drop (o+1)).take i) h1 (fun c hc=>hb c (List.mem_of_mem_drop (List.mem_of_mem_take hc)))
 have h3:rawP bs o i<2 ^ (7 - lo (bs.getD o 0))*256 ^ i:=Nat.lt_of_lt_of_le h2 (Nat.mul_le_mul_left _ (Nat.pow_le_pow_right (by omega) hl))
 have h4:2 ^ (7 - lo (bs.getD o 0))*256 ^ i≤2 ^ 56:=by
  rw[show (256:Nat)=2 ^ 8 from rfl,← Nat.pow_mul,← Nat.pow_add]
  refine Nat.pow_le_pow_right (by omega) ?_
  omega
 omega
theorem rawV_lt {bs:List Nat} (hb:∀ b,b∈bs→b<256) (o:Nat):rawV bs o<2 ^ 64:=by
 have h1:=hd8_lt (getD_mem hb o)
 have h8:=lo_le (bs.getD o 0)
 have hl:((bs.drop (o+1)).take (lo (bs.getD o 0))).length≤lo (bs.getD o 0):=by rw[List.length_take];omega
 have h2:=acc_lt (l:=(bs.drop (o+1)).take (lo (bs.getD o 0))) h1 (fun c hc=>hb c (List.mem_of_mem_drop (List.mem_of_mem_take hc)))
 have h3:rawV bs o<2 ^ (7 - lo (bs.getD o 0))*256 ^ (lo (bs.getD o 0)):=Nat.lt_of_lt_of_le h2 (Nat.mul_le_mul_left _ (Nat.pow_le_pow_right (by omega) hl))
 have h4:2 ^ (7 - lo (bs.getD o 0))*256 ^ (lo (bs.getD o 0))≤2 ^ 64:=by
  rw[show (256:Nat)=2 ^ 8 from rfl,← Nat.pow_mul,← Nat.pow_add]
  refine Nat.pow_le_pow_right (by omega) ?_
  omega
 omega
theorem by8E {nt:Nat→Int} (hn:∀ n,nt n=(n:Int)) (l:List Nat):l.map (fun b=>[IV.int .u8 (nt b)])=by8 l:=by
 unfold by8;exact List.map_congr_left fun b _=>by rw[hn]
theorem n87 (es:List (List IV)) (s:RS) {e:Int} (he:e≠0) (hs:s.fits es.length):Pn 1 87 [rp,i64 e] (rdS s.isOk es s) (.tup []) (rdS s.isOk es (s.fail e)):=by
 refine playN 0 rfl rfl fun A call hA hcall=>?_
 obtain⟨pl,mi,ml,nt,tn,ad,sb,K⟩:=kit hA
 obtain⟨E,ix,sn,ll,cc,sg,B⟩:=lkit hA K (0:Nat) (fun b=>[.int .u8 (nt b)]) 1
 cases s with
 | ok f o n =>
  dsimp only[RS.isOk,cond_true,cond_false,rdS,RS.fail]
  refine wpV_ofH (by ((try(conv=>lhs;cbv));(repeat((first|(rewrite[K.eqF];rotate_left;focus((try simp only[K.df,B.df,true_and,and_true])<;>omega))|(rewrite[K.neF];rotate_left;focus((try simp only[K.df,B.df,true_and,and_true])<;>omega)));(try(conv=>lhs;cbv))));(exact rfl))) ?_
  (show finV _ _ _=some _;((try(conv=>lhs;cbv));(try(with_reducible rfl)));(try rfl))
 | er f x =>
  have hx:x≠0:=hs
  dsimp only[RS.isOk,cond_true,cond_false,rdS,RS.fail]
  refine wpV_ofH (by ((try(conv=>lhs;cbv));(repeat((first|(rewrite[K.neT];rotate_left;focus((try simp only[K.df,B.df,true_and,and_true])<;>omega)));(try(conv=>lhs;cbv))));(exact rfl))) ?_
  (show finV _ _ _=some _;((try(conv=>lhs;cbv));(try(with_reducible rfl)));(try rfl))
theorem n89 (es:List (List IV)) (s:RS):Pn 1 89 [rp] (rdS s.isOk es s) (i64 s.err) (rdS s.isOk es s):=by
 refine playN 0 rfl rfl fun A call hA hcall=>?_
 cases s with
 | ok f o n=>dsimp only[RS.isOk,cond_true,cond_false,rdS,RS.err];refine wpV_of (by ((conv=>lhs;cbv);(try(with_reducible rfl)))) ?_;(show finV _ _ _=some _;((conv=>lhs;cbv);(try(with_reducible rfl)));(try rfl))
 | er f x=>dsimp only[RS.isOk,cond_true,cond_false,rdS,RS.err];refine wpV_of (by ((conv=>lhs;cbv);(try(with_reducible rfl)))) ?_;(show finV _ _ _=some _;((conv=>lhs;cbv);(try(with_reducible rfl)));(try rfl))
theorem n93 (es:List (List IV)) (s:RS):Pn 1 93 [rp] (rdS s.isOk es s) (i64 s.left) (rdS s.isOk es s):=by
 refine playN 0 rfl rfl fun A call hA hcall=>?_
 obtain⟨pl,mi,ml,nt,tn,ad,sb,K⟩:=kit hA
 obtain⟨E,ix,sn,ll,cc,sg,B⟩:=lkit hA K (0:Nat) (fun b=>[.int .u8 (nt b)]) 1
 cases s with
 | ok f o n =>
  dsimp only[RS.isOk,cond_true,cond_false,rdS,RS.left]
  rw[← K.nt_ n]
  refine wpV_ofH (by ((try(conv=>lhs;cbv));(repeat((first|(rewrite[K.ofN]));(try(conv=>lhs;cbv))));(exact rfl))) ?_
  (show finV _ _ _=some _;((try(conv=>lhs;cbv));(try(with_reducible rfl)));(try rfl))
 | er f x =>
  have l0:A .len []=0:=by rw[hA];rfl
  dsimp only[RS.isOk,cond_true,cond_false,rdS,RS.left]
  refine wpV_ofH (by ((try(conv=>lhs;cbv));(repeat((first|(rewrite[l0]));(try(conv=>lhs;cbv))));(exact rfl))) ?_
  (show finV _ _ _=some _;((try(conv=>lhs;cbv));(try(with_reducible rfl)));(try rfl))
/-- n bytes are taken. -/
def takeS (j:Nat):RS→Option Nat × RS
 | .er f e=>(none,.er f e)
 | .ok f o n=>if n<j then (none,.er f 4) else (some o,.ok true (o+j) (n - j))
def takeF (es:List (List IV)) (j:Nat):Option Nat→FV
 | none=>.tup [(false,[.iv (.sl true 0 [])]),(false,[.iv (.bool false)])]
 | some o=>.tup [(false,[.iv (.sl true 1 (rSeg es o j))]),(false,[.iv (.bool true)])]
theorem n112 (es:List (List IV)) (s:RS) (j:Nat) (hs:s.fits es.length):Pn 2 112 [rp,i64 j] (rdS s.isOk es s) (takeF es j (takeS j s).1) (rdS s.isOk es (takeS j s).2):=by
 refine playN 1 rfl rfl fun A call hA hcall=>?_
 obtain⟨pl,mi,ml,nt,tn,ad,sb,K⟩:=kit hA
 obtain⟨E,ix,sn,ll,cc,sg,B⟩:=lkit hA K (0:Nat) (fun b=>[.int .u8 (nt b)]) 1
 have sge:∀ o j,A .seg es o j=rSeg es o j:=fun o j=>by rw[hA];rfl
 cases s with
 | ok f o n =>
  have hs:o+n=es.length:=hs
  have k1:=n87 es (.ok f o n) (e:=4) (by decide) hs 1 (by omega)
  rw[← hcall] at k1
  dsimp only[RS.isOk,cond_true,cond_false,rdS,RS.fail] at k1
  obtain⟨J,hJ⟩:∃ J:Int,J=j:=⟨_,rfl⟩
  by_cases h:n<j
  ·dsimp only[RS.isOk,cond_true,cond_false,rdS,takeS]
   rw[if_pos h,← hJ]
   dsimp only[takeF,rdS]
   refine wpV_ofH (by ((try(conv=>lhs;cbv));(repeat((first|(rewrite[k1])|(rewrite[K.ofN])|(rewrite[K.gtT];rotate_left;focus((try simp only[K.df,B.df,true_and,and_true])<;>omega))|(rewrite[K.neF];rotate_left;focus((try simp only[K.df,B.df,true_and,and_true])<;>omega)));(try(conv=>lhs;cbv))));(exact rfl))) ?_
   (show finV _ _ _=some _;((try(conv=>lhs;cbv));(try(with_reducible rfl)));(try rfl))
  ·dsimp only[RS.isOk,cond_true,cond_false,rdS,takeS]
   rw[if_neg h,← hJ]
   dsimp only[takeF,rdS]
   have e1:o+j=ad o (tn J):=by rw[K.ad_,K.tn_];omega
   have e2:n - j=sb n (tn J):=by rw[K.sb_,K.tn_];omega
   have e3:rSeg es o j=A .seg es o (tn J):=by rw[hA,K.tn_,hJ];rfl
   rw[e1,e2,e3]
   refine wpV_ofH (by ((try(conv=>lhs;cbv));(repeat((first|(rewrite[K.ofN])|(rewrite[K.cutLo];rotate_left;focus((try simp only[K.df,B.df,true_and,and_true])<;>omega))|(rewrite[K.cut3];rotate_left;focus((try simp only[K.df,B.df,true_and,and_true])<;>omega))|(rewrite[K.gtF];rotate_left;focus((try simp only[K.df,B.df,true_and,and_true])<;>omega))|(rewrite[K.neF];rotate_left;focus((try simp only[K.df,B.df,true_and,and_true])<;>omega)));(try(conv=>lhs;cbv))));(exact rfl))) ?_
   (show finV _ _ _=some _;((try(conv=>lhs;cbv));(try(with_reducible rfl)));(try rfl))
 | er f x =>
  have hx:x≠0:=hs
  dsimp only[RS.isOk,cond_true,cond_false,rdS,takeS,takeF]
  refine wpV_ofH (by ((try(conv=>lhs;cbv));(repeat((first|(rewrite[K.neT];rotate_left;focus((try simp only[K.df,B.df,true_and,and_true])<;>omega)));(try(conv=>lhs;cbv))));(exact rfl))) ?_
  (show finV _ _ _=some _;((try(conv=>lhs;cbv));(try(with_reducible rfl)));(try rfl))
end Go.Proofs.Ytlljgefgbglmbaa
