/- A small interpreter of Go code over plain values, and the proof that whatever it says of a function of a program, the program does: in any order that a region leaves open, at any capacity. Conditions: none beyond those of each theorem. -/
import GoSem.Core.Code
import Derived.Calls
import Derived.Laws.Cells
import Derived.Laws.IdiomCopy
import Derived.Laws.BytesArg
import Derived.Lib.Strings
/- The V-machine: a small interpreter of Go's code over plain values. No claim is made here; VB.. prove what it is worth. -/
namespace GoV
open Go (IntKind BinOp UnOp)
inductive IV where
  | int (k : IntKind) (n : Int)
  | bool (b : Bool)
  | str (s : ByteArray)
  | sl (full : Bool) (esz : Nat) (es : List (List IV))
  | arr (n : Nat) (xs : List IV)
  | nilp
  | fn (f : Nat)
  | niln
inductive LV where
  | iv (x : IV)
  | ptr (l o : Nat)
  | pti (l o : Nat) (i : Int)
  | cref (cs : List IV) (o : Nat)
  | slo (l o n : Nat)
  | apt (l i j : Nat)
  | fnc (f : Nat) (caps : List (Nat × Nat))
  | fresh (esz : Nat)
  | undef
inductive FV where
  | one (x : LV)
  | agg (cs : List LV)
  | tup (vs : List (Bool × List LV))
inductive Blk where
  | var (frz : Bool) (cs : List LV)
  | arr (frz grown : Bool) (esz : Nat) (es : List (List IV))
inductive Ek where
  | bool | ptr | func
inductive Lf where
  | int | bool | str
inductive Ix where
  | ar | cmp | nz | nn | un | mx | mi | ck | scmp | scat | slen | sidx | sext | s2b | b2s | len | ln | ofN | get | sub | app | apo | seg | over | set | getN | min_ | sub3 | zeros | bq | eqN | addN | at_ | offs | cuts | getc | setc | ext | chunk | rep | eqv | isE
abbrev Ix.T : Ix → Type
  | .ar => BinOp → IntKind → Int → Int → Int
  | .cmp => BinOp → Int → Int → Bool
  | .nz => Int → Bool
  | .nn => Int → Bool
  | .un => UnOp → IntKind → Int → Int
  | .mx => Int → Int → Int
  | .mi => Int → Int → Int
  | .ck => IntKind → Int → Int
  | .scmp => BinOp → ByteArray → ByteArray → Bool
  | .scat => ByteArray → ByteArray → Option ByteArray
  | .slen => ByteArray → Int
  | .sidx => ByteArray → Int → Option Int
  | .sext => ByteArray → Option Int → Option Int → Option ByteArray
  | .s2b => ByteArray → List (List IV)
  | .b2s => List (List IV) → Option ByteArray
  | .len => List (List IV) → Int
  | .ln => List (List IV) → Nat
  | .ofN => Nat → Int
  | .get => List (List IV) → Int → Option (List IV)
  | .sub => List (List IV) → Option Int → Option Int → Option (List (List IV))
  | .app => Nat → List (List IV) → List (List IV) → Option (Bool × List (List IV))
  | .apo => Nat → Nat → Nat → List (List IV) → List (List IV) → Option (Bool × List (List IV))
  | .seg => List (List IV) → Nat → Nat → List (List IV)
  | .over => List (List IV) → Nat → List (List IV) → List (List IV)
  | .set => List (List IV) → Nat → Nat → List IV → Option (List (List IV))
  | .getN => List (List IV) → Nat → Option (List IV)
  | .min_ => Nat → Nat → Nat
  | .sub3 => List (List IV) → Option Int → Option Int → Option Int → Option (List (List IV))
  | .zeros => List IV → Nat → List (List IV)
  | .bq => Bool → Bool → Bool
  | .eqN => Nat → Nat → Bool
  | .addN => Nat → Nat → Nat
  | .at_ => Int → Nat → Option Nat
  | .offs => Nat → Nat → Nat → Int → Option Nat
  | .cuts => Nat → Nat → Nat → Option Int → Option Int → Option Int → Option (Nat × Nat)
  | .getc => List IV → Int → Option IV
  | .setc => List IV → Int → IV → Option (List IV)
  | .ext => List IV → Nat → Nat → List IV
  | .chunk => Nat → List IV → List (List IV)
  | .rep => List IV → Int → Option (List (List IV))
  | .eqv => List Lf → List IV → List IV → Option Bool
  | .isE => List (List IV) → Bool
abbrev Ar := (i : Ix) → i.T
inductive Od where
  | t (n : Nat)
  | k (v : FV)
inductive VB where
  | len | lenS | max | min
  | append (esz bytes : Nat)
  | copy (esz : Nat)
  | clear (z : List IV)
inductive VOp where
  | mov (own : Option Nat) (x : Od)
  | pick (c a b : Od)
  | new (z : List LV)
  | box (x : Od)
  | build (z : List LV) (ps : List (Nat × Nat × Od))
  | mks (own : Bool) (esz : Nat) (ps : List Od)
  | make (z : List IV) (n c : Od)
  | load (ag : Bool) (sz : Nat) (a : Od)
  | store (sz : Nat) (a x : Od)
  | nilc (x : Od)
  | bin (op : BinOp) (x y : Od)
  | eqa (op : BinOp) (ks : List Lf) (x y : Od)
  | eqs (op : BinOp) (k : Ek) (x y : Od)
  | un (op : UnOp) (x : Od)
  | conv (k : IntKind) (x : Od)
  | s2b (x : Od)
  | b2s (x : Od)
  | mkf (f : Nat) (caps : List Od)
  | slS (esz : Nat) (x : Od) (lo hi mx : Option Od)
  | slU (esz : Nat) (x : Od) (lo hi mx : Option Od)
  | slT (x : Od) (lo hi : Option Od)
  | slA (esz n : Nat) (x : Od)
  | fad (off : Nat) (x : Od)
  | fld (ag : Bool) (off sz : Nat) (x : Od)
  | ixS (esz : Nat) (x i : Od)
  | ixA (n esz : Nat) (x i : Od)
  | ixV (n : Nat) (x i : Od)
  | ixT (x i : Od)
  | ext (i : Nat) (x : Od)
  | call (f : Nat) (as : List (Bool × Od))
  | callv (f : Od) (as : List (Bool × Od))
  | blt (b : VB) (as : List Od)
  | bad
structure VO where
  dst : Option Nat
  op : VOp
  after : List Nat
  guard : Option (Nat × Bool)
inductive VCode where
  | skip
  | region (draw : Bool) (ops : List VO)
  | seq (a b : VCode)
  | cond (c : Od) (a b : VCode)
  | block (id : Nat) (c : VCode)
  | loop (norm : Bool) (keep : List Nat) (c : VCode)
  | exit (id : Nat)
  | ret
  | bad
inductive VRes where
  | t (n : Nat)
  | c (n : Nat) (ag : Bool) (sz : Nat)
structure VFn where
  np : Nat
  nt : Nat
  res : List VRes
  body : VCode
structure St where
  k : Nat
  env : List FV
  hp : List Blk
abbrev CallT := Nat → List FV → List Blk → Option (FV × List Blk)
section lists
def lkE : List FV → Nat → FV
  | [], _ => .one .undef
  | a :: _, 0 => a
  | _ :: l, n + 1 => lkE l n
def stE : List FV → Nat → FV → List FV
  | [], _, _ => []
  | _ :: l, 0, v => v :: l
  | a :: l, n + 1, v => a :: stE l n v
def lkH : List Blk → Nat → Option Blk
  | [], _ => none
  | a :: _, 0 => some a
  | _ :: l, n + 1 => lkH l n
def hasN : List Nat → Nat → Bool
  | [], _ => false
  | a :: l, n => Nat.beq a n || hasN l n
end lists
def LV.width : LV → Nat
  | .iv (.arr n _) => n
  | _ => 1
def widths : List LV → Nat
  | [] => 0
  | x :: l => Nat.add x.width (widths l)
variable (A : Ar)
def cut : List LV → Nat → Nat → Option (List LV)
  | _, _, 0 => some []
  | [], _, _ + 1 => none
  | .iv (.arr n xs) :: l, off, sz + 1 =>
    bif Nat.ble n off then cut l (Nat.sub off n) (sz + 1)
    else bif Nat.beq off 0 && Nat.ble n (sz + 1) then (cut l 0 (Nat.sub (sz + 1) n)).bind fun r => some (.iv (.arr n xs) :: r)
    else bif Nat.ble (Nat.add off (sz + 1)) n then some [.iv (.arr (sz + 1) (A .ext xs off (sz + 1)))]
    else none
  | x :: l, 0, sz + 1 => (cut l 0 sz).bind fun r => some (x :: r)
  | _ :: l, off + 1, sz + 1 => cut l off (sz + 1)
def cell : List LV → Nat → Option LV
  | [], _ => none
  | .iv (.arr n xs) :: l, off => bif Nat.ble n off then cell l (Nat.sub off n) else (A .getc xs (A .ofN off)).bind fun x => some (.iv x)
  | x :: _, 0 => some x
  | _ :: l, off + 1 => cell l off
def rowAt : List LV → Nat → Option (Nat × List IV)
  | [], _ => none
  | .iv (.arr n xs) :: l, off => bif Nat.beq off 0 then some (n, xs) else bif Nat.ble n off then rowAt l (Nat.sub off n) else none
  | _ :: _, 0 => none
  | _ :: l, off + 1 => rowAt l off
def rowSet : List LV → Nat → List IV → Option (List LV)
  | [], _, _ => none
  | .iv (.arr n xs) :: l, off, ys => bif Nat.beq off 0 then some (.iv (.arr n ys) :: l) else bif Nat.ble n off then (rowSet l (Nat.sub off n) ys).bind fun r => some (.iv (.arr n xs) :: r) else none
  | _ :: _, 0, _ => none
  | x :: l, off + 1, ys => (rowSet l off ys).bind fun r => some (x :: r)
def lay : List LV → Nat → List LV → Option (List LV)
  | l, 0, [] => some l
  | [], _, _ => none
  | x :: l, 0, y :: ys => bif Nat.beq x.width y.width then (lay l 0 ys).bind fun r => some (y :: r) else none
  | x :: l, off + 1, ys => bif Nat.ble x.width (off + 1) then (lay l (Nat.sub (off + 1) x.width) ys).bind fun r => some (x :: r) else none
def solid : List LV → Bool
  | [] => true
  | .undef :: _ => false
  | .fresh _ :: _ => false
  | _ :: l => solid l
def cellsOf : FV → Option (List LV)
  | .one x => bif solid [x] then some [x] else none
  | .agg cs => bif solid cs then some cs else none
  | .tup _ => none
def toIV : List LV → Option (List IV)
  | [] => some []
  | .iv x :: l => (toIV l).bind fun r => some (x :: r)
  | _ :: _ => none
def rd (e : List FV) : Od → FV
  | .t n => lkE e n
  | .k v => v
def isE : List (List IV) → Bool
  | [] => true
  | _ :: _ => false
abbrev Hp := Nat → Option Blk
def frzL (H : Hp) : List LV → Option (List LV × List Nat)
  | [] => some ([], [])
  | .slo l o n :: r =>
    match H l with
    | some (.arr _ _ z es) =>
      (frzL H r).bind fun (r', bs) => some (.iv (.sl (A .isE es) z (A .seg es o n)) :: r', l :: bs)
    | _ => none
  | x :: r => (frzL H r).bind fun (r', bs) => some (x :: r', bs)
def frzF (H : Hp) : FV → Option (FV × List Nat)
  | .one x => match frzL A H [x] with | some ([y], bs) => some (.one y, bs) | _ => none
  | .agg cs => (frzL A H cs).bind fun (cs', bs) => some (.agg cs', bs)
  | .tup _ => none
def bumps (H : Hp) : List Nat → List (Nat × Blk)
  | [] => []
  | l :: r =>
    match H l with
    | some (.arr _ g z es) => (l, .arr true g z es) :: bumps H r
    | _ => bumps H r
def capIn (l : Nat) : List (Nat × Nat) → Bool
  | [] => false
  | (l', _) :: r => Nat.beq l l' || capIn l r
def killL (l : Nat) : LV → LV
  | .slo l' o n => bif Nat.beq l l' then .undef else .slo l' o n
  | .apt l' i j => bif Nat.beq l l' then .undef else .apt l' i j
  | .ptr l' o => bif Nat.beq l l' then .undef else .ptr l' o
  | .pti l' o i => bif Nat.beq l l' then .undef else .pti l' o i
  | .fnc f caps => bif capIn l caps then .undef else .fnc f caps
  | x => x
def killLs (l : Nat) : List LV → List LV
  | [] => []
  | x :: r => killL l x :: killLs l r
def killT (l : Nat) : List (Bool × List LV) → List (Bool × List LV)
  | [] => []
  | (b, cs) :: r => (b, killLs l cs) :: killT l r
def killF (l : Nat) : FV → FV
  | .one x => .one (killL l x)
  | .agg cs => .agg (killLs l cs)
  | .tup vs => .tup (killT l vs)
def killE (l : Nat) : List FV → List FV
  | [] => []
  | x :: r => killF l x :: killE l r
def killB (l : Nat) : Blk → Blk
  | .var f cs => .var f (killLs l cs)
  | b => b
def killH (l : Nat) : List Blk → List Blk
  | [] => []
  | b :: r => killB l b :: killH l r
def locL : LV → List Nat
  | .ptr l _ | .pti l _ _ | .slo l _ _ | .apt l _ _ => [l]
  | .fnc _ caps => caps.map (·.1)
  | _ => []
def locsL : List LV → List Nat
  | [] => []
  | x :: l => locL x ++ locsL l
def locsF : FV → List Nat
  | .one x => locL x
  | .agg cs => locsL cs
  | .tup vs => go vs
where go : List (Bool × List LV) → List Nat
  | [] => []
  | (_, cs) :: r => locsL cs ++ go r
def locsFs : List FV → List Nat
  | [] => []
  | x :: l => locsF x ++ locsFs l
def locsB : Option Blk → List Nat
  | some (.var _ cs) => locsL cs
  | _ => []
def addAll : List Nat → List Nat → List Nat
  | acc, [] => acc
  | acc, l :: r => addAll (bif hasN acc l then acc else acc ++ [l]) r
def more (H : Hp) : List Nat → List Nat → List Nat
  | acc, [] => acc
  | acc, l :: r => more H (addAll acc (locsB (H l))) r
def reachN (H : Hp) : Nat → List Nat → List Nat
  | 0, acc => acc
  | n + 1, acc => reachN H n (more H acc acc)
def allIn (acc : List Nat) : List Nat → Bool
  | [] => true
  | l :: r => hasN acc l && allIn acc r
def closedN (H : Hp) (acc : List Nat) : List Nat → Bool
  | [] => true
  | l :: r => (match H l with | some b => allIn acc (locsB (some b)) | none => false) && closedN H acc r
def upto : Nat → List Nat
  | 0 => []
  | n + 1 => upto n ++ [n]
def reach (H : Hp) (k : Nat) (vs : List Nat) : Option (List Nat) :=
  bif closedN H (reachN H 6 (addAll (upto k) vs)) (reachN H 6 (addAll (upto k) vs)) && allIn (reachN H 6 (addAll (upto k) vs)) vs then some (reachN H 6 (addAll (upto k) vs)) else none
def idx : List Nat → Nat → Nat → Option Nat
  | [], _, _ => none
  | a :: l, n, i => bif Nat.beq a n then some i else idx l n (i + 1)
def renC (ρ : Nat → Option Nat) : List (Nat × Nat) → Option (List (Nat × Nat))
  | [] => some []
  | (l, o) :: r => (ρ l).bind fun l' => (renC ρ r).bind fun r' => some ((l', o) :: r')
def renL (ρ : Nat → Option Nat) : LV → Option LV
  | .ptr l o => (ρ l).bind fun l' => some (.ptr l' o)
  | .pti l o i => (ρ l).bind fun l' => some (.pti l' o i)
  | .slo l o n => (ρ l).bind fun l' => some (.slo l' o n)
  | .apt l i j => (ρ l).bind fun l' => some (.apt l' i j)
  | .fnc f caps => (renC ρ caps).bind fun c => some (.fnc f c)
  | x => some x
def renLs (ρ : Nat → Option Nat) : List LV → Option (List LV)
  | [] => some []
  | x :: l => (renL ρ x).bind fun x' => (renLs ρ l).bind fun l' => some (x' :: l')
def renT (ρ : Nat → Option Nat) : List (Bool × List LV) → Option (List (Bool × List LV))
  | [] => some []
  | (b, cs) :: r => (renLs ρ cs).bind fun cs' => (renT ρ r).bind fun r' => some ((b, cs') :: r')
def renF (ρ : Nat → Option Nat) : FV → Option FV
  | .one x => (renL ρ x).bind fun x' => some (.one x')
  | .agg cs => (renLs ρ cs).bind fun cs' => some (.agg cs')
  | .tup vs => (renT ρ vs).bind fun vs' => some (.tup vs')
def renFs (ρ : Nat → Option Nat) : List FV → Option (List FV)
  | [] => some []
  | x :: l => (renF ρ x).bind fun x' => (renFs ρ l).bind fun l' => some (x' :: l')
def renB (ρ : Nat → Option Nat) : Blk → Option Blk
  | .var f cs => (renLs ρ cs).bind fun cs' => some (.var f cs')
  | b => some b
def renBs (ρ : Nat → Option Nat) : List Blk → Option (List Blk)
  | [] => some []
  | x :: l => (renB ρ x).bind fun x' => (renBs ρ l).bind fun l' => some (x' :: l')
def pickH (H : Hp) : List Nat → Option (List Blk)
  | [] => some []
  | l :: r => (H l).bind fun b => (pickH H r).bind fun bs => some (b :: bs)
def idxAt : List Nat → Nat → Option Nat
  | [], _ => none
  | a :: _, 0 => some a
  | _ :: l, n + 1 => idxAt l n
def backN (L : List Nat) (nx k : Nat) : Nat → Option Nat := fun i =>
  bif Nat.ble k i then some (Nat.add nx (Nat.sub i k)) else idxAt L i
def backUps : Nat → List Nat → List Blk → Option (List (Nat × Blk))
  | nx, [], b :: bs => (backUps (nx + 1) [] bs).bind fun r => some ((nx, b) :: r)
  | _, [], [] => some []
  | _, _ :: _, [] => none
  | nx, l :: L, b :: bs => (backUps nx L bs).bind fun r => some ((l, b) :: r)
def noSlI : IV → Bool
  | .sl _ _ _ => false
  | .arr _ _ => false
  | _ => true
def noSlL : List LV → Bool
  | [] => true
  | .iv x :: l => noSlI x && noSlL l
  | .ptr _ _ :: _ | .cref _ _ :: _ => false
  | _ :: _ => false
def noSlF : FV → Bool
  | .one x => noSlL [x]
  | .agg cs => noSlL cs
  | .tup vs => go vs
where go : List (Bool × List LV) → Bool
  | [] => true
  | (_, cs) :: r => noSlL cs && go r
def frzArgs (e : List FV) (H : Hp) : List (Bool × Od) → Option (List FV × List Nat)
  | [] => some ([], [])
  | (true, x) :: r => (frzArgs e H r).bind fun (vs, bs) => some (rd e x :: vs, bs)
  | (false, x) :: r => (frzF A H (rd e x)).bind fun (v, b) => (frzArgs e H r).bind fun (vs, bs) => some (v :: vs, b ++ bs)
def capFV : List (Nat × Nat) → List FV
  | [] => []
  | (l, o) :: r => .one (.ptr l o) :: capFV r
end GoV
namespace GoV
open Go (IntKind BinOp UnOp)
variable (A : Ar)
def kEq : IntKind → IntKind → Bool
  | .i8, .i8 | .i16, .i16 | .i32, .i32 | .i64, .i64 | .u8, .u8 | .u16, .u16 | .u32, .u32 | .u64, .u64 => true
  | _, _ => false
structure Eff where
  v : FV
  ups : List (Nat × Blk)
  kills : List Nat
def liftI : List IV → List LV
  | [] => []
  | x :: l => .iv x :: liftI l
def lenH : List Blk → Nat
  | [] => 0
  | _ :: l => lenH l + 1
def freshen (n : Nat) : List LV → List LV × List Blk
  | [] => ([], [])
  | .fresh z :: r => let (r', bs) := freshen (n + 1) r; (.slo n 0 0 :: r', .arr false false z [] :: bs)
  | x :: r => let (r', bs) := freshen n r; (x :: r', bs)
def just (v : FV) : Option Eff := some ⟨v, [], []⟩
def one (v : LV) : Option Eff := some ⟨.one v, [], []⟩
def news : Nat → List Blk → List (Nat × Blk)
  | _, [] => []
  | nx, b :: r => (nx, b) :: news (nx + 1) r
def intOf : FV → Option Int
  | .one (.iv (.int _ n)) => some n
  | _ => none
def intOf? (e : List FV) : Option Od → Option (Option Int)
  | none => some none
  | some x => (intOf (rd e x)).bind fun n => some (some n)
def binI (op : BinOp) (k : IntKind) (a : Int) (k' : IntKind) (b : Int) : Option Eff :=
  match op with
  | .shl | .shr => bif A .nn b then one (.iv (.int k (A .ar op k a b))) else none
  | .add | .sub | .mul | .and | .or | .xor | .andNot => bif kEq k k' then one (.iv (.int k (A .ar op k a b))) else none
  | .quo | .rem => bif kEq k k' then (bif A .nz b then one (.iv (.int k (A .ar op k a b))) else none) else none
  | .eql | .neq | .lss | .leq | .gtr | .geq => bif kEq k k' then one (.iv (.bool (A .cmp op a b))) else none
def binS (op : BinOp) (a b : ByteArray) : Option Eff :=
  match op with
  | .add => (A .scat a b).bind fun c => one (.iv (.str c))
  | .eql | .neq | .lss | .leq | .gtr | .geq => one (.iv (.bool (A .scmp op a b)))
  | _ => none
def eqR (op : BinOp) (b : Bool) : Option Eff :=
  match op with
  | .eql => one (.iv (.bool b))
  | .neq => one (.iv (.bool (Bool.not b)))
  | _ => none
def binV (op : BinOp) : FV → FV → Option Eff
  | .one (.iv (.int k a)), .one (.iv (.int k' b)) => binI A op k a k' b
  | .one (.iv (.str a)), .one (.iv (.str b)) => binS A op a b
  | _, _ => none
def eqsV (op : BinOp) : Ek → FV → FV → Option Eff
  | .bool, .one (.iv (.bool a)), .one (.iv (.bool b)) => eqR op (A .bq a b)
  | .ptr, .one (.iv .nilp), .one (.iv .nilp) => eqR op true
  | .ptr, .one (.ptr _ _), .one (.iv .nilp) => eqR op false
  | .ptr, .one (.iv .nilp), .one (.ptr _ _) => eqR op false
  | .func, .one (.iv .niln), .one (.iv .niln) => eqR op true
  | .func, .one (.iv (.fn _)), .one (.iv .niln) => eqR op false
  | .func, .one (.fnc _ _), .one (.iv .niln) => eqR op false
  | _, _, _ => none
def eqaV (op : BinOp) (ks : List Lf) : FV → FV → Option Eff
  | .agg a, .agg b => (toIV a).bind fun x => (toIV b).bind fun y => (A .eqv ks x y).bind fun t => eqR op t
  | _, _ => none
def unV (op : UnOp) : FV → Option Eff
  | .one (.iv (.bool b)) => match op with | .not => one (.iv (.bool (Bool.not b))) | _ => none
  | .one (.iv (.int k a)) => match op with | .neg | .xor => one (.iv (.int k (A .un op k a))) | _ => none
  | _ => none
def loadC (ag : Bool) (sz : Nat) (cs : List LV) (o : Nat) : Option Eff :=
  bif ag then (cut A cs o sz).bind fun r => just (.agg r) else (cell A cs o).bind fun x => one x
def loadV (H : Hp) (ag : Bool) (sz : Nat) : FV → Option Eff
  | .one (.ptr l o) => match H l with | some (.var _ cs) => loadC A ag sz cs o | _ => none
  | .one (.pti l o i) =>
    match H l with
    | some (.var _ cs) => bif ag then none else (rowAt cs o).bind fun (_, xs) => (A .getc xs i).bind fun x => one (.iv x)
    | _ => none
  | .one (.cref cs o) => loadC A ag sz (liftI cs) o
  | .one (.apt l i j) => match H l with | some (.arr _ _ _ es) => (A .getN es i).bind fun x => loadC A ag sz (liftI x) j | _ => none
  | _ => none
def widthsI : List IV → Nat
  | [] => 0
  | .arr n _ :: l => Nat.add n (widthsI l)
  | _ :: l => Nat.add 1 (widthsI l)
def okE (z op : Nat) : Bool := Nat.beq z op || Nat.beq z 0
def storeV (H : Hp) (sz : Nat) (x : FV) : FV → Option Eff
  | .one (.ptr l o) =>
    match H l with
    | some (.var false cs) => (cellsOf x).bind fun c => bif Nat.beq (widths c) sz then (lay cs o c).bind fun cs' => some ⟨.one .undef, [(l, .var false cs')], []⟩ else none
    | _ => none
  | .one (.pti l o i) =>
    match H l, x with
    | some (.var false cs), .one (.iv y) => bif Nat.beq sz 1 then (rowAt cs o).bind fun (_, xs) => (A .setc xs i y).bind fun ys => (rowSet cs o ys).bind fun cs' => some ⟨.one .undef, [(l, .var false cs')], []⟩ else none
    | _, _ => none
  | .one (.apt l i j) =>
    match H l with
    | some (.arr false g z es) => (frzF A H x).bind fun (x', bs) => bif hasN bs l then none else (cellsOf x').bind fun c => (toIV c).bind fun c' => bif Nat.beq (widthsI c') sz then (A .set es i j c').bind fun es' =>
        some ⟨.one .undef, bumps H bs ++ [(l, .arr false g z es')], []⟩ else none
    | _ => none
  | _ => none
def nilcV : FV → Option Eff
  | .one (.iv (.fn f)) => one (.iv (.fn f))
  | .one (.ptr l o) => one (.ptr l o)
  | .one (.pti l o i) => one (.pti l o i)
  | .one (.cref cs o) => one (.cref cs o)
  | .one (.apt l i j) => one (.apt l i j)
  | .one (.fnc f c) => one (.fnc f c)
  | _ => none
def capsV (e : List FV) : List Od → Option (List (Nat × Nat))
  | [] => some []
  | x :: r => match rd e x with
    | .one (.ptr l o) => (capsV e r).bind fun r' => some ((l, o) :: r')
    | _ => none
def partsI (e : List FV) (H : Hp) (esz : Nat) : List Od → Option (List (List IV) × List Nat)
  | [] => some ([], [])
  | x :: r => (frzF A H (rd e x)).bind fun (v, bs) => (cellsOf v).bind fun c => (toIV c).bind fun c' => bif Nat.beq (widthsI c') esz then (partsI e H esz r).bind fun (r', bs') => some (c' :: r', bs ++ bs') else none
def layAll (e : List FV) : List LV → List (Nat × Nat × Od) → Option (List LV)
  | z, [] => some z
  | z, (off, sz, x) :: r => (cellsOf (rd e x)).bind fun c => bif Nat.beq (widths c) sz then (lay z off c).bind fun z' => layAll e z' r else none
def noHi : Option Int → Bool → Bool
  | none, f => f
  | some _, _ => false
def slV (H : Hp) (esz : Nat) (lo hi mx : Option Int) : FV → Option Eff
  | .one (.iv (.sl full z es)) =>
    bif okE z esz then
      match mx with
      | none => (A .sub es lo hi).bind fun es' => one (.iv (.sl (noHi hi full) z es'))
      | some _ => (A .sub3 es lo hi mx).bind fun es' => one (.iv (.sl true z es'))
    else none
  | .one (.slo l o n) =>
    match H l with
    | some (.arr _ _ z es) =>
      bif okE z esz then
        match mx with
        | none => (A .cuts o n (A .ln es) lo hi none).bind fun (o', n') => one (.slo l o' n')
        | some _ => (A .cuts o n (A .ln es) lo hi mx).bind fun (o', n') => some ⟨.one (.iv (.sl true z (A .seg es o' n'))), bumps H [l], []⟩
      else none
    | _ => none
  | _ => none
def slUV (H : Hp) (esz : Nat) (lo hi mx : Option Int) : FV → Option Eff
  | .one (.slo l o n) =>
    match H l with
    | some (.arr _ _ z es) =>
      bif okE z esz then
        match mx, hi with
        | some m, some h => (A .cuts o n (A .ln es) (some h) (some m) (some m)).bind fun _ => (A .cuts o n (A .ln es) lo (some h) none).bind fun _ => one .undef
        | _, _ => none
      else none
    | _ => none
  | _ => none
def addO : Nat → Nat → Nat
  | 0, k => k
  | o + 1, k => A .addN (o + 1) k
def ixSV (H : Hp) (esz : Nat) (i : Int) : FV → Option Eff
  | .one (.iv (.sl _ z es)) => bif Nat.beq z esz then (A .get es i).bind fun x => one (.cref x 0) else none
  | .one (.slo l o n) =>
    match H l with
    | some (.arr _ _ z _) => bif Nat.beq z esz then (A .at_ i n).bind fun k => one (.apt l (addO A o k) 0) else none
    | _ => none
  | _ => none
def ixAV (H : Hp) (n esz : Nat) (i : Int) : FV → Option Eff
  | .one (.ptr l o) =>
    match H l with
    | some (.var _ cs) =>
      match rowAt cs o with
      | some (m, _) => bif Nat.beq m n && Nat.beq esz 1 then (A .at_ i n).bind fun _ => one (.pti l o i) else none
      | none => (A .offs o n esz i).bind fun o' => one (.ptr l o')
    | _ => none
  | .one (.cref cs o) =>
    match rowAt (liftI cs) o with
    | some (m, xs) => bif Nat.beq m n && Nat.beq esz 1 then (A .getc xs i).bind fun x => one (.cref [x] 0) else none
    | none => (A .offs o n esz i).bind fun o' => one (.cref cs o')
  | _ => none
def ixVV (n : Nat) (i : Int) : FV → Option Eff
  | .agg cs =>
    match rowAt cs 0 with
    | some (m, xs) => bif Nat.beq m n then (A .getc xs i).bind fun x => one (.iv x) else none
    | none => (A .offs 0 n 1 i).bind fun o' => (cell A cs o').bind fun x => one x
  | _ => none
def nth {α : Type} : List α → Nat → Option α
  | [], _ => none
  | a :: _, 0 => some a
  | _ :: l, n + 1 => nth l n
def srcOf (H : Hp) (esz : Nat) : FV → Option (List (List IV))
  | .one (.iv (.sl _ z es)) => bif okE z esz then some es else none
  | .one (.slo l o n) => match H l with | some (.arr _ _ z es) => bif okE z esz then some (A .seg es o n) else none | _ => none
  | .one (.iv (.str s)) => bif Nat.beq esz 1 then some (A .s2b s) else none
  | _ => none
def appV (H : Hp) (nx esz bytes : Nat) (ys : List (List IV)) : FV → Option Eff
  | .one (.iv (.sl true z es)) => bif okE z esz then
      match A .app bytes es ys with
      | some (false, es') => some ⟨.one (.slo nx 0 (A .ln es')), [(nx, .arr false false esz es')], []⟩
      | some (true, es') => one (.iv (.sl true z es'))
      | none => none
      else none
  | .one (.slo l o n) =>
    match H l with
    | some (.arr f g z es) =>
      bif okE z esz then
        match A .apo bytes o n es ys with
        | some (true, es') => some ⟨.one (.slo l 0 (A .ln es')), [(l, .arr f true esz es')], [l]⟩
        | some (false, es') =>
          match f with
          | false => some ⟨.one (.slo l o (A .addN n (A .ln ys))), [(l, .arr false g z es')], []⟩
          | true => none
        | none => none
      else none
    | _ => none
  | _ => none
def bltV (H : Hp) (nx : Nat) : VB → List FV → Option Eff
  | .len, [.one (.iv (.sl _ _ es))] => one (.iv (.int .i64 (A .len es)))
  | .len, [.one (.slo _ _ n)] => one (.iv (.int .i64 (A .ofN n)))
  | .lenS, [.one (.iv (.str s))] => one (.iv (.int .i64 (A .slen s)))
  | .append esz bytes, [s, x] => (srcOf A H esz x).bind fun ys => appV A H nx esz bytes ys s
  | .max, [.one (.iv (.int k a)), .one (.iv (.int k' b))] => bif kEq k k' then one (.iv (.int k (A .mx a b))) else none
  | .min, [.one (.iv (.int k a)), .one (.iv (.int k' b))] => bif kEq k k' then one (.iv (.int k (A .mi a b))) else none
  | .copy esz, [.one (.slo l o n), x] =>
    match H l with
    | some (.arr false g z es) => bif Nat.beq z esz then (srcOf A H esz x).bind fun ys =>
        some ⟨.one (.iv (.int .i64 (A .ofN (A .min_ n (A .ln ys))))), [(l, .arr false g z (A .over es o (A .seg ys 0 (A .min_ n (A .ln ys)))))], []⟩ else none
    | _ => none
  | .clear zc, [.one (.slo l o n)] =>
    match H l with
    | some (.arr false g z es) => bif Nat.beq z (widthsI zc) then some ⟨.tup [], [(l, .arr false g z (A .over es o (A .zeros zc n)))], []⟩ else none
    | _ => none
  | _, _ => none
def rds (e : List FV) : List Od → List FV
  | [] => []
  | x :: r => rd e x :: rds e r
def asNew : Blk → Blk
  | .arr f _ z es => .arr f false z es
  | b => b
def asNews : List Blk → List Blk
  | [] => []
  | b :: r => asNew b :: asNews r
def grownOf : List Nat → List Blk → List Nat
  | l :: L, .arr _ true _ _ :: bs => l :: grownOf L bs
  | _ :: L, _ :: bs => grownOf L bs
  | _, _ => []
def keepG (H : Hp) : List Nat → List Blk → List Blk
  | l :: L, .arr f g z es :: bs => .arr f (g || (match H l with | some (.arr _ g' _ _) => g' | _ => false)) z es :: keepG H L bs
  | _ :: L, b :: bs => b :: keepG H L bs
  | _, bs => bs
def killEs : List Nat → List FV → List FV
  | [], e => e
  | l :: r, e => killEs r (killE l e)
def killHs : List Nat → List Blk → List Blk
  | [], hp => hp
  | l :: r, hp => killHs r (killH l hp)
def lenN : List Nat → Nat
  | [] => 0
  | _ :: l => lenN l + 1
def isNil {α : Type} : List α → Bool
  | [] => true
  | _ => false
def anyIn (l : List Nat) : List Nat → Bool
  | [] => false
  | x :: r => hasN l x || anyIn l r
def callV (call : CallT) (e : List FV) (H : Hp) (nx : Nat) (f : Nat) (as : List (Bool × Od)) (more : List FV) : Option Eff :=
  (frzArgs A e H as).bind fun (vs, bs) =>
  (reach H 0 (locsFs (vs ++ more))).bind fun L =>
  (renFs (fun n => idx L n 0) (vs ++ more)).bind fun vs' =>
  (pickH H L).bind fun sub =>
  (renBs (fun n => idx L n 0) (asNews sub)).bind fun sub' =>
  (call f vs' sub').bind fun (v, outs) =>
  (renF (backN L nx (lenN L)) v).bind fun v' =>
  (renBs (backN L nx (lenN L)) outs).bind fun outs' =>
  (backUps nx L (keepG H L outs')).bind fun ups =>
  bif anyIn L bs then none
  else bif noSlF v && isNil outs then some ⟨v', [], []⟩
  else some ⟨v', bumps H bs ++ ups, grownOf L outs'⟩
def movV (nx : Nat) : Option Nat → FV → Option Eff
  | none, x => just x
  | some z, .one (.iv (.sl true _ [])) => some ⟨.one (.slo nx 0 0), [(nx, .arr false false z [])], []⟩
  | _, _ => none
def b2sV (H : Hp) : FV → Option Eff
  | .one (.iv (.sl _ z es)) => bif okE z 1 then (A .b2s es).bind fun s => one (.iv (.str s)) else none
  | .one (.slo l o n) => match H l with | some (.arr _ _ z es) => bif okE z 1 then (A .b2s (A .seg es o n)).bind fun s => one (.iv (.str s)) else none | _ => none
  | _ => none
def slAV (H : Hp) (esz n : Nat) : FV → Option Eff
  | .one (.ptr l o) => match H l with
    | some (.var _ cs) => (rowAt cs o).bind fun (m, xs) => bif Nat.beq m (Nat.mul n esz) then some ⟨.one (.iv (.sl true esz (A .chunk esz xs))), [(l, .var true cs)], []⟩ else none
    | _ => none
  | _ => none
def mkfL (f : Nat) : List (Nat × Nat) → LV
  | [] => .iv (.fn f)
  | c => .fnc f c
def fadV (off : Nat) : FV → Option Eff
  | .one (.ptr l o) => one (.ptr l (Nat.add o off))
  | .one (.cref cs o) => one (.cref cs (Nat.add o off))
  | .one (.apt l i j) => one (.apt l i (Nat.add j off))
  | _ => none
def opv (call : CallT) (e : List FV) (H : Hp) (nx : Nat) : VOp → Option Eff
  | .mov own x => movV nx own (rd e x)
  | .pick c a b => match rd e c with | .one (.iv (.bool t)) => just (bif t then rd e a else rd e b) | _ => none
  | .new z => let (z', bs) := freshen (nx + 1) z; some ⟨.one (.ptr nx 0), (nx, .var false z') :: news (nx + 1) bs, []⟩
  | .box x => (cellsOf (rd e x)).bind fun c => some ⟨.one (.ptr nx 0), [(nx, .var false c)], []⟩
  | .build z ps => (layAll e z ps).bind fun z' => let (z2, bs) := freshen nx z'; some ⟨.agg z2, news nx bs, []⟩
  | .mks own esz ps => (partsI A e H esz ps).bind fun (es, bs) =>
      bif own then some ⟨.one (.slo nx 0 (A .ln es)), bumps H bs ++ [(nx, .arr false false esz es)], []⟩ else some ⟨.one (.iv (.sl true esz es)), bumps H bs, []⟩
  | .make z n c => (intOf (rd e n)).bind fun n => (intOf (rd e c)).bind fun c => bif A .cmp .lss 0 n && A .cmp .leq n c then (A .rep z n).bind fun es => (A .rep z c).bind fun _ => some ⟨.one (.slo nx 0 (A .ln es)), [(nx, .arr false false (widthsI z) es)], []⟩ else none
  | .load ag sz a => loadV A H ag sz (rd e a)
  | .store sz a x => storeV A H sz (rd e x) (rd e a)
  | .nilc x => nilcV (rd e x)
  | .bin op x y => binV A op (rd e x) (rd e y)
  | .eqa op ks x y => eqaV A op ks (rd e x) (rd e y)
  | .eqs op k x y => eqsV A op k (rd e x) (rd e y)
  | .un op x => unV A op (rd e x)
  | .conv k x => match rd e x with | .one (.iv (.int _ n)) => one (.iv (.int k (A .ck k n))) | _ => none
  | .s2b x => match rd e x with | .one (.iv (.str s)) => one (.iv (.sl false 1 (A .s2b s))) | _ => none
  | .b2s x => b2sV A H (rd e x)
  | .mkf f caps => (capsV e caps).bind fun c => one (mkfL f c)
  | .slS esz x lo hi mx => (intOf? e lo).bind fun lo => (intOf? e hi).bind fun hi => (intOf? e mx).bind fun mx => slV A H esz lo hi mx (rd e x)
  | .slU esz x lo hi mx => (intOf? e lo).bind fun lo => (intOf? e hi).bind fun hi => (intOf? e mx).bind fun mx => slUV A H esz lo hi mx (rd e x)
  | .slT x lo hi => (intOf? e lo).bind fun lo => (intOf? e hi).bind fun hi =>
      match rd e x with | .one (.iv (.str s)) => (A .sext s lo hi).bind fun s' => one (.iv (.str s')) | _ => none
  | .slA esz n x => slAV A H esz n (rd e x)
  | .fad off x => fadV off (rd e x)
  | .fld ag off sz x => match rd e x with | .agg cs => loadC A ag sz cs off | _ => none
  | .ixS esz x i => (intOf (rd e i)).bind fun i => ixSV A H esz i (rd e x)
  | .ixA n esz x i => (intOf (rd e i)).bind fun i => ixAV A H n esz i (rd e x)
  | .ixV n x i => (intOf (rd e i)).bind fun i => ixVV A n i (rd e x)
  | .ixT x i => (intOf (rd e i)).bind fun i => match rd e x with | .one (.iv (.str s)) => (A .sidx s i).bind fun b => one (.iv (.int .u8 b)) | _ => none
  | .ext i x => match rd e x with
    | .tup vs => match nth vs i with | some (true, cs) => just (.agg cs) | some (false, [c]) => one c | _ => none
    | _ => none
  | .call f as => callV A call e H nx f as []
  | .callv f as => match rd e f with
    | .one (.iv (.fn f)) => callV A call e H nx f as []
    | .one (.fnc f caps) => callV A call e H nx f as (capFV caps)
    | _ => none
  | .blt b as => bltV A H nx b (rds e as)
  | .bad => none
def putD (e : List FV) : Option Nat → FV → List FV
  | none, _ => e
  | some d, v => stE e d v
def wanted (e : List FV) : Option (Nat × Bool) → Option Bool
  | none => some true
  | some (t, w) => match lkE e t with | .one (.iv (.bool b)) => some (bif w then b else Bool.not b) | .tup [] => some false | _ => none
def putH : List Blk → Nat → Blk → Option (List Blk)
  | [], 0, b => some [b]
  | [], _ + 1, _ => none
  | _ :: l, 0, b => some (b :: l)
  | a :: l, n + 1, b => (putH l n b).bind fun l' => some (a :: l')
def putHs : List Blk → List (Nat × Blk) → Option (List Blk)
  | hp, [] => some hp
  | hp, (l, b) :: r => (putH hp l b).bind fun hp' => putHs hp' r
def skipE : Eff := ⟨.tup [], [], []⟩
def effOf (call : CallT) (o : VO) (s : St) : Option (Bool × Eff) :=
  (wanted s.env o.guard).bind fun b =>
  bif b then (opv A call s.env (lkH s.hp) (lenH s.hp) o.op).bind fun ef => some (true, ef) else some (false, skipE)
def applyE (d : Option Nat) (ef : Eff) (s : St) : Option St :=
  (putHs (killHs ef.kills s.hp) ef.ups).bind fun hp => some ⟨s.k, putD (killEs ef.kills s.env) d ef.v, hp⟩
def regV (call : CallT) : List VO → St → Option St
  | [], s => some s
  | o :: r, s => (effOf A call o s).bind fun (_, ef) => (applyE o.dst ef s).bind fun s' => regV call r s'
end GoV
namespace GoV
open Go (IntKind BinOp UnOp)
variable (A : Ar)
/-! Which tmps an operation reads; which blocks it comes to (true: it may change them). -/
def odT : Od → List Nat
  | .t n => [n]
  | .k _ => []
def odsT : List Od → List Nat
  | [] => []
  | x :: r => odT x ++ odsT r
def odO : Option Od → List Od
  | some x => [x]
  | none => []
def opO : VOp → List Od
  | .mov _ x | .box x | .load _ _ x | .nilc x | .un _ x | .conv _ x | .s2b x | .b2s x | .slA _ _ x | .fad _ x | .fld _ _ _ x | .ext _ x => [x]
  | .pick c a b => [c, a, b]
  | .new _ | .bad => []
  | .build _ ps => go ps
  | .mks _ _ ps => ps
  | .make _ n c => [n, c]
  | .store _ a x | .bin _ a x | .eqa _ _ a x | .eqs _ _ a x | .ixS _ a x | .ixA _ _ a x | .ixV _ a x | .ixT a x => [a, x]
  | .mkf _ caps => caps
  | .slS _ x lo hi mx | .slU _ x lo hi mx => x :: (odO lo ++ (odO hi ++ odO mx))
  | .slT x lo hi => x :: (odO lo ++ odO hi)
  | .call _ as => ga as
  | .callv f as => f :: ga as
  | .blt _ as => as
where
  go : List (Nat × Nat × Od) → List Od
    | [] => []
    | (_, _, x) :: r => x :: go r
  ga : List (Bool × Od) → List Od
    | [] => []
    | (_, x) :: r => x :: ga r
def opT (op : VOp) : List Nat := odsT (opO op)
def guT : Option (Nat × Bool) → List Nat
  | some (t, _) => [t]
  | none => []
def voT (o : VO) : List Nat := guT o.guard ++ opT o.op
def dstT : Option Nat → List Nat
  | some d => [d]
  | none => []
def isCall : VOp → Bool
  | .call _ _ | .callv _ _ => true
  | _ => false
structure Ft where
  rt : List Nat
  wt : List Nat
  rb : List Nat
  wb : List Nat
  ks : List Nat
  rc : List (Nat × Nat)
def fsts : List (Nat × Blk) → List Nat
  | [] => []
  | (l, _) :: r => l :: fsts r
def noH : VOp → Bool
  | .mov _ _ | .pick _ _ _ | .nilc _ | .bin _ _ _ | .eqa _ _ _ _ | .eqs _ _ _ _ | .un _ _ | .conv _ _ | .s2b _ | .mkf _ _ | .slT _ _ _ | .fad _ _ | .fld _ _ _ _ | .ixV _ _ _ | .ixT _ _ | .ext _ _ | .blt .len _ | .blt .lenS _ | .blt .max _ | .blt .min _ => true
  | _ => false
def cellR (e : List FV) : VOp → List (Nat × Nat)
  | .load false _ a => match rd e a with | .one (.ptr l i) => [(l, i)] | _ => []
  | _ => []
def isNilC : List (Nat × Nat) → Bool
  | [] => true
  | _ => false
def fstN : List (Nat × Nat) → List Nat
  | [] => []
  | (l, _) :: r => l :: fstN r
def readB (b : Bool) (s : St) (o : VO) : Option (List Nat) :=
  bif b then (bif isCall o.op then reach (lkH s.hp) 0 (locsFs (rds s.env (opO o.op))) else bif noH o.op then some [] else bif isNilC (cellR s.env o.op) then some (locsFs (rds s.env (opO o.op))) else some []) else some []
def footOf (b : Bool) (e : List FV) (o : VO) (ef : Eff) (rb : List Nat) : Ft :=
  ⟨bif b then voT o else guT o.guard, dstT o.dst, rb, fsts ef.ups, ef.kills, bif b then cellR e o.op else []⟩
structure Ent where
  dst : Option Nat
  b : Bool
  ef : Eff
  nx : Nat
  ft : Ft
  after : List Nat
def cleanV (ks : List Nat) (v : FV) : Bool := Bool.not (anyIn ks (locsF v))
def cleanW (ks : List Nat) (t : Nat) : List Ent → Bool
  | [] => true
  | z :: r => (Bool.not (hasN (dstT z.dst) t) || cleanV ks z.ef.v) && cleanW ks t r
def cleanTs (e0 : List FV) (es : List Ent) (ks : List Nat) : List Nat → Bool
  | [] => true
  | t :: r => (cleanV ks (lkE e0 t) && cleanW ks t es) && cleanTs e0 es ks r
def hloc : List LV → Nat → List Nat
  | [], _ => []
  | .iv (.arr n _) :: l, off => bif Nat.ble n off then hloc l (Nat.sub off n) else []
  | x :: _, 0 => locL x
  | _ :: l, off + 1 => hloc l off
def cleanC (ks : List Nat) (i : Nat) : Blk → Bool
  | .var _ cs => Bool.not (anyIn ks (hloc cs i))
  | _ => true
def cleanU (ks : List Nat) (l i : Nat) : List (Nat × Blk) → Bool
  | [] => true
  | (k, b) :: r => (Bool.not (Nat.beq k l) || cleanC ks i b) && cleanU ks l i r
def cleanE (ks : List Nat) (l i : Nat) : List Ent → Bool
  | [] => true
  | z :: r => cleanU ks l i z.ef.ups && cleanE ks l i r
def cleanCs (H0 : Hp) (es : List Ent) (ks : List Nat) : List (Nat × Nat) → Bool
  | [] => true
  | (l, i) :: r => ((match H0 l with | some b => cleanC ks i b | none => true) && cleanE ks l i es) && cleanCs H0 es ks r
def offK (e0 : List FV) (H0 : Hp) (es : List Ent) (a b : Ft) : Bool := isNil a.ks || (isNil b.ks && (isNil b.rb && (isNil b.wb && (cleanTs e0 es a.ks (b.rt ++ b.wt) && cleanCs H0 es a.ks b.rc))))
def clash (e0 : List FV) (H0 : Hp) (es : List Ent) (a b : Ft) : Bool := Bool.not (offK e0 H0 es a b) || (Bool.not (offK e0 H0 es b a) || (anyIn a.wt b.rt || (anyIn a.wt b.wt || (anyIn a.rt b.wt || (anyIn a.wb b.rb || (anyIn a.wb b.wb || (anyIn a.rb b.wb || (anyIn a.wb (fstN b.rc) || anyIn (fstN a.rc) b.wb))))))))
def okF (e0 : List FV) (H0 : Hp) (es : List Ent) (an : List Nat) (f : Ft) : Nat → List Ft → Bool
  | _, [] => true
  | i, g :: r => (hasN an i || Bool.not (clash e0 H0 es g f)) && okF e0 H0 es an f (i + 1) r
def nthL (as : List (List Nat)) (i : Nat) : List Nat := match nth as i with | some l => l | none => []
def ancsA (as : List (List Nat)) : List Nat → List Nat → List Nat
  | acc, [] => acc
  | acc, i :: r => bif hasN acc i then ancsA as acc r else ancsA as (addAll acc (i :: nthL as i)) r
def ancs (as : List (List Nat)) : List Nat → List Nat
  | [] => []
  | i :: r => ancsA as (i :: nthL as i) r
def descN : Nat → List Nat → Bool
  | 0, _ => true
  | _ + 1, [] => false
  | n + 1, a :: l => Nat.beq a n && descN n l
def trD (call : CallT) : List VO → St → Option (List Ent × St)
  | [], s => some ([], s)
  | o :: r, s => (effOf A call o s).bind fun (b, ef) => (readB b s o).bind fun rb => (applyE o.dst ef s).bind fun s' =>
    (trD call r s').bind fun (es, s2) => some (⟨o.dst, b, ef, lenH s.hp, footOf b s.env o ef rb, o.after⟩ :: es, s2)
def lenA {α : Type} : List α → Nat
  | [] => 0
  | _ :: l => lenA l + 1
def okGo (e0 : List FV) (H0 : Hp) (es : List Ent) (fs : List Ft) (as : List (List Nat)) : List Ent → Bool
  | [] => true
  | e :: r => (descN (lenA fs) (ancs as e.after) || okF e0 H0 es (ancs as e.after) e.ft 0 fs) && okGo e0 H0 es (fs ++ [e.ft]) (as ++ [ancs as e.after]) r
def regD (call : CallT) (ops : List VO) (s : St) : Option St :=
  (trD A call ops s).bind fun (es, s') => bif okGo s.env (lkH s.hp) es [] [] es then some s' else none
inductive Ex where
  | normal
  | exit (id : Nat)
  | ret
def clr (keep : List Nat) : Nat → List FV → List FV
  | _, [] => []
  | i, v :: r => (bif hasN keep i then v else .one .undef) :: clr keep (i + 1) r
def freeF (norm : Bool) : Blk → Blk
  | .arr f _ z es => .arr (f || norm) false z es
  | b => b
def freshB (norm : Bool) : Nat → List Blk → List Blk
  | _, [] => []
  | 0, b :: r => freeF norm b :: freshB norm 0 r
  | k + 1, b :: r => b :: freshB norm k r
def headV (norm : Bool) (keep : List Nat) (s : St) : Option St :=
  let e := clr keep 0 s.env
  (reach (lkH s.hp) s.k (locsFs e)).bind fun L =>
  (renFs (fun n => idx L n 0) e).bind fun e' =>
  (pickH (lkH s.hp) L).bind fun hp =>
  (renBs (fun n => idx L n 0) hp).bind fun hp' =>
  some ⟨s.k, e', freshB norm s.k hp'⟩
abbrev IterT := (St → Option (Ex × St)) → St → Option (Ex × St)
def crun (call : CallT) (it : IterT) : VCode → St → Option (Ex × St)
  | .skip, s => some (.normal, s)
  | .region false ops, s => (regV A call ops s).bind fun s' => some (.normal, s')
  | .region true ops, s => (regD A call ops s).bind fun s' => some (.normal, s')
  | .seq a b, s => (crun call it a s).bind fun
    | (.normal, s') => crun call it b s'
    | r => some r
  | .cond c a b, s => match rd s.env c with
    | .one (.iv (.bool t)) => bif t then crun call it a s else crun call it b s
    | _ => none
  | .block id c, s => (crun call it c s).bind fun
    | (.exit j, s') => bif Nat.beq j id then some (.normal, s') else some (.exit j, s')
    | r => some r
  | .loop norm keep c, s => it (fun s => (headV norm keep s).bind fun s' => crun call it c s') s
  | .exit id, s => some (.exit id, s)
  | .ret, s => some (.ret, s)
  | .bad, _ => none
def resV (e : List FV) (H : Hp) : VRes → Option FV
  | .t n => some (lkE e n)
  | .c n ag sz => (loadV A H ag sz (lkE e n)).bind fun ef => some ef.v
def asPair : FV → Option (Bool × List LV)
  | .one x => some (false, [x])
  | .agg cs => some (true, cs)
  | .tup _ => none
def ress (e : List FV) (H : Hp) : List VRes → Option (List (Bool × List LV))
  | [] => some []
  | r :: rs => (resV A e H r).bind fun v => (asPair v).bind fun p => (ress e H rs).bind fun ps => some (p :: ps)
def resAll (e : List FV) (H : Hp) : List VRes → Option FV
  | [r] => resV A e H r
  | rs => (ress A e H rs).bind fun ps => some (.tup ps)
def undefs : Nat → List FV
  | 0 => []
  | n + 1 => .one .undef :: undefs n
def lenF : List FV → Nat
  | [] => 0
  | _ :: l => lenF l + 1
def padE (nt : Nat) (vs : List FV) : List FV := vs ++ undefs (Nat.sub nt (lenF vs))
def finV (vf : VFn) : Ex × St → Option (FV × List Blk)
  | (.exit _, _) => none
  | (_, s) =>
    (resAll A s.env (lkH s.hp) vf.res).bind fun v =>
    (reach (lkH s.hp) s.k (locsF v)).bind fun L =>
    (renF (fun n => idx L n 0) v).bind fun v' =>
    (pickH (lkH s.hp) L).bind fun hp =>
    (renBs (fun n => idx L n 0) hp).bind fun hp' =>
    some (v', freshB false s.k hp')
def bodyV (call : CallT) (it : IterT) (vf : VFn) (vs : List FV) (bs : List Blk) : Option (FV × List Blk) :=
  bif Nat.beq (lenF vs) vf.np then (crun A call it vf.body ⟨lenH bs, padE vf.nt vs, bs⟩).bind (finV A vf) else none
def iterN : Nat → IterT
  | 0, _, _ => none
  | n + 1, f, s => (f s).bind fun
    | (.normal, s') => iterN n f s'
    | r => some r
def run (T : Nat → Option VFn) : Nat → CallT
  | 0, _, _, _ => none
  | n + 1, f, vs, bs => (T f).bind fun vf => bodyV A (run T n) (iterN n) vf vs bs
end GoV
/- What the V-machine's values say of the machine's, and numbers as they are. -/
namespace GoV
open Go
/-! ### Numbers and lists as they are -/
def rArith (op : BinOp) (k : IntKind) (a b : Int) : Int :=
  match op with
  | .add => k.wrap (a + b)
  | .sub => k.wrap (a - b)
  | .mul => k.wrap (a * b)
  | .quo => k.wrap (a.tdiv b)
  | .rem => a.tmod b
  | .and => k.wrap ((BitVec.ofInt k.bits a &&& BitVec.ofInt k.bits b).toNat)
  | .or => k.wrap ((BitVec.ofInt k.bits a ||| BitVec.ofInt k.bits b).toNat)
  | .xor => k.wrap ((BitVec.ofInt k.bits a ^^^ BitVec.ofInt k.bits b).toNat)
  | .andNot => k.wrap ((BitVec.ofInt k.bits a &&& ~~~BitVec.ofInt k.bits b).toNat)
  | .shl => k.wrap (a * 2 ^ (min b.toNat k.bits))
  | .shr => a.fdiv (2 ^ (min b.toNat k.bits))
  | _ => 0
def rCmp (op : BinOp) (a b : Int) : Bool :=
  match op with
  | .eql => a == b
  | .neq => a != b
  | .lss => a < b
  | .leq => a ≤ b
  | .gtr => a > b
  | .geq => a ≥ b
  | _ => false
def rScmp (op : BinOp) (a b : ByteArray) : Bool :=
  match op with
  | .eql => a.toList == b.toList
  | .neq => !(a.toList == b.toList)
  | .lss => Op.bytesLess a.toList b.toList
  | .leq => Op.bytesLess a.toList b.toList || a.toList == b.toList
  | .gtr => !(Op.bytesLess a.toList b.toList || a.toList == b.toList)
  | .geq => !(Op.bytesLess a.toList b.toList)
  | _ => false
def rBound (i : Int) (n : Nat) : Option Nat := if 0 ≤ i ∧ i ≤ n then some i.toNat else none
def rCut (len : Nat) (lo hi : Option Int) : Option (Nat × Nat) :=
  (match hi with | none => some len | some h => rBound h len).bind fun h =>
  (match lo with | none => some 0 | some l => rBound l h).bind fun l => some (l, h)
def rSext (s : ByteArray) (lo hi : Option Int) : Option ByteArray := (rCut s.size lo hi).bind fun (l, h) => some (s.extract l h)
def rSub (es : List (List IV)) (lo hi : Option Int) : Option (List (List IV)) := (rCut es.length lo hi).bind fun (l, h) => some ((es.take h).drop l)
def rSub3 (es : List (List IV)) (lo hi mx : Option Int) : Option (List (List IV)) := if hi = mx then rSub es lo hi else none
def rSeg (es : List (List IV)) (o n : Nat) : List (List IV) := (es.drop o).take n
def rOver (es : List (List IV)) (o : Nat) (ys : List (List IV)) : List (List IV) := es.take o ++ ys ++ es.drop (o + ys.length)
def plainI : IV → Bool
  | .arr _ _ => false
  | _ => true
def rSet (es : List (List IV)) (i j : Nat) (c : List IV) : Option (List (List IV)) :=
  match es[i]? with
  | none => none
  | some x => if x.all plainI && c.all plainI && decide (j + c.length ≤ x.length) then some (es.set i (x.take j ++ c ++ x.drop (j + c.length))) else none
def rCuts (o n ext : Nat) (lo hi mx : Option Int) : Option (Nat × Nat) :=
  if o + n ≤ ext then
    match mx with
    | none => (match hi with | none => some n | some h => rBound h (ext - o)).bind fun h => (match lo with | none => some 0 | some l => rBound l h).bind fun l => some (o + l, h - l)
    | some m => if hi = some m then (rBound m n).bind fun h => (match lo with | none => some 0 | some l => rBound l h).bind fun l => some (o + l, h - l) else none
  else none
def rIdx (i : Int) (n : Nat) : Option Nat := if 0 ≤ i ∧ i < n then some i.toNat else none
def rNums : List (List IV) → Option (List Int)
  | [] => some []
  | [.int .u8 n] :: r => (rNums r).bind fun s => some (n :: s)
  | _ => none
def rB2s (es : List (List IV)) : Option ByteArray := (rNums es).map fun xs => ⟨(xs.map fun n => UInt8.ofNat n.toNat).toArray⟩
def rEqK : Lf → IV → IV → Option Bool
  | .int, .int k a, .int k' b => if k = k' then some (a == b) else none
  | .bool, .bool a, .bool b => some (a == b)
  | .str, .str a, .str b => some (a == b)
  | _, _, _ => none
def flatI : List IV → Option (List IV)
  | [] => some []
  | .arr n xs :: l => if xs.length = n ∧ xs.all plainI then (flatI l).bind fun r => some (xs ++ r) else none
  | x :: l => (flatI l).bind fun r => some (x :: r)
def rEqL : List Lf → List IV → List IV → Option Bool
  | [], [], [] => some true
  | k :: ks, a :: x, b :: y => (rEqK k a b).bind fun t => (rEqL ks x y).bind fun u => some (t && u)
  | _, _, _ => none
def rEqv (ks : List Lf) (a b : List IV) : Option Bool := (flatI a).bind fun x => (flatI b).bind fun y => rEqL ks x y
def room : Nat := 211106232532992
def rApp (b : Nat) (es ys : List (List IV)) : Option (Bool × List (List IV)) :=
  if ys.length = 0 ∧ es.length ≠ 0 then some (true, es) else if (es.length + ys.length) * b ≤ room then some (false, es ++ ys) else none
def rApo (b o n : Nat) (es ys : List (List IV)) : Option (Bool × List (List IV)) :=
  if o + n = es.length then (if (n + ys.length) * b ≤ room ∧ (o = 0 ∨ n + ys.length ≠ 0) then some (true, es.drop o ++ ys) else none)
  else if o + n + ys.length ≤ es.length then some (false, rOver es (o + n) ys) else none
def real : Ar
  | .ar => rArith
  | .cmp => rCmp
  | .nz => fun a => a != 0
  | .nn => fun a => decide (0 ≤ a)
  | .un => fun op k a => match op with | .neg => rArith .sub k 0 a | _ => rArith .xor k (if k.signed then -1 else k.max) a
  | .mx => fun a b => if b > a then b else a
  | .mi => fun a b => if b < a then b else a
  | .ck => fun k a => k.wrap a
  | .scmp => rScmp
  | .scat => fun a b => if ((a.size + b.size : Nat) : Int) > IntKind.i64.max then none else some (a ++ b)
  | .slen => fun s => s.size
  | .sidx => fun s i => if 0 ≤ i then (s[i.toNat]?).map fun b => (b.toNat : Int) else none
  | .sext => rSext
  | .s2b => fun s => s.data.toList.map fun b => [.int .u8 b.toNat]
  | .b2s => rB2s
  | .len => fun es => es.length
  | .ln => fun es => es.length
  | .ofN => fun n => n
  | .get => fun es i => if 0 ≤ i then es[i.toNat]? else none
  | .sub => rSub
  | .app => rApp
  | .apo => rApo
  | .seg => rSeg
  | .over => rOver
  | .set => rSet
  | .getN => fun es i => es[i]?
  | .min_ => fun a b => min a b
  | .sub3 => rSub3
  | .zeros => fun z n => List.replicate n z
  | .bq => fun a b => a == b
  | .eqN => fun a b => a == b
  | .addN => fun a b => a + b
  | .at_ => rIdx
  | .offs => fun o n esz i => (rIdx i n).bind fun k => some (o + k * esz)
  | .cuts => rCuts
  | .getc => fun xs i => if 0 ≤ i then xs[i.toNat]? else none
  | .setc => fun xs i x => if 0 ≤ i ∧ i < xs.length ∧ plainI x then some (xs.set i.toNat x) else none
  | .ext => fun xs o n => (xs.drop o).take n
  | .chunk => fun _ xs => xs.map fun x => [x]
  | .rep => fun z n => if 0 ≤ n ∧ n ≤ 1099511627776 then some (List.replicate n.toNat z) else none
  | .eqv => rEqv
  | .isE => isE
theorem real_nz (a : Int) : real .nz a = (a != 0) := rfl
theorem real_nn (a : Int) : real .nn a = decide (0 ≤ a) := rfl
theorem real_mx (a b : Int) : real .mx a b = if b > a then b else a := rfl
theorem real_mi (a b : Int) : real .mi a b = if b < a then b else a := rfl
theorem real_scat (a b : ByteArray) : real .scat a b = if ((a.size + b.size : Nat) : Int) > IntKind.i64.max then none else some (a ++ b) := rfl
theorem real_slen (s : ByteArray) : real .slen s = (s.size : Int) := rfl
theorem real_sidx (s : ByteArray) (i : Int) : real .sidx s i = if 0 ≤ i then (s[i.toNat]?).map fun b => (b.toNat : Int) else none := rfl
theorem real_sext (s : ByteArray) (lo hi : Option Int) : real .sext s lo hi = rSext s lo hi := rfl
theorem real_s2b (s : ByteArray) : real .s2b s = s.data.toList.map fun b => [.int .u8 b.toNat] := rfl
theorem real_b2s (es : List (List IV)) : real .b2s es = rB2s es := rfl
theorem real_len (es : List (List IV)) : real .len es = (es.length : Int) := rfl
theorem real_ln (es : List (List IV)) : real .ln es = es.length := rfl
theorem real_ofN (n : Nat) : real .ofN n = (n : Int) := rfl
theorem real_get (es : List (List IV)) (i : Int) : real .get es i = if 0 ≤ i then es[i.toNat]? else none := rfl
theorem real_sub (es : List (List IV)) (lo hi : Option Int) : real .sub es lo hi = rSub es lo hi := rfl
theorem real_sub3 (es : List (List IV)) (lo hi mx : Option Int) : real .sub3 es lo hi mx = rSub3 es lo hi mx := rfl
theorem real_app (b : Nat) (es ys : List (List IV)) : real .app b es ys = rApp b es ys := rfl
theorem real_apo (b o n : Nat) (es ys : List (List IV)) : real .apo b o n es ys = rApo b o n es ys := rfl
theorem real_seg (es : List (List IV)) (o n : Nat) : real .seg es o n = rSeg es o n := rfl
theorem real_over (es : List (List IV)) (o : Nat) (ys : List (List IV)) : real .over es o ys = rOver es o ys := rfl
theorem real_set (es : List (List IV)) (i j : Nat) (c : List IV) : real .set es i j c = rSet es i j c := rfl
theorem real_getN (es : List (List IV)) (i : Nat) : real .getN es i = es[i]? := rfl
theorem real_min (a b : Nat) : real .min_ a b = min a b := rfl
theorem real_zeros (z : List IV) (n : Nat) : real .zeros z n = List.replicate n z := rfl
theorem real_addN (a b : Nat) : real .addN a b = a + b := rfl
theorem real_at (i : Int) (n : Nat) : real .at_ i n = rIdx i n := rfl
theorem real_offs (o n esz : Nat) (i : Int) : real .offs o n esz i = (rIdx i n).bind fun k => some (o + k * esz) := rfl
theorem real_cuts (o n ext : Nat) (lo hi mx : Option Int) : real .cuts o n ext lo hi mx = rCuts o n ext lo hi mx := rfl
theorem real_getc (xs : List IV) (i : Int) : real .getc xs i = if 0 ≤ i then xs[i.toNat]? else none := rfl
theorem real_setc (xs : List IV) (i : Int) (x : IV) : real .setc xs i x = if 0 ≤ i ∧ i < xs.length ∧ plainI x then some (xs.set i.toNat x) else none := rfl
theorem real_ext (xs : List IV) (o n : Nat) : real .ext xs o n = (xs.drop o).take n := rfl
theorem real_chunk (n : Nat) (xs : List IV) : real .chunk n xs = xs.map fun x => [x] := rfl
theorem real_rep (z : List IV) (n : Int) : real .rep z n = if 0 ≤ n ∧ n ≤ 1099511627776 then some (List.replicate n.toNat z) else none := rfl
theorem real_eqv (ks : List Lf) (a b : List IV) : real .eqv ks a b = rEqv ks a b := rfl
theorem real_isE (es : List (List IV)) : real .isE es = isE es := rfl
/-! ### The relation -/
abbrev Mem := Nat → Nat → Option Value
inductive IR (M : Mem) : IV → Value → Prop
  | int (k : IntKind) (n : Int) : IR M (.int k n) (.int k n)
  | bool (b : Bool) : IR M (.bool b) (.bool b)
  | str (s : ByteArray) : IR M (.str s) (.string s)
  | nilp : IR M .nilp (.pointer none)
  | fn (f : Nat) : IR M (.fn f) (.func (.func f) #[] #[])
  | niln : IR M .niln .nilFunc
  | sl (full : Bool) (esz : Nat) (es : List (List IV)) (a : Option Addr) (c b o : Nat) (f : Nat → List IV) (g : Nat → Nat → Value)
      (hc : es.length ≤ c) (hf : full = true → c = es.length) (ha : 0 < es.length → a = some ⟨b, o, none⟩) (hz : 0 < es.length → 0 < esz)
      (hfl : ∀ i cs, es[i]? = some cs → flatI cs = some (f i)) (hsz : ∀ i, i < es.length → (f i).length = esz)
      (hm : ∀ i j x, i < es.length → (f i)[j]? = some x → M b (o + i * esz + j) = some (g i j))
      (hr : ∀ i j x, i < es.length → (f i)[j]? = some x → IR M x (g i j)) : IR M (.sl full esz es) (.slice a es.length c)
inductive Pl where
  | var (b : Nat)
  | arr (b o cap esz len : Nat)
  | nil
def Pl.block : Pl → Option Nat
  | .var b => some b
  | .arr b _ _ _ _ => some b
  | .nil => none
abbrev Pls := Nat → Option Pl
def CapR (pl : Pls) : List (Nat × Nat) → List Value → Prop
  | [], [] => True
  | (l, o) :: r, v :: vs => (∃ b, pl l = some (.var b) ∧ v = .pointer (some ⟨b, o, none⟩)) ∧ CapR pl r vs
  | _, _ => False
def LR (M : Mem) (pl : Pls) : LV → Value → Prop
  | .iv x, v => IR M x v
  | .ptr l o, v => ∃ b, pl l = some (.var b) ∧ v = .pointer (some ⟨b, o, none⟩)
  | .pti l o i, v => ∃ b, pl l = some (.var b) ∧ 0 ≤ i ∧ v = .pointer (some ⟨b, o + i.toNat, none⟩)
  | .cref cs o, v => ∃ b q fl, v = .pointer (some ⟨b, q + o, none⟩) ∧ flatI cs = some fl ∧ ∀ j x, fl[j]? = some x → ∃ u, M b (q + j) = some u ∧ IR M x u
  | .slo l o n, v => (pl l = some .nil ∧ o = 0 ∧ n = 0 ∧ ∃ a, v = .slice a 0 0) ∨
      ∃ b q cap esz len a, pl l = some (.arr b q cap esz len) ∧ o + n ≤ len ∧ v = .slice a n (cap - o) ∧ (0 < cap - o → a = some ⟨b, q + o * esz, none⟩)
  | .apt l i j, v => ∃ b q cap esz len, pl l = some (.arr b q cap esz len) ∧ v = .pointer (some ⟨b, q + i * esz + j, none⟩)
  | .fnc f caps, v => ∃ vs : Array Value, v = .func (.func f) #[] vs ∧ CapR pl caps vs.toList
  | .fresh _, v => ∃ a, v = .slice a 0 0
  | .undef, _ => True
def flatL : List LV → Option (List LV)
  | [] => some []
  | .iv (.arr n xs) :: l => if xs.length = n ∧ xs.all plainI then (flatL l).bind fun r => some (xs.map .iv ++ r) else none
  | x :: l => (flatL l).bind fun r => some (x :: r)
def CsR (M : Mem) (pl : Pls) (cs : List LV) (vs : List Value) : Prop :=
  ∃ fl : List LV, flatL cs = some fl ∧ fl.length = vs.length ∧ ∀ (j : Nat) (x : LV) (v : Value), fl[j]? = some x → vs[j]? = some v → LR M pl x v
def PR (M : Mem) (pl : Pls) : Bool × List LV → Value → Prop
  | (true, cs), v => ∃ a : Array Value, v = .agg a ∧ CsR M pl cs a.toList
  | (false, cs), v => ∃ x, cs = [x] ∧ LR M pl x v ∧ (∀ n xs, x ≠ .iv (.arr n xs))
def TR (M : Mem) (pl : Pls) : List (Bool × List LV) → List Value → Prop
  | [], [] => True
  | p :: r, v :: vs => PR M pl p v ∧ TR M pl r vs
  | _, _ => False
def FR (M : Mem) (pl : Pls) : FV → Value → Prop
  | .one x, v => LR M pl x v
  | .agg cs, v => ∃ a : Array Value, v = .agg a ∧ CsR M pl cs a.toList
  | .tup vs, v => ∃ a : Array Value, v = .tuple a ∧ TR M pl vs a.toList
def BR (M : Mem) (pl : Pls) (w : World) : Blk → Pl → Prop
  | .var frz cs, .var b => ∃ (vs : Array Value) (t : TypeId), w.heap[b]? = some (.cells vs t (0, 0)) ∧ CsR M pl cs vs.toList ∧
      ∀ j v, vs[j]? = some v → M b j = (if frz then some v else none)
  | .arr _ _ _ es, .nil => es = []
  | .arr frz _ z es, .arr b q cap esz len => ((z = esz ∨ z = 0 ∧ es = []) ∧ (es.length = 0 → cap = 0)) ∧ es.length = len ∧ ∃ (vs : Array Value) (t : TypeId) (fr : Nat × Nat) (f : Nat → List IV), w.heap[b]? = some (.cells vs t fr) ∧ es.length ≤ cap ∧ 0 < esz ∧
      q + cap * esz ≤ vs.size ∧ (∀ j, (j < cap * esz ∨ esz ≠ 1 ∧ q + j = vs.size) → w.frozen? ⟨b, q + j, none⟩ = false) ∧
      (∀ i cs, es[i]? = some cs → flatI cs = some (f i)) ∧ (∀ i, i < es.length → (f i).length = esz) ∧
      (∀ i j x, i < es.length → (f i)[j]? = some x → ∃ u, vs[q + i * esz + j]? = some u ∧ IR M x u) ∧
      (∀ j, j < cap * esz → M b (q + j) = (if frz = true ∧ j < es.length * esz then vs[q + j]? else none))
  | _, _ => False
structure WR (M : Mem) (pl : Pls) (H : Hp) (w : World) : Prop where
  mem : ∀ b j v, M b j = some v → w.cell? ⟨b, j, none⟩ = some v
  blk : ∀ l b, H l = some b → ∃ p, pl l = some p ∧ BR M pl w b p
  dom : ∀ l p, pl l = some p → ∃ b, H l = some b
  inj : ∀ l l' p p' b, pl l = some p → pl l' = some p' → p.block = some b → p'.block = some b → l = l'
structure Fr (M : Mem) (pl : Pls) (w : World) (M' : Mem) (pl' : Pls) (w' : World) : Prop where
  mem : ∀ b j v, M b j = some v → M' b j = some v
  os : w'.os = w.os
  tape : w'.tape = w.tape
  output : w'.output = w.output
  size : w.heap.size ≤ w'.heap.size
  drawn : w.drawn ≤ w'.drawn
  old : ∀ k, k < w.heap.size → (∀ l p, pl l = some p → p.block ≠ some k) → w'.heap[k]? = w.heap[k]?
  plb : ∀ l p k, pl' l = some p → p.block = some k → w.heap.size ≤ k ∨ ∃ l0 p0, pl l0 = some p0 ∧ p0.block = some k
  new : ∀ b j v, M' b j = some v → M b j = some v ∨ w.heap.size ≤ b ∨ ∃ l p, pl l = some p ∧ p.block = some b
theorem Fr.refl (M : Mem) (pl : Pls) (w : World) : Fr M pl w M pl w :=
  ⟨fun _ _ _ h => h, rfl, rfl, rfl, Nat.le_refl _, Nat.le_refl _, fun _ _ _ => rfl, fun l p _ h h' => .inr ⟨l, p, h, h'⟩, fun _ _ _ h => .inl h⟩
theorem Fr.trans {M M1 M2 : Mem} {pl pl1 pl2 : Pls} {w w1 w2 : World} (h : Fr M pl w M1 pl1 w1) (k : Fr M1 pl1 w1 M2 pl2 w2) : Fr M pl w M2 pl2 w2 where
  mem b j v hm := k.mem b j v (h.mem b j v hm)
  os := k.os.trans h.os
  tape := k.tape.trans h.tape
  output := k.output.trans h.output
  size := Nat.le_trans h.size k.size
  drawn := Nat.le_trans h.drawn k.drawn
  old i hi hn := by
    refine (k.old i (Nat.lt_of_lt_of_le hi h.size) fun l p hp hb => ?_).trans (h.old i hi hn)
    rcases h.plb l p i hp hb with h1 | ⟨l0, p0, h2, h3⟩
    · omega
    · exact hn l0 p0 h2 h3
  plb l p i hp hb := by
    rcases k.plb l p i hp hb with h1 | ⟨l0, p0, h2, h3⟩
    · exact .inl (Nat.le_trans h.size h1)
    · exact h.plb l0 p0 i h2 h3
  new b j v hm := by
    rcases k.new b j v hm with h1 | h1 | ⟨l, p, h2, h3⟩
    · exact h.new b j v h1
    · exact .inr (.inl (Nat.le_trans h.size h1))
    · rcases h.plb l p b h2 h3 with h4 | h4
      · exact .inr (.inl h4)
      · exact .inr (.inr h4)
/-! ### What holds on -/
theorem IR.mono {M M' : Mem} (h : ∀ b j v, M b j = some v → M' b j = some v) {x : IV} {v : Value} (r : IR M x v) : IR M' x v := by
  induction r with
  | int k n => exact .int k n
  | bool b => exact .bool b
  | str s => exact .str s
  | nilp => exact .nilp
  | fn f => exact .fn f
  | niln => exact .niln
  | sl full esz es a c b o f g hc hf ha hz hfl hsz hm hr ih =>
    exact .sl full esz es a c b o f g hc hf ha hz hfl hsz (fun i j x hi hx => h _ _ _ (hm i j x hi hx)) (fun i j x hi hx => ih i j x hi hx)
theorem CapR.mono {pl pl' : Pls} : ∀ {caps : List (Nat × Nat)} {vs : List Value}, (∀ l, l ∈ caps.map (·.1) → ∀ p, pl l = some p → pl' l = some p) → CapR pl caps vs → CapR pl' caps vs
  | [], [], _, _ => trivial
  | (l, o) :: r, v :: vs, h, ⟨⟨b, h1, h2⟩, h3⟩ => ⟨⟨b, h l (by simp) _ h1, h2⟩, CapR.mono (fun l' hl => h l' (by simp at hl ⊢; exact .inr hl)) h3⟩
theorem LR.mono {M M' : Mem} {pl pl' : Pls} (h : ∀ b j v, M b j = some v → M' b j = some v) {x : LV} {v : Value} (hp : ∀ l, l ∈ locL x → ∀ p, pl l = some p → pl' l = some p) (r : LR M pl x v) : LR M' pl' x v := by
  cases x with
  | iv x => exact IR.mono h r
  | ptr l o => obtain ⟨b, h1, h2⟩ := r; exact ⟨b, hp l (by simp [locL]) _ h1, h2⟩
  | pti l o i => obtain ⟨b, h1, h2⟩ := r; exact ⟨b, hp l (by simp [locL]) _ h1, h2⟩
  | cref cs o =>
    obtain ⟨b, q, fl, h1, h2, h3⟩ := r
    exact ⟨b, q, fl, h1, h2, fun j x hx => by obtain ⟨u, hu, hi⟩ := h3 j x hx; exact ⟨u, h _ _ _ hu, IR.mono h hi⟩⟩
  | slo l o n =>
    rcases r with ⟨h1, h2⟩ | ⟨b, q, cap, esz, len, a, h1, h2⟩
    · exact .inl ⟨hp l (by simp [locL]) _ h1, h2⟩
    · exact .inr ⟨b, q, cap, esz, len, a, hp l (by simp [locL]) _ h1, h2⟩
  | apt l i j => obtain ⟨b, q, cap, esz, len, h1, h2⟩ := r; exact ⟨b, q, cap, esz, len, hp l (by simp [locL]) _ h1, h2⟩
  | fnc f caps => obtain ⟨vs, h1, h2⟩ := r; exact ⟨vs, h1, CapR.mono (fun l hl => hp l (by simpa [locL] using hl)) h2⟩
  | fresh _ => exact r
  | undef => trivial
end GoV
/- Cells as they lie flat. -/
namespace GoV
open Go
theorem flatL_arr {n : Nat} {xs : List IV} {l : List LV} {fl : List LV} (h : flatL (.iv (.arr n xs) :: l) = some fl) :
    xs.length = n ∧ xs.all plainI = true ∧ ∃ r, flatL l = some r ∧ fl = xs.map LV.iv ++ r := by
  simp only [flatL] at h
  split at h
  · rename_i hc
    cases hr : flatL l with
    | none => simp [hr] at h
    | some r => simp [hr] at h; exact ⟨hc.1, hc.2, r, rfl, h.symm⟩
  · simp at h
def notArr : LV → Bool
  | .iv (.arr _ _) => false
  | _ => true
theorem flatL_one {x : LV} (hx : notArr x = true) (l : List LV) : flatL (x :: l) = (flatL l).bind fun r => some (x :: r) := by
  cases x with
  | iv x => cases x <;> simp [notArr] at hx <;> rfl
  | _ => rfl
theorem flatL_cons {x : LV} (hx : notArr x = true) {l fl : List LV} (h : flatL (x :: l) = some fl) : ∃ r, flatL l = some r ∧ fl = x :: r := by
  rw [flatL_one hx] at h
  cases hr : flatL l with
  | none => simp [hr] at h
  | some r => simp [hr] at h; exact ⟨r, rfl, h.symm⟩
theorem arr_or (x : LV) : notArr x = true ∨ ∃ n xs, x = .iv (.arr n xs) := by
  cases x with
  | iv x => cases x <;> simp [notArr]
  | _ => simp [notArr]
theorem width_one {x : LV} (hx : notArr x = true) : x.width = 1 := by
  cases x with
  | iv x => cases x <;> simp [notArr] at hx <;> rfl
  | _ => rfl
theorem cut_zero (A : Ar) (cs : List LV) (off : Nat) : cut A cs off 0 = some [] := by cases cs <;> rfl
theorem cut_one {x : LV} (A : Ar) (hx : notArr x = true) (l : List LV) (sz : Nat) : cut A (x :: l) 0 (sz + 1) = (cut A l 0 sz).bind fun r => some (x :: r) := by
  cases x with
  | iv x => cases x <;> simp [notArr] at hx <;> rfl
  | _ => rfl
theorem cut_skip {x : LV} (A : Ar) (hx : notArr x = true) (l : List LV) (off sz : Nat) : cut A (x :: l) (off + 1) (sz + 1) = cut A l off (sz + 1) := by
  cases x with
  | iv x => cases x <;> simp [notArr] at hx <;> rfl
  | _ => rfl
theorem cut_flat : ∀ (cs : List LV) (fl : List LV) (off sz : Nat) (r : List LV), flatL cs = some fl → cut real cs off sz = some r →
    flatL r = some ((fl.drop off).take sz) ∧ (0 < sz → off + sz ≤ fl.length)
  | cs, fl, off, 0, r, _, h => by rw [cut_zero] at h; cases h; simp [flatL]
  | [], fl, off, sz + 1, r, _, h => by simp [cut] at h
  | x :: l, fl, off, sz + 1, r, hf, h => by
    rcases arr_or x with hx | ⟨n, xs, rfl⟩
    · obtain ⟨rl, h1, rfl⟩ := flatL_cons hx hf
      cases off with
      | zero =>
        rw [cut_one _ hx] at h
        cases hc : cut real l 0 sz with
        | none => simp [hc] at h
        | some r' =>
          simp [hc] at h
          subst h
          have ih := cut_flat l rl 0 sz r' h1 hc
          rw [flatL_one hx, ih.1]
          refine ⟨by simp, fun _ => ?_⟩
          rcases Nat.eq_zero_or_pos sz with rfl | hs
          · simp
          · have := ih.2 hs
            simp; omega
      | succ off =>
        rw [cut_skip _ hx] at h
        have ih := cut_flat l rl off (sz + 1) r h1 h
        exact ⟨by simpa using ih.1, fun hs => by have := ih.2 hs; simp; omega⟩
    · obtain ⟨h1, h2, rl, h3, rfl⟩ := flatL_arr hf
      simp only [cut, cond_eq_ite] at h
      split at h
      · rename_i hle
        have hle : n ≤ off := by simpa using hle
        have ih := cut_flat l rl (off - n) (sz + 1) r h3 h
        refine ⟨?_, fun hs => ?_⟩
        · rw [ih.1, List.drop_append, List.drop_eq_nil_of_le (show (xs.map LV.iv).length ≤ off by simp; omega), List.length_map, h1]
          simp
        · have := ih.2 hs
          simp [h1]; omega
      · rename_i hlt
        have hlt : off < n := by simpa using hlt
        split at h
        · rename_i hc
          simp at hc
          obtain ⟨rfl, hn⟩ := hc
          cases hc' : cut real l 0 (sz + 1 - n) with
          | none => simp [hc'] at h
          | some r' =>
            simp [hc'] at h
            subst h
            have ih := cut_flat l rl 0 (sz + 1 - n) r' h3 hc'
            refine ⟨?_, fun hs => ?_⟩
            · simp only [flatL]
              rw [if_pos ⟨h1, h2⟩, ih.1]
              simp [List.take_append, h1, List.take_of_length_le (show xs.length ≤ sz + 1 by omega), ← List.map_take]
            · rcases Nat.eq_zero_or_pos (sz + 1 - n) with h0 | h0
              · simp [h1]; omega
              · have := ih.2 h0
                simp [h1]; omega
        · split at h
          · rename_i hc
            have hc : off + (sz + 1) ≤ n := by simpa using hc
            simp at h
            subst h
            have hlen : ((xs.drop off).take (sz + 1)).length = sz + 1 := by simp [h1]; omega
            refine ⟨?_, fun _ => by simp [h1]; omega⟩
            have hall : ((xs.drop off).take (sz + 1)).all plainI = true := by
              rw [List.all_eq_true] at h2 ⊢
              exact fun z hz => h2 z (List.mem_of_mem_drop (List.mem_of_mem_take hz))
            rw [real_ext]
            simp only [flatL]
            rw [if_pos ⟨hlen, hall⟩]
            simp only [Option.bind_some, List.append_nil]
            rw [List.drop_append_of_le_length (by simp [h1]; omega), List.take_append_of_le_length (by simp [h1]; omega), ← List.map_drop, ← List.map_take]
          · simp at h
theorem cell_flat : ∀ (cs : List LV) (fl : List LV) (off : Nat) (x : LV), flatL cs = some fl → cell real cs off = some x → fl[off]? = some x
  | [], fl, off, x, _, h => by simp [cell] at h
  | y :: l, fl, off, x, hf, h => by
    rcases arr_or y with hy | ⟨n, xs, rfl⟩
    · obtain ⟨r, h1, rfl⟩ := flatL_cons hy hf
      cases off with
      | zero =>
        have : cell real (y :: l) 0 = some y := by
          cases y with
          | iv y => cases y <;> simp [notArr] at hy <;> rfl
          | _ => rfl
        rw [this] at h
        simpa using h
      | succ off =>
        have : cell real (y :: l) (off + 1) = cell real l off := by
          cases y with
          | iv y => cases y <;> simp [notArr] at hy <;> rfl
          | _ => rfl
        rw [this] at h
        simpa using cell_flat l r off x h1 h
    · obtain ⟨h1, h2, r, h3, rfl⟩ := flatL_arr hf
      simp only [cell, cond_eq_ite] at h
      split at h
      · rename_i hle
        have hle : n ≤ off := by simpa using hle
        have ih := cell_flat l r (off - n) x h3 h
        rw [List.getElem?_append_right (by simp [h1]; omega)]
        simpa [h1] using ih
      · rename_i hlt
        have hlt : off < n := by simpa using hlt
        cases hg : real .getc xs (real .ofN off) with
        | none => simp [hg] at h
        | some z =>
          simp [hg] at h
          subst h
          rw [real_getc, real_ofN, if_pos (by omega)] at hg
          rw [List.getElem?_append_left (by simp [h1]; omega)]
          simpa using hg
theorem rowAt_flat : ∀ (cs : List LV) (fl : List LV) (off n : Nat) (xs : List IV), flatL cs = some fl → rowAt cs off = some (n, xs) →
    xs.length = n ∧ xs.all plainI = true ∧ off + n ≤ fl.length ∧ ∀ j x, xs[j]? = some x → fl[off + j]? = some (.iv x)
  | [], fl, off, n, xs, _, h => by simp [rowAt] at h
  | y :: l, fl, off, n, xs, hf, h => by
    rcases arr_or y with hy | ⟨m, ys, rfl⟩
    · obtain ⟨r, h1, rfl⟩ := flatL_cons hy hf
      cases off with
      | zero =>
        have : rowAt (y :: l) 0 = none := by
          cases y with
          | iv y => cases y <;> simp [notArr] at hy <;> rfl
          | _ => rfl
        simp [this] at h
      | succ off =>
        have : rowAt (y :: l) (off + 1) = rowAt l off := by
          cases y with
          | iv y => cases y <;> simp [notArr] at hy <;> rfl
          | _ => rfl
        rw [this] at h
        obtain ⟨a, b, c, d⟩ := rowAt_flat l r off n xs h1 h
        refine ⟨a, b, by simp; omega, fun j x hx => ?_⟩
        have := d j x hx
        rw [show off + 1 + j = (off + j) + 1 by omega]
        simpa using this
    · obtain ⟨h1, h2, r, h3, rfl⟩ := flatL_arr hf
      simp only [rowAt, cond_eq_ite] at h
      split at h
      · rename_i h0
        have h0 : off = 0 := by simpa using h0
        subst h0
        simp at h
        obtain ⟨rfl, rfl⟩ := h
        refine ⟨h1, h2, by simp; omega, fun j x hx => ?_⟩
        have hj : j < ys.length := by
          rcases Nat.lt_or_ge j ys.length with h | h
          · exact h
          · simp [List.getElem?_eq_none h] at hx
        rw [Nat.zero_add, List.getElem?_append_left (by simpa using hj)]
        simp [hx]
      · split at h
        · rename_i _ hle
          have hle : m ≤ off := by simpa using hle
          obtain ⟨a, b, c, d⟩ := rowAt_flat l r (off - m) n xs h3 h
          refine ⟨a, b, by simp [h1]; omega, fun j x hx => ?_⟩
          rw [List.getElem?_append_right (by simp [h1]; omega)]
          have := d j x hx
          rw [show off - m + j = off + j - (ys.map LV.iv).length by simp [h1]; omega] at this
          exact this
        · simp at h
theorem rowSet_flat : ∀ (cs : List LV) (fl : List LV) (off n : Nat) (xs ys : List IV) (cs' : List LV), flatL cs = some fl → rowAt cs off = some (n, xs) → ys.length = n → ys.all plainI = true →
    rowSet cs off ys = some cs' → flatL cs' = some (fl.take off ++ ys.map LV.iv ++ fl.drop (off + n))
  | [], fl, off, n, xs, ys, cs', _, h, _, _, _ => by simp [rowAt] at h
  | y :: l, fl, off, n, xs, ys, cs', hf, h, hl, hp, hs => by
    rcases arr_or y with hy | ⟨m, zs, rfl⟩
    · obtain ⟨r, h1, rfl⟩ := flatL_cons hy hf
      cases off with
      | zero =>
        have : rowAt (y :: l) 0 = none := by
          cases y with
          | iv y => cases y <;> simp [notArr] at hy <;> rfl
          | _ => rfl
        simp [this] at h
      | succ off =>
        have e1 : rowAt (y :: l) (off + 1) = rowAt l off := by
          cases y with
          | iv y => cases y <;> simp [notArr] at hy <;> rfl
          | _ => rfl
        have e2 : rowSet (y :: l) (off + 1) ys = (rowSet l off ys).bind fun r => some (y :: r) := by
          cases y with
          | iv y => cases y <;> simp [notArr] at hy <;> rfl
          | _ => rfl
        rw [e1] at h
        rw [e2] at hs
        cases hr : rowSet l off ys with
        | none => simp [hr] at hs
        | some r' =>
          simp [hr] at hs
          subst hs
          rw [flatL_one hy, rowSet_flat l r off n xs ys r' h1 h hl hp hr]
          simp [show off + 1 + n = (off + n) + 1 by omega]
    · obtain ⟨h1, h2, r, h3, rfl⟩ := flatL_arr hf
      simp only [rowAt, cond_eq_ite] at h
      simp only [rowSet, cond_eq_ite] at hs
      split at h
      · rename_i h0
        rw [if_pos h0] at hs
        have h0 : off = 0 := by simpa using h0
        subst h0
        simp at h hs
        obtain ⟨rfl, rfl⟩ := h
        subst hs
        simp only [flatL]
        rw [if_pos ⟨hl, hp⟩, h3]
        simp [← h1]
      · rename_i h0
        rw [if_neg h0] at hs
        split at h
        · rename_i hle
          rw [if_pos hle] at hs
          have hle : m ≤ off := by simpa using hle
          cases hr : rowSet l (off - m) ys with
          | none => simp [hr] at hs
          | some r' =>
            simp [hr] at hs
            subst hs
            simp only [flatL]
            rw [if_pos ⟨h1, h2⟩, rowSet_flat l r (off - m) n xs ys r' h3 h hl hp hr]
            simp [List.take_append, List.drop_append, h1, ← List.map_take, ← List.map_drop, List.take_of_length_le (show zs.length ≤ off by omega),
              List.drop_eq_nil_of_le (show zs.length ≤ off + n by omega), show off - m + n = off + n - m by omega]
        · simp at h
theorem flatL_width {x : LV} {l fl : List LV} (h : flatL (x :: l) = some fl) : ∃ a r, flatL l = some r ∧ fl = a ++ r ∧ a.length = x.width ∧ flatL [x] = some a := by
  rcases arr_or x with hx | ⟨n, xs, rfl⟩
  · obtain ⟨r, h1, rfl⟩ := flatL_cons hx h
    exact ⟨[x], r, h1, rfl, by rw [width_one hx]; rfl, by rw [flatL_one hx]; rfl⟩
  · obtain ⟨h1, h2, r, h3, rfl⟩ := flatL_arr h
    exact ⟨xs.map LV.iv, r, h3, rfl, by simp [LV.width, h1], by simp [flatL, h1, List.all_eq_true] at h2 ⊢; exact h2⟩
theorem flatL_cat {x : LV} {a l r : List LV} (h1 : flatL [x] = some a) (h2 : flatL l = some r) : flatL (x :: l) = some (a ++ r) := by
  rcases arr_or x with hx | ⟨n, xs, rfl⟩
  · rw [flatL_one hx] at h1 ⊢
    simp [flatL] at h1
    subst h1
    simp [h2]
  · obtain ⟨h3, h4, r', h5, rfl⟩ := flatL_arr h1
    simp [flatL] at h5
    subst h5
    simp only [flatL]
    rw [if_pos ⟨h3, h4⟩, h2]
    simp
theorem lay_flat : ∀ (cs : List LV) (fl : List LV) (off : Nat) (ys gl cs' : List LV), flatL cs = some fl → flatL ys = some gl → lay cs off ys = some cs' →
    flatL cs' = some (fl.take off ++ gl ++ fl.drop (off + gl.length)) ∧ off + gl.length ≤ fl.length
  | cs, fl, 0, [], gl, cs', hf, hg, h => by
    simp [flatL] at hg; subst hg
    have : lay cs 0 [] = some cs := by cases cs <;> rfl
    rw [this] at h; cases h
    simp [hf]
  | [], fl, 0, y :: ys, gl, cs', hf, hg, h => by simp [lay] at h
  | [], fl, off + 1, ys, gl, cs', hf, hg, h => by cases ys <;> simp [lay] at h
  | x :: l, fl, 0, y :: ys, gl, cs', hf, hg, h => by
    simp only [lay, cond_eq_ite] at h
    split at h
    · rename_i hw
      have hw : x.width = y.width := by simpa using hw
      cases hr : lay l 0 ys with
      | none => simp [hr] at h
      | some r' =>
        simp [hr] at h
        subst h
        obtain ⟨a, r, h1, rfl, ha, _⟩ := flatL_width hf
        obtain ⟨b, s, h2, rfl, hb, hb'⟩ := flatL_width hg
        obtain ⟨ih, il⟩ := lay_flat l r 0 ys s r' h1 h2 hr
        rw [flatL_cat hb' ih]
        refine ⟨?_, by simp at il ⊢; omega⟩
        simp [List.drop_append, show b.length + s.length - a.length = s.length by omega, List.drop_eq_nil_of_le (show a.length ≤ b.length + s.length by omega)]
    · simp at h
  | x :: l, fl, off + 1, ys, gl, cs', hf, hg, h => by
    have e : lay (x :: l) (off + 1) ys = bif Nat.ble x.width (off + 1) then (lay l (Nat.sub (off + 1) x.width) ys).bind fun r => some (x :: r) else none := by cases ys <;> rfl
    rw [e] at h
    simp only [cond_eq_ite] at h
    split at h
    · rename_i hw
      have hw : x.width ≤ off + 1 := by simpa using hw
      cases hr : lay l (off + 1 - x.width) ys with
      | none => simp [hr] at h
      | some r' =>
        simp [hr] at h
        subst h
        obtain ⟨a, r, h1, rfl, ha, ha'⟩ := flatL_width hf
        obtain ⟨ih, il⟩ := lay_flat l r (off + 1 - x.width) ys gl r' h1 hg hr
        rw [flatL_cat ha' ih]
        refine ⟨?_, by simp at il ⊢; omega⟩
        simp [List.take_append, List.drop_append, List.take_of_length_le (show a.length ≤ off + 1 by omega), List.drop_eq_nil_of_le (show a.length ≤ off + 1 + gl.length by omega), ha,
          show off + 1 + gl.length - x.width = off + 1 - x.width + gl.length by omega]
    · simp at h
end GoV
/- Cells related to what they hold; loads. -/
set_option linter.unusedSimpArgs false
set_option linter.unusedVariables false
namespace GoV
open Go
theorem addr_add (b o n : Nat) : (⟨b, o, none⟩ : Addr).add n = ⟨b, o + n, none⟩ := by unfold Addr.add; split <;> simp_all
theorem cell_of_heap {w : World} {b : Nat} {vs : Array Value} {t : TypeId} {fr : Nat × Nat} (h : w.heap[b]? = some (.cells vs t fr)) (j : Nat) : w.cell? ⟨b, j, none⟩ = vs[j]? := by
  simp [World.cell?, h]
theorem IR.one {M : Mem} {x : IV} {v : Value} (h : IR M x v) : v.oneCell' = true ∧ plainI x = true := by cases h <;> simp [Value.oneCell', plainI]
theorem LR.one {M : Mem} {pl : Pls} {x : LV} {v : Value} (h : LR M pl x v) (hs : solid [x] = true) : v.oneCell' = true ∧ notArr x = true := by
  cases x with
  | iv x => exact ⟨(IR.one h).1, by have := (IR.one h).2; cases x <;> simp [plainI] at this <;> rfl⟩
  | ptr l o => obtain ⟨b, _, rfl⟩ := h; exact ⟨rfl, rfl⟩
  | pti l o i => obtain ⟨b, _, _, rfl⟩ := h; exact ⟨rfl, rfl⟩
  | cref cs o => obtain ⟨b, q, fl, rfl, _⟩ := h; exact ⟨rfl, rfl⟩
  | slo l o n =>
    rcases h with ⟨_, _, _, _, rfl⟩ | ⟨b, q, cap, esz, len, a, _, _, rfl, _⟩
    · exact ⟨rfl, rfl⟩
    · exact ⟨rfl, rfl⟩
  | apt l i j => obtain ⟨b, q, cap, esz, len, _, rfl⟩ := h; exact ⟨rfl, rfl⟩
  | fnc f caps => obtain ⟨vs, rfl, _⟩ := h; exact ⟨rfl, rfl⟩
  | fresh z => simp [solid] at hs
  | undef => simp [solid] at hs
theorem LR.na {M : Mem} {pl : Pls} {x : LV} {v : Value} (h : LR M pl x v) : notArr x = true := by
  cases x with
  | iv x => have := (IR.one h).2; cases x <;> simp [plainI] at this <;> rfl
  | _ => rfl
theorem cells_of_one {v : Value} (h : v.oneCell' = true) : v.cells = #[v] := by cases v <;> simp [Value.oneCell'] at h <;> rfl
theorem CsR.single {M : Mem} {pl : Pls} {x : LV} {v : Value} (h : LR M pl x v) : CsR M pl [x] [v] :=
  ⟨[x], by rw [flatL_one (LR.na h)]; rfl, rfl, fun j y u hy hu => by
    cases j with
    | zero => simp at hy hu; subst hy; subst hu; exact h
    | succ j => simp at hy⟩
theorem CsR.length {M : Mem} {pl : Pls} {cs : List LV} {vs : List Value} (h : CsR M pl cs vs) {fl : List LV} (hf : flatL cs = some fl) : fl.length = vs.length := by
  obtain ⟨fl', h1, h2, _⟩ := h
  rw [h1] at hf; cases hf; exact h2
theorem flatL_len : ∀ {cs fl : List LV}, flatL cs = some fl → fl.length = widths cs
  | [], fl, h => by simp [flatL] at h; subst h; rfl
  | x :: l, fl, h => by
    obtain ⟨a, r, h1, rfl, ha, _⟩ := flatL_width h
    have := flatL_len h1
    simp only [List.length_append, ha, this]
    rfl
theorem CsR.cut {M : Mem} {pl : Pls} {cs : List LV} {vs : List Value} (h : CsR M pl cs vs) {off sz : Nat} {r : List LV} (hc : cut real cs off sz = some r) :
    CsR M pl r ((vs.drop off).take sz) ∧ (0 < sz → off + sz ≤ vs.length) := by
  obtain ⟨fl, h1, h2, h3⟩ := h
  obtain ⟨h4, h5⟩ := cut_flat cs fl off sz r h1 hc
  refine ⟨⟨_, h4, by simp [h2], fun j x v hx hv => ?_⟩, fun hs => h2 ▸ h5 hs⟩
  rw [List.getElem?_take] at hx hv
  split at hx
  · rename_i hj
    rw [if_pos hj] at hv
    rw [List.getElem?_drop] at hx hv
    exact h3 _ _ _ hx hv
  · simp at hx
theorem CsR.cell {M : Mem} {pl : Pls} {cs : List LV} {vs : List Value} (h : CsR M pl cs vs) {off : Nat} {x : LV} (hc : cell real cs off = some x) :
    ∃ v, vs[off]? = some v ∧ LR M pl x v := by
  obtain ⟨fl, h1, h2, h3⟩ := h
  have hx := cell_flat cs fl off x h1 hc
  have hl : off < vs.length := by
    rcases Nat.lt_or_ge off fl.length with h | h
    · omega
    · simp [List.getElem?_eq_none h] at hx
  exact ⟨vs[off], by simp, h3 _ _ _ hx (by simp)⟩
theorem CsR.row {M : Mem} {pl : Pls} {cs : List LV} {vs : List Value} (h : CsR M pl cs vs) {off n : Nat} {xs : List IV} (hc : rowAt cs off = some (n, xs)) :
    xs.length = n ∧ off + n ≤ vs.length ∧ ∀ j x, xs[j]? = some x → ∃ v, vs[off + j]? = some v ∧ IR M x v := by
  obtain ⟨fl, h1, h2, h3⟩ := h
  obtain ⟨a, b, c, d⟩ := rowAt_flat cs fl off n xs h1 hc
  refine ⟨a, by omega, fun j x hx => ?_⟩
  have hf := d j x hx
  have hl : off + j < vs.length := by
    rcases Nat.lt_or_ge (off + j) fl.length with h | h
    · omega
    · simp [List.getElem?_eq_none h] at hf
  exact ⟨vs[off + j], by simp, h3 _ _ _ hf (by simp)⟩
theorem CsR.mono {M M' : Mem} {pl pl' : Pls} (h : ∀ b j v, M b j = some v → M' b j = some v) (hp : ∀ l p, pl l = some p → pl' l = some p) {cs : List LV} {vs : List Value} (r : CsR M pl cs vs) : CsR M' pl' cs vs := by
  obtain ⟨fl, h1, h2, h3⟩ := r
  exact ⟨fl, h1, h2, fun j x v hx hv => LR.mono h (fun l _ p hl => hp l p hl) (h3 j x v hx hv)⟩
theorem cellsOf_CsR {M : Mem} {pl : Pls} {x : FV} {v : Value} {c : List LV} (h : FR M pl x v) (hc : cellsOf x = some c) : CsR M pl c v.cells.toList ∧ (∀ u, u ∈ v.cells.toList → u.oneCell' = true) := by
  cases x with
  | one x =>
    simp only [cellsOf, cond_eq_ite] at hc
    split at hc
    · rename_i hs
      cases hc
      have h1 := LR.one h hs
      rw [cells_of_one h1.1]
      exact ⟨CsR.single h, by simp [h1.1]⟩
    · simp at hc
  | agg cs =>
    simp only [cellsOf, cond_eq_ite] at hc
    split at hc
    · rename_i hs
      cases hc
      obtain ⟨a, rfl, ha⟩ := h
      refine ⟨ha, fun u hu => ?_⟩
      obtain ⟨fl, h1, h2, h3⟩ := ha
      obtain ⟨j, hj, he⟩ := List.getElem_of_mem (show u ∈ a.toList from hu)
      have hfj : fl[j]? = some fl[j] := List.getElem?_eq_getElem (by omega)
      have hr := h3 j _ u hfj (by rw [List.getElem?_eq_getElem hj, he])
      have hsol : ∀ {cs fl : List LV}, flatL cs = some fl → solid cs = true → ∀ y, y ∈ fl → solid [y] = true := by
        intro cs
        induction cs with
        | nil => intro fl hf _ y hy; simp [flatL] at hf; subst hf; simp at hy
        | cons z r ih =>
          intro fl hf hs y hy
          obtain ⟨p, q, h4, rfl, _, h5⟩ := flatL_width hf
          have hs2 : solid [z] = true ∧ solid r = true := by cases z <;> simp [solid] at hs ⊢ <;> exact hs
          rcases List.mem_append.1 hy with hy | hy
          · rcases arr_or z with hz | ⟨n, xs, rfl⟩
            · rw [flatL_one hz] at h5
              simp [flatL] at h5
              subst h5
              simp at hy; subst hy; exact hs2.1
            · obtain ⟨e1, e2, r', e3, rfl⟩ := flatL_arr h5
              simp [flatL] at e3
              subst e3
              simp at hy
              obtain ⟨i, _, rfl⟩ := hy
              rfl
          · exact ih h4 hs2.2 y hy
      exact (LR.one hr (hsol h1 hs _ (List.getElem_mem _))).1
    · simp at hc
  | tup vs => simp [cellsOf] at hc
/-! ### Loads -/
variable {P : Program}
theorem run_info {t : TypeId} {i : TypeInfo} (h : P.info? t = some i) (w : World) : (typeInfo t).run P w = .ok i w := by simp [typeInfo, h]
theorem run_under {t : TypeId} {d : TypeDesc} (h : P.underlying t = some d) (w : World) : (underlying t).run P w = .ok d w := by simp [underlying, h]
def aggD : TypeDesc → Bool
  | .struct _ | .array _ _ => true
  | _ => false
theorem run_isAgg {t : TypeId} {d : TypeDesc} (h : P.underlying t = some d) (w : World) : (isAgg t).run P w = .ok (aggD d) w := by
  simp [isAgg, run_under h]
  cases d <;> rfl
theorem run_sizeOf {t : TypeId} {i : TypeInfo} (h : P.info? t = some i) (w : World) : (Go.sizeOf t).run P w = Result.ok i.size w := by simp [Go.sizeOf, run_info h]
theorem run_loadVar_agg {t : TypeId} {d : TypeDesc} {i : TypeInfo} (hu : P.underlying t = some d) (ha : aggD d = true) (hi : P.info? t = some i) (w : World) (b o : Nat) (cs : List Value) (hl : cs.length = i.size)
    (hc : ∀ j v, cs[j]? = some v → w.cell? ⟨b, o + j, none⟩ = some v) : (loadVar t ⟨b, o, none⟩).run P w = .ok (.agg cs.toArray) w := by
  simp only [loadVar, Sem.run_bind, run_isAgg hu, ha, Result.andThen_ok, run_sizeOf hi, ← hl, if_true]
  rw [run_loadCells_list w ⟨b, o, none⟩ cs (fun j v hv => by rw [addr_add]; exact hc j v hv)]
  simp
theorem run_loadVar_one {t : TypeId} {d : TypeDesc} (hu : P.underlying t = some d) (ha : aggD d = false) (w : World) (b o : Nat) (v : Value) (hc : w.cell? ⟨b, o, none⟩ = some v) : (loadVar t ⟨b, o, none⟩).run P w = .ok v w := by
  simp [loadVar, run_isAgg hu, ha, hc]
theorem getN_lt {es : List (List IV)} {i : Nat} {x : List IV} (h : es[i]? = some x) : i < es.length := by
  rcases Nat.lt_or_ge i es.length with h' | h'
  · exact h'
  · simp [List.getElem?_eq_none h'] at h
theorem flatL_lift : ∀ {cs fl : List IV}, flatI cs = some fl → flatL (liftI cs) = some (fl.map .iv)
  | [], fl, h => by simp [flatI] at h; subst h; rfl
  | x :: l, fl, h => by
    cases x with
    | arr n xs =>
      simp only [flatI] at h
      split at h
      · rename_i hc
        cases hr : flatI l with
        | none => simp [hr] at h
        | some r =>
          simp [hr] at h
          subst h
          simp only [liftI, flatL]
          rw [if_pos hc, flatL_lift hr]
          simp
      · simp at h
    | _ =>
      simp only [flatI] at h
      cases hr : flatI l with
      | none => simp [hr] at h
      | some r =>
        simp [hr] at h
        subst h
        simp only [liftI, flatL]
        rw [flatL_lift hr]
        simp
theorem loadC_run {M : Mem} {pl : Pls} {w : World} {b q : Nat} {cs : List LV} {vs : List Value} (hcs : CsR M pl cs vs) (hc : ∀ j v, vs[j]? = some v → w.cell? ⟨b, q + j, none⟩ = some v)
    {t : TypeId} {d : TypeDesc} {i : TypeInfo} {ag : Bool} {sz o : Nat} (hu : P.underlying t = some d) (ha : aggD d = ag) (hi : P.info? t = some i) (hs : i.size = sz) (hp : 0 < sz) {ef : Eff}
    (h : loadC real ag sz cs o = some ef) : ∃ r, (loadVar t ⟨b, q + o, none⟩).run P w = .ok r w ∧ FR M pl ef.v r ∧ ef.ups = [] ∧ ef.kills = [] := by
  cases ag with
  | true =>
    simp only [loadC, cond_true] at h
    cases hcut : cut real cs o sz with
    | none => simp [hcut] at h
    | some r =>
      simp [hcut, just] at h
      subst h
      obtain ⟨h1, h2⟩ := hcs.cut hcut
      have h2 := h2 hp
      refine ⟨_, run_loadVar_agg hu ha hi w b (q + o) ((vs.drop o).take sz) (by simp [hs]; omega) (fun j v hv => ?_), ⟨_, rfl, by simpa using h1⟩, rfl, rfl⟩
      rw [List.getElem?_take] at hv
      split at hv
      · rw [List.getElem?_drop] at hv
        rw [Nat.add_assoc]
        exact hc _ _ hv
      · simp at hv
  | false =>
    simp only [loadC, cond_false] at h
    cases hcell : cell real cs o with
    | none => simp [hcell] at h
    | some x =>
      simp [hcell, one] at h
      subst h
      obtain ⟨v, h1, h2⟩ := hcs.cell hcell
      exact ⟨v, run_loadVar_one hu ha w b (q + o) v (hc _ _ h1), h2, rfl, rfl⟩
theorem load_run {M : Mem} {pl : Pls} {H : Hp} {w : World} (hw : WR M pl H w) {t : TypeId} {d : TypeDesc} {i : TypeInfo} {ag : Bool} {sz : Nat} (hu : P.underlying t = some d) (ha : aggD d = ag) (hi : P.info? t = some i) (hs : i.size = sz) (hp : 0 < sz)
    {x : FV} {v : Value} (hv : FR M pl x v) {ef : Eff} (h : loadV real H ag sz x = some ef) :
    ∃ r, (Instr.loadAt t v).run P w = .ok r w ∧ FR M pl ef.v r ∧ ef.ups = [] ∧ ef.kills = [] := by
  cases x with
  | agg cs => simp [loadV] at h
  | tup vs => simp [loadV] at h
  | one x =>
    cases x with
    | ptr l o =>
      obtain ⟨b, hb, rfl⟩ := hv
      simp only [loadV] at h
      cases hH : H l with
      | none => simp [hH] at h
      | some B =>
        cases B with
        | arr _ _ _ _ => simp [hH] at h
        | var f cs =>
          simp only [hH] at h
          obtain ⟨p, hp', hB⟩ := hw.blk l _ hH
          rw [hb] at hp'; cases hp'
          obtain ⟨vs, t', h1, h2, h3⟩ := hB
          obtain ⟨r, hr⟩ := loadC_run (b := b) (q := 0) h2 (fun j v hj => by rw [Nat.zero_add, cell_of_heap h1]; simpa using hj) hu ha hi hs hp h
          rw [Nat.zero_add] at hr
          exact ⟨r, by simp [Instr.loadAt, Instr.sureAddr, hr.1], hr.2⟩
    | pti l o i' =>
      obtain ⟨b, hb, h0, rfl⟩ := hv
      simp only [loadV] at h
      cases hH : H l with
      | none => simp [hH] at h
      | some B =>
        cases B with
        | arr _ _ _ _ => simp [hH] at h
        | var f cs =>
          cases ag with
          | true => simp [hH] at h
          | false =>
            simp only [hH, cond_false] at h
            obtain ⟨p, hp', hB⟩ := hw.blk l _ hH
            rw [hb] at hp'; cases hp'
            obtain ⟨vs, t', h1, h2, h3⟩ := hB
            cases hr : rowAt cs o with
            | none => simp [hr] at h
            | some nx =>
              obtain ⟨n, xs⟩ := nx
              simp only [hr, Option.bind_some, real_getc, if_pos h0] at h
              cases hg : xs[i'.toNat]? with
              | none => simp [hg] at h
              | some y =>
                simp [hg, one] at h
                subst h
                obtain ⟨_, _, h4⟩ := h2.row hr
                obtain ⟨u, hu1, hu2⟩ := h4 _ _ hg
                refine ⟨u, ?_, hu2, rfl, rfl⟩
                simp only [Instr.loadAt, Instr.sureAddr, Sem.run_bind, Sem.run_pure, Result.andThen_ok]
                exact run_loadVar_one hu ha w b _ u (by rw [cell_of_heap h1]; simpa using hu1)
    | cref cs o =>
      obtain ⟨b, q, fl, rfl, h1, h2⟩ := hv
      simp only [loadV] at h
      have hlen : ∀ j, j < fl.length → ∃ u, M b (q + j) = some u := fun j hj => by
        obtain ⟨u, hu⟩ := h2 j fl[j] (by simp [hj])
        exact ⟨u, hu.1⟩
      let vs : List Value := (List.range fl.length).map fun j => (M b (q + j)).getD undef
      have hvs : ∀ j v, vs[j]? = some v → M b (q + j) = some v := by
        intro j v hj
        simp only [vs, List.getElem?_map] at hj
        cases hr : (List.range fl.length)[j]? with
        | none => simp [hr] at hj
        | some k =>
          rw [List.getElem?_range] at hr
          · simp at hr
            subst hr
            have hjl : j < fl.length := by
              rcases Nat.lt_or_ge j fl.length with h' | h'
              · exact h'
              · simp [List.getElem?_eq_none (show (List.range fl.length).length ≤ j by simpa using h')] at hj
            obtain ⟨u, hu⟩ := hlen j hjl
            simp [hjl, hu] at hj
            rw [hu, hj]
          · rcases Nat.lt_or_ge j fl.length with h' | h'
            · exact h'
            · simp [List.getElem?_eq_none (show (List.range fl.length).length ≤ j by simpa using h')] at hr
      have hcs : CsR M pl (liftI cs) vs := by
        refine ⟨_, flatL_lift h1, by simp [vs], fun j x v hx hv => ?_⟩
        simp only [List.getElem?_map] at hx
        cases hf : fl[j]? with
        | none => simp [hf] at hx
        | some y =>
          simp [hf] at hx
          subst hx
          obtain ⟨u, hu, hr⟩ := h2 j y hf
          have := hvs j v hv
          rw [hu] at this; cases this
          exact hr
      obtain ⟨r, hr⟩ := loadC_run (b := b) (q := q) hcs (fun j v hj => hw.mem _ _ _ (hvs j v hj)) hu ha hi hs hp h
      exact ⟨r, by simp [Instr.loadAt, Instr.sureAddr, hr.1], hr.2⟩
    | apt l i' j' =>
      obtain ⟨b, q, cap, esz, len, hb, rfl⟩ := hv
      simp only [loadV] at h
      cases hH : H l with
      | none => simp [hH] at h
      | some B =>
        cases B with
        | var _ _ => simp [hH] at h
        | arr frz g z es =>
          simp only [hH, real_getN] at h
          obtain ⟨p, hp', hB⟩ := hw.blk l _ hH
          rw [hb] at hp'; cases hp'
          obtain ⟨_, _, vs, t', fr, f, h1, h2, h3, h4, h5, h6, h7, h8, h9⟩ := hB
          cases hg : es[i']? with
          | none => simp [hg] at h
          | some x =>
            simp only [hg, Option.bind_some] at h
            have hil := getN_lt hg
            have hfl := h6 _ _ hg
            have hcs : CsR M pl (liftI x) ((vs.toList.drop (q + i' * esz)).take esz) := by
              have hb1 : q + i' * esz + esz ≤ vs.size := by
                have : (i' + 1) * esz ≤ cap * esz := Nat.mul_le_mul_right _ (by omega)
                rw [Nat.add_mul] at this; omega
              refine ⟨_, flatL_lift hfl, by simp [h7 _ hil]; omega, fun j y v hy hv => ?_⟩
              simp only [List.getElem?_map] at hy
              cases hf : (f i')[j]? with
              | none => simp [hf] at hy
              | some y' =>
                simp [hf] at hy
                subst hy
                obtain ⟨u, hu, hr⟩ := h8 i' j y' hil hf
                rw [List.getElem?_take] at hv
                split at hv
                · rw [List.getElem?_drop] at hv
                  have : vs[q + i' * esz + j]? = some v := by simpa using hv
                  rw [hu] at this; cases this
                  exact hr
                · simp at hv
            obtain ⟨r, hr⟩ := loadC_run (b := b) (q := q + i' * esz) hcs (fun j v hj => by
              rw [List.getElem?_take] at hj
              split at hj
              · rw [List.getElem?_drop] at hj
                rw [cell_of_heap h1]
                simpa using hj
              · simp at hj) hu ha hi hs hp h
            exact ⟨r, by simp [Instr.loadAt, Instr.sureAddr, hr.1], hr.2⟩
    | iv x => simp [loadV] at h
    | slo _ _ _ => simp [loadV] at h
    | fnc _ _ => simp [loadV] at h
    | fresh _ => simp [loadV] at h
    | undef => simp [loadV] at h
end GoV
/- Changes of the heap. -/
set_option linter.unusedSimpArgs false
set_option linter.unusedVariables false
namespace GoV
open Go
def upd {α : Type} (f : Nat → Option α) (l : Nat) (a : α) : Nat → Option α := fun x => if x = l then some a else f x
theorem upd_same {α : Type} (f : Nat → Option α) (l : Nat) (a : α) : upd f l a l = some a := by simp [upd]
theorem upd_other {α : Type} (f : Nat → Option α) {l x : Nat} (a : α) (h : x ≠ l) : upd f l a x = f x := by simp [upd, h]
def upF : Hp → List (Nat × Blk) → Hp
  | H, [] => H
  | H, (l, b) :: r => upF (upd H l b) r
def killBs : List Nat → Blk → Blk
  | [], b => b
  | l :: r, b => killBs r (killB l b)
def killFs : List Nat → FV → FV
  | [], b => b
  | l :: r, b => killFs r (killF l b)
def apF (ef : Eff) (H : Hp) : Hp := upF (fun l => (H l).map (killBs ef.kills)) ef.ups
structure Done (M : Mem) (pl : Pls) (H : Hp) (w : World) (ef : Eff) (r : Value) (M' : Mem) (pl' : Pls) (w' : World) : Prop where
  fr : Fr M pl w M' pl' w'
  wr : WR M' pl' (apF ef H) w'
  val : FR M' pl' ef.v r
  pls : ∀ l p, pl l = some p → hasN ef.kills l = false → pl' l = some p
  grown : ∀ l p, pl l = some p → pl' l = some p ∨ ∃ f z es, apF ef H l = some (.arr f true z es)
  kept : ∀ l f z es, H l = some (.arr f true z es) → ∃ f' z' es', apF ef H l = some (.arr f' true z' es')
theorem apF_pure (v : FV) (H : Hp) : apF ⟨v, [], []⟩ H = H := by funext l; simp [apF, upF]; cases H l <;> rfl
theorem apF_ups (v : FV) (ups : List (Nat × Blk)) (H : Hp) : apF ⟨v, ups, []⟩ H = upF H ups := by
  have : (fun l => (H l).map (killBs [])) = H := by funext l; cases H l <;> rfl
  simp [apF, this]
theorem Done.pure {M : Mem} {pl : Pls} {H : Hp} {w : World} (hw : WR M pl H w) {ef : Eff} {r : Value} (hv : FR M pl ef.v r) (h1 : ef.ups = []) (h2 : ef.kills = []) : Done M pl H w ef r M pl w := by
  obtain ⟨v, ups, kills⟩ := ef
  simp at h1 h2
  subst h1; subst h2
  exact ⟨Fr.refl _ _ _, by rw [apF_pure]; exact hw, hv, fun _ _ h _ => h, fun _ _ h => .inl h, fun l f z es h => ⟨f, z, es, by rw [apF_pure]; exact h⟩⟩
theorem Done.grow {M M' : Mem} {pl : Pls} {H : Hp} {w w' : World} (hf : Fr M pl w M' pl w') (hw : WR M' pl H w') {v : FV} {r : Value} (hv : FR M' pl v r) : Done M pl H w ⟨v, [], []⟩ r M' pl w' :=
  ⟨hf, by rw [apF_pure]; exact hw, hv, fun _ _ h _ => h, fun _ _ h => .inl h, fun l f z es h => ⟨f, z, es, by rw [apF_pure]; exact h⟩⟩
/-! ### Blocks stay as they are -/
theorem BR.keep {M M' : Mem} {pl pl' : Pls} {w w' : World} {B : Blk} {p : Pl} (h : BR M pl w B p) (hm : ∀ b j v, M b j = some v → M' b j = some v)
    (hp : ∀ l p, pl l = some p → pl' l = some p) (hh : ∀ k, p.block = some k → w'.heap[k]? = w.heap[k]?) (hk : ∀ k, p.block = some k → ∀ j, M' k j = M k j) : BR M' pl' w' B p := by
  cases B with
  | var f cs =>
    cases p with
    | var b =>
      obtain ⟨vs, t, h1, h2, h3⟩ := h
      exact ⟨vs, t, by rw [hh b rfl]; exact h1, h2.mono hm hp, fun j v hv => by rw [hk b rfl]; exact h3 j v hv⟩
    | arr _ _ _ _ _ => exact h.elim
    | nil => exact h.elim
  | arr f g z es =>
    cases p with
    | var b => exact h.elim
    | nil => exact h
    | arr b q cap esz len =>
      obtain ⟨h0, h0', vs, t, fr, f', h1, h2, h3, h4, h5, h6, h7, h8, h9⟩ := h
      refine ⟨h0, h0', vs, t, fr, f', by rw [hh b rfl]; exact h1, h2, h3, h4, fun j hj => ?_, h6, h7, fun i j x hi hx => ?_, fun j hj => ?_⟩
      · have := h5 j hj
        simp only [World.frozen?, hh b rfl] at this ⊢
        exact this
      · obtain ⟨u, hu, hr⟩ := h8 i j x hi hx
        exact ⟨u, hu, hr.mono hm⟩
      · rw [hk b rfl]; exact h9 j hj
theorem WR.block_lt {M : Mem} {pl : Pls} {H : Hp} {w : World} (hw : WR M pl H w) {l : Nat} {p : Pl} {k : Nat} (h : pl l = some p) (hk : p.block = some k) : k < w.heap.size := by
  obtain ⟨B, hB⟩ := hw.dom l p h
  obtain ⟨p', h1, h2⟩ := hw.blk l B hB
  rw [h] at h1; cases h1
  have key : ∀ {x : Option Obj}, w.heap[k]? = x → x ≠ none → k < w.heap.size := by
    intro x hx hn
    rcases Nat.lt_or_ge k w.heap.size with h' | h'
    · exact h'
    · rw [Array.getElem?_eq_none h'] at hx; exact absurd hx.symm hn
  cases p with
  | nil => simp [Pl.block] at hk
  | var b =>
    simp [Pl.block] at hk; subst hk
    cases B with
    | var f cs => obtain ⟨vs, t, h1, _⟩ := h2; exact key h1 (by simp)
    | arr _ _ _ _ => exact h2.elim
  | arr b q cap esz len =>
    simp [Pl.block] at hk; subst hk
    cases B with
    | var f cs => exact h2.elim
    | arr _ _ _ _ => obtain ⟨_, _, vs, t, fr, f', h1, _⟩ := h2; exact key h1 (by simp)
theorem WR.mem_lt {M : Mem} {pl : Pls} {H : Hp} {w : World} (hw : WR M pl H w) {b j : Nat} {v : Value} (h : M b j = some v) : b < w.heap.size :=
  World.block_lt_of_cell? w ⟨b, j, none⟩ (hw.mem b j v h)
theorem WR.none_of {M : Mem} {pl : Pls} {H : Hp} {w : World} (hw : WR M pl H w) {l : Nat} (h : H l = none) : pl l = none := by
  cases hp : pl l with
  | none => rfl
  | some p => obtain ⟨b, hb⟩ := hw.dom l p hp; rw [h] at hb; cases hb
theorem WR.addNil {M : Mem} {pl : Pls} {H : Hp} {w : World} (hw : WR M pl H w) {n : Nat} (hn : H n = none) (z : Nat) :
    WR M (upd pl n .nil) (upd H n (.arr false false z [])) w ∧ Fr M pl w M (upd pl n .nil) w ∧ ∀ l p, pl l = some p → upd pl n .nil l = some p := by
  have hpn := hw.none_of hn
  have inc : ∀ l p, pl l = some p → upd pl n .nil l = some p := fun l p h => by
    by_cases e : l = n
    · subst e; rw [hpn] at h; cases h
    · rw [upd_other _ _ e]; exact h
  refine ⟨⟨hw.mem, fun l b hb => ?_, fun l p hp => ?_, fun l l' p p' b h1 h2 h3 h4 => ?_⟩, ⟨fun _ _ _ h => h, rfl, rfl, rfl, Nat.le_refl _, Nat.le_refl _, fun _ _ _ => rfl, fun l p k h1 h2 => ?_, fun _ _ _ h => .inl h⟩, inc⟩
  · by_cases e : l = n
    · subst e; rw [upd_same] at hb; cases hb; exact ⟨.nil, upd_same _ _ _, rfl⟩
    · rw [upd_other _ _ e] at hb
      obtain ⟨p, hp, hB⟩ := hw.blk l b hb
      exact ⟨p, inc _ _ hp, hB.keep (fun _ _ _ h => h) inc (fun _ _ => rfl) (fun _ _ _ => rfl)⟩
  · by_cases e : l = n
    · subst e; exact ⟨_, upd_same _ _ _⟩
    · rw [upd_other _ _ e] at hp ⊢; exact hw.dom l p hp
  · by_cases e : l = n
    · subst e; rw [upd_same] at h1; cases h1; simp [Pl.block] at h3
    · by_cases e' : l' = n
      · subst e'; rw [upd_same] at h2; cases h2; simp [Pl.block] at h4
      · rw [upd_other _ _ e] at h1; rw [upd_other _ _ e'] at h2; exact hw.inj _ _ _ _ _ h1 h2 h3 h4
  · by_cases e : l = n
    · subst e; rw [upd_same] at h1; cases h1; simp [Pl.block] at h2
    · rw [upd_other _ _ e] at h1; exact .inr ⟨l, p, h1, h2⟩
theorem heap_push {w : World} {o : Obj} {k : Nat} (h : k < w.heap.size) : (w.alloc o).heap[k]? = w.heap[k]? := by
  show (w.heap.push o)[k]? = _
  rw [Array.getElem?_push, if_neg (by omega)]
theorem heap_new {w : World} {o : Obj} : (w.alloc o).heap[w.heap.size]? = some o := by
  show (w.heap.push o)[w.heap.size]? = _
  simp
structure Ext (w w' : World) : Prop where
  os : w'.os = w.os
  tape : w'.tape = w.tape
  output : w'.output = w.output
  size : w.heap.size ≤ w'.heap.size
  drawn : w.drawn ≤ w'.drawn
  old : ∀ k, k < w.heap.size → w'.heap[k]? = w.heap[k]?
theorem Ext.refl (w : World) : Ext w w := ⟨rfl, rfl, rfl, Nat.le_refl _, Nat.le_refl _, fun _ _ => rfl⟩
theorem Ext.alloc (w : World) (o : Obj) : Ext w (w.alloc o) := ⟨rfl, rfl, rfl, by simp, Nat.le_refl _, fun k hk => heap_push hk⟩
theorem Ext.drew (w : World) : Ext w w.drew := ⟨rfl, rfl, rfl, Nat.le_refl _, Nat.le_succ _, fun _ _ => rfl⟩
theorem Ext.trans {a b c : World} (h : Ext a b) (k : Ext b c) : Ext a c :=
  ⟨k.os.trans h.os, k.tape.trans h.tape, k.output.trans h.output, Nat.le_trans h.size k.size, Nat.le_trans h.drawn k.drawn, fun i hi => (k.old i (Nat.lt_of_lt_of_le hi h.size)).trans (h.old i hi)⟩
theorem Ext.cell {w w' : World} (h : Ext w w') {b j : Nat} {v : Value} (hc : w.cell? ⟨b, j, none⟩ = some v) : w'.cell? ⟨b, j, none⟩ = some v := by
  have hb : b < w.heap.size := World.block_lt_of_cell? w ⟨b, j, none⟩ hc
  simp only [World.cell?] at hc ⊢
  rw [h.old b hb]; exact hc
theorem WR.ext {M M' : Mem} {pl : Pls} {H : Hp} {w w' : World} (hw : WR M pl H w) (he : Ext w w') (hm : ∀ b j v, M b j = some v → M' b j = some v) (hc : ∀ b j v, M' b j = some v → w'.cell? ⟨b, j, none⟩ = some v)
    (hn : ∀ b j, b < w.heap.size → M' b j = M b j) : WR M' pl H w' ∧ Fr M pl w M' pl w' := by
  refine ⟨⟨hc, fun l b hb => ?_, hw.dom, hw.inj⟩, ⟨hm, he.os, he.tape, he.output, he.size, he.drawn, fun k hk _ => he.old k hk, fun l p k h1 h2 => .inr ⟨l, p, h1, h2⟩, fun b j v h => ?_⟩⟩
  · obtain ⟨p, hp, hB⟩ := hw.blk l b hb
    exact ⟨p, hp, hB.keep hm (fun _ _ h => h) (fun k hk => he.old k (hw.block_lt hp hk)) (fun k hk j => hn k j (hw.block_lt hp hk))⟩
  · rcases Nat.lt_or_ge b w.heap.size with hb | hb
    · rw [hn b j hb] at h; exact .inl h
    · exact .inr (.inl hb)
theorem WR.addVar {M : Mem} {pl : Pls} {H : Hp} {w : World} (hw : WR M pl H w) {n : Nat} (hn : H n = none) {cs : List LV} {vs : Array Value} (hcs : CsR M pl cs vs.toList) (t : TypeId) :
    WR M (upd pl n (.var w.heap.size)) (upd H n (.var false cs)) (w.alloc (.cells vs t)) ∧ Fr M pl w M (upd pl n (.var w.heap.size)) (w.alloc (.cells vs t)) ∧ ∀ l p, pl l = some p → upd pl n (.var w.heap.size) l = some p := by
  have hpn := hw.none_of hn
  have he := Ext.alloc w (.cells vs t)
  have inc : ∀ l p, pl l = some p → upd pl n (.var w.heap.size) l = some p := fun l p h => by
    by_cases e : l = n
    · subst e; rw [hpn] at h; cases h
    · rw [upd_other _ _ e]; exact h
  refine ⟨⟨fun b j v h => he.cell (hw.mem b j v h), fun l b hb => ?_, fun l p hp => ?_, fun l l' p p' b h1 h2 h3 h4 => ?_⟩, ⟨fun _ _ _ h => h, rfl, rfl, rfl, he.size, he.drawn, fun k hk _ => he.old k hk, fun l p k h1 h2 => ?_, fun _ _ _ h => .inl h⟩, inc⟩
  · by_cases e : l = n
    · subst e; rw [upd_same] at hb; cases hb
      refine ⟨_, upd_same _ _ _, vs, t, heap_new, hcs.mono (fun _ _ _ h => h) inc, fun j v hv => ?_⟩
      simp
      cases hM : M w.heap.size j with
      | none => rfl
      | some u => have := hw.mem_lt hM; omega
    · rw [upd_other _ _ e] at hb
      obtain ⟨p, hp, hB⟩ := hw.blk l b hb
      exact ⟨p, inc _ _ hp, hB.keep (fun _ _ _ h => h) inc (fun k hk => he.old k (hw.block_lt hp hk)) (fun _ _ _ => rfl)⟩
  · by_cases e : l = n
    · subst e; exact ⟨_, upd_same _ _ _⟩
    · rw [upd_other _ _ e] at hp ⊢; exact hw.dom l p hp
  · by_cases e : l = n
    · by_cases e' : l' = n
      · rw [e, e']
      · subst e; rw [upd_same] at h1; cases h1
        rw [upd_other _ _ e'] at h2
        have := hw.block_lt h2 h4
        simp [Pl.block] at h3; omega
    · by_cases e' : l' = n
      · subst e'; rw [upd_same] at h2; cases h2
        rw [upd_other _ _ e] at h1
        have := hw.block_lt h1 h3
        simp [Pl.block] at h4; omega
      · rw [upd_other _ _ e] at h1; rw [upd_other _ _ e'] at h2; exact hw.inj _ _ _ _ _ h1 h2 h3 h4
  · by_cases e : l = n
    · subst e; rw [upd_same] at h1; cases h1; simp [Pl.block] at h2; exact .inl (by omega)
    · rw [upd_other _ _ e] at h1; exact .inr ⟨l, p, h1, h2⟩
/-! ### Stores into a variable -/
theorem setCells_heap (b : Nat) : ∀ (vs : List Value) (o : Nat) (w : World) (cs : Array Value) (t : TypeId) (fr : Nat × Nat), w.heap[b]? = some (.cells cs t fr) →
    o + vs.length ≤ cs.size → (w.setCells b o vs).heap[b]? = some (.cells (cs.toList.take o ++ vs ++ cs.toList.drop (o + vs.length)).toArray t fr)
  | [], o, w, cs, t, fr, h, hl => by simp [World.setCells, h]
  | v :: r, o, w, cs, t, fr, h, hl => by
    have hs : (w.setCell ⟨b, o, none⟩ v).heap[b]? = some (.cells (cs.setIfInBounds o v) t fr) := by
      simp [World.setCell, Array.getElem?_modify, h]
    have ih := setCells_heap b r (o + 1) _ _ t fr hs (by simp at hl ⊢; omega)
    simp only [World.setCells]
    rw [ih]
    congr 3
    have ho : o < cs.toList.length := by simp at hl ⊢; omega
    simp only [Array.toList_setIfInBounds]
    rw [List.take_succ_eq_append_getElem (by simpa using ho), List.take_set_of_le (Nat.le_refl _)]
    rw [List.getElem_set_self, List.drop_set_of_lt (by omega)]
    simp [Nat.add_assoc, Nat.add_comm 1]
theorem setCells_other (b : Nat) : ∀ (vs : List Value) (o : Nat) (w : World) (k : Nat), k ≠ b → (w.setCells b o vs).heap[k]? = w.heap[k]?
  | [], o, w, k, h => rfl
  | v :: r, o, w, k, h => by
    simp only [World.setCells]
    rw [setCells_other b r _ _ k h]
    simp [World.setCell, Array.getElem?_modify]
    intro e; exact absurd e.symm h
theorem setCells_same (b : Nat) : ∀ (vs : List Value) (o : Nat) (w : World), (w.setCells b o vs).os = w.os ∧ (w.setCells b o vs).tape = w.tape ∧ ((w.setCells b o vs).output = w.output ∧ (w.setCells b o vs).drawn = w.drawn) ∧ (w.setCells b o vs).heap.size = w.heap.size
  | [], o, w => ⟨rfl, rfl, ⟨rfl, rfl⟩, rfl⟩
  | v :: r, o, w => by
    simp only [World.setCells]
    obtain ⟨h1, h2, h3, h4⟩ := setCells_same b r (o + 1) (w.setCell ⟨b, o, none⟩ v)
    exact ⟨h1.trans rfl, h2.trans rfl, ⟨h3.1.trans rfl, h3.2.trans rfl⟩, h4.trans (by simp)⟩
theorem WR.write {M : Mem} {pl : Pls} {H : Hp} {w w' : World} (hw : WR M pl H w) {l b : Nat} {p : Pl} {B' : Blk} (hl : pl l = some p) (hb : p.block = some b)
    (hs : w'.os = w.os ∧ w'.tape = w.tape ∧ (w'.output = w.output ∧ w'.drawn = w.drawn) ∧ w'.heap.size = w.heap.size) (ho : ∀ k, k ≠ b → w'.heap[k]? = w.heap[k]?)
    (hm : ∀ j v, M b j = some v → w'.cell? ⟨b, j, none⟩ = some v) (hB : BR M pl w' B' p) : WR M pl (upd H l B') w' ∧ Fr M pl w M pl w' := by
  obtain ⟨s1, s2, s3, s4⟩ := hs
  refine ⟨⟨fun k j v h => ?_, fun l' c hc => ?_, fun l' p' hp' => ?_, hw.inj⟩, ⟨fun _ _ _ h => h, s1, s2, s3.1, by omega, Nat.le_of_eq s3.2.symm, fun k hk hn => ho k (fun e => hn l p hl (by rw [hb, e])), fun l p k h1 h2 => .inr ⟨l, p, h1, h2⟩, fun _ _ _ h => .inl h⟩⟩
  · by_cases e : k = b
    · subst e; exact hm j v h
    · have := hw.mem k j v h
      simp only [World.cell?] at this ⊢
      rw [ho k e]; exact this
  · by_cases e : l' = l
    · subst e; rw [upd_same] at hc; cases hc; exact ⟨p, hl, hB⟩
    · rw [upd_other _ _ e] at hc
      obtain ⟨p', hp', hB'⟩ := hw.blk l' c hc
      exact ⟨p', hp', hB'.keep (fun _ _ _ h => h) (fun _ _ h => h) (fun k hk => ho k (fun e' => by subst e'; exact e (hw.inj _ _ _ _ _ hp' hl hk hb))) (fun _ _ _ => rfl)⟩
  · by_cases e : l' = l
    · subst e; exact ⟨_, upd_same _ _ _⟩
    · rw [upd_other _ _ e]; exact hw.dom l' p' hp'
variable {P : Program}
theorem run_storeVar {t : TypeId} {i : TypeInfo} (hi : P.info? t = some i) (w : World) (b o : Nat) (v : Value) (hs : v.cells.size = i.size) (h1 : ∀ u, u ∈ v.cells.toList → u.oneCell' = true)
    (hc : ∀ j, j < v.cells.size → (w.cell? ⟨b, o + j, none⟩).isSome = true) (hf : ∀ j, j < v.cells.size → w.frozen? ⟨b, o + j, none⟩ = false) :
    (storeVar t ⟨b, o, none⟩ v).run P w = .ok () (w.setCells b o v.cells.toList) := by
  have := run_storeCells_cells (P := P) b o v.cells.toList 0 w (by simpa using hc) (by simpa using hf) h1
  simp only [storeVar, Sem.run_bind, run_sizeOf hi, Result.andThen_ok, hs, ne_eq, not_true, if_false, Sem.run_pure]
  simpa using this
end GoV
/- Freezing; stores. -/
set_option linter.unusedSimpArgs false
set_option linter.unusedVariables false
namespace GoV
open Go
/-! ### An array's elements, frozen -/
def frzM (M : Mem) (b q n : Nat) (vs : Array Value) : Mem := fun b' j => if b' = b ∧ q ≤ j ∧ j < q + n then vs[j]? else M b' j
theorem WR.freeze {M : Mem} {pl : Pls} {H : Hp} {w : World} (hw : WR M pl H w) {l : Nat} {f g : Bool} {z : Nat} {es : List (List IV)} (hH : H l = some (.arr f g z es)) :
    ∃ M', WR M' pl (upd H l (.arr true g z es)) w ∧ Fr M pl w M' pl w ∧
      ∀ o n v, LR M pl (.slo l o n) v → IR M' (.sl (isE es) z (rSeg es o n)) v := by
  obtain ⟨p, hp, hB⟩ := hw.blk l _ hH
  cases p with
  | var b => exact hB.elim
  | nil =>
    have hes : es = [] := hB
    subst hes
    refine ⟨M, ⟨hw.mem, fun l' c hc => ?_, fun l' p' hp' => ?_, hw.inj⟩, Fr.refl _ _ _, fun o n v hv => ?_⟩
    · by_cases e : l' = l
      · subst e; rw [upd_same] at hc; cases hc; exact ⟨.nil, hp, rfl⟩
      · rw [upd_other _ _ e] at hc; exact hw.blk l' c hc
    · by_cases e : l' = l
      · subst e; exact ⟨_, upd_same _ _ _⟩
      · rw [upd_other _ _ e]; exact hw.dom l' p' hp'
    · rcases hv with ⟨_, rfl, rfl, a0, rfl⟩ | ⟨b, q, cap, esz, len, a, h1, _⟩
      · exact .sl true z [] a0 0 0 0 (fun _ => []) (fun _ _ => undef) (Nat.le_refl _) (fun _ => rfl) (fun h => absurd h (by simp)) (fun h => absurd h (by simp)) (by simp) (by simp) (by simp) (by simp)
      · rw [hp] at h1; cases h1
  | arr b q cap esz len =>
    obtain ⟨⟨hz, hce⟩, hlen, vs, t, fr, f', h1, h2, h3, h4, h5, h6, h7, h8, h9⟩ := hB
    have hb1 : es.length * esz ≤ cap * esz := Nat.mul_le_mul_right _ h2
    have inc : ∀ b' j v, M b' j = some v → frzM M b q (es.length * esz) vs b' j = some v := fun b' j v h => by
      unfold frzM
      split
      · rename_i hc
        obtain ⟨rfl, hq, hj⟩ := hc
        have h' := h9 (j - q) (by omega)
        rw [show q + (j - q) = j by omega] at h'
        rw [h'] at h
        split at h
        · exact h
        · cases h
      · exact h
    refine ⟨frzM M b q (es.length * esz) vs, ⟨fun b' j v h => ?_, fun l' c hc => ?_, fun l' p' hp' => ?_, hw.inj⟩, ⟨inc, rfl, rfl, rfl, Nat.le_refl _, Nat.le_refl _, fun _ _ _ => rfl, fun l p k h1 h2 => .inr ⟨l, p, h1, h2⟩, fun b' j v h => ?_⟩, fun o n v hv => ?_⟩
    · unfold frzM at h
      split at h
      · rename_i hc
        obtain ⟨rfl, _, _⟩ := hc
        rw [cell_of_heap h1]; exact h
      · exact hw.mem b' j v h
    · by_cases e : l' = l
      · subst e; rw [upd_same] at hc; cases hc
        refine ⟨_, hp, ⟨hz, hce⟩, hlen, vs, t, fr, f', h1, h2, h3, h4, h5, h6, h7, fun i j x hi hx => ?_, fun j hj => ?_⟩
        · obtain ⟨u, hu, hr⟩ := h8 i j x hi hx
          exact ⟨u, hu, hr.mono inc⟩
        · unfold frzM
          by_cases hjl : j < es.length * esz
          · rw [if_pos ⟨rfl, by omega, by omega⟩, if_pos ⟨rfl, hjl⟩]
          · rw [if_neg (by omega), if_neg (by omega), h9 j hj, if_neg (by omega)]
      · rw [upd_other _ _ e] at hc
        obtain ⟨p', hp', hB'⟩ := hw.blk l' c hc
        refine ⟨p', hp', hB'.keep inc (fun _ _ h => h) (fun _ _ => rfl) (fun k hk j => ?_)⟩
        unfold frzM
        rw [if_neg]
        rintro ⟨rfl, _⟩
        exact e (hw.inj _ _ _ _ _ hp' hp hk rfl)
    · by_cases e : l' = l
      · subst e; exact ⟨_, upd_same _ _ _⟩
      · rw [upd_other _ _ e]; exact hw.dom l' p' hp'
    · unfold frzM at h
      split at h
      · rename_i hc
        obtain ⟨rfl, _, _⟩ := hc
        exact .inr (.inr ⟨l, _, hp, rfl⟩)
      · exact .inl h
    · rcases hv with ⟨h1', _⟩ | ⟨b', q', cap', esz', len', a, h1', hon, rfl, ha⟩
      · rw [hp] at h1'; cases h1'
      · rw [hp] at h1'; cases h1'
        have hsl : (rSeg es o n).length = n := by simp [rSeg]; omega
        have hget : ∀ i x, (rSeg es o n)[i]? = some x → i < n ∧ es[o + i]? = some x := fun i x h => by
          simp only [rSeg, List.getElem?_take] at h
          split at h
          · rename_i hi; rw [List.getElem?_drop] at h; exact ⟨hi, h⟩
          · cases h
        have e1 : Value.slice a n (cap - o) = Value.slice a (rSeg es o n).length (cap - o) := by rw [hsl]
        rw [e1]
        have hkey : ∀ i j x, i < (rSeg es o n).length → (f' (o + i))[j]? = some x → j < esz ∧ q + (o + i) * esz + j < q + es.length * esz := fun i j x hi hx => by
          have hj : j < (f' (o + i)).length := by
            rcases Nat.lt_or_ge j (f' (o + i)).length with h | h
            · exact h
            · simp [List.getElem?_eq_none h] at hx
          rw [hsl] at hi
          rw [h7 (o + i) (by omega)] at hj
          refine ⟨hj, ?_⟩
          have : (o + i + 1) * esz ≤ es.length * esz := Nat.mul_le_mul_right _ (by omega)
          rw [Nat.add_mul] at this
          omega
        refine .sl _ z _ a (cap - o) b (q + o * esz) (fun i => f' (o + i)) (fun i j => (vs[q + (o + i) * esz + j]?).getD undef) (by omega) (fun hf => ?_) (fun hl => ha (by omega)) (fun hl => ?_)
          (fun i cs hi => h6 _ _ (hget i cs hi).2) (fun i hi => ?_) (fun i j x hi hx => ?_) (fun i j x hi hx => ?_)
        · cases es with
          | nil => have := hce rfl; simp at hlen; simp [rSeg]; omega
          | cons _ _ => simp [isE] at hf
        · rcases hz with rfl | ⟨_, rfl⟩
          · exact h3
          · simp [rSeg] at hl
        · rw [hsl] at hi
          rw [h7 (o + i) (by omega)]
          rcases hz with rfl | ⟨_, rfl⟩
          · rfl
          · simp at hlen; omega
        · obtain ⟨hj1, hj2⟩ := hkey i j x hi hx
          have hze : z = esz := by
            rcases hz with h | ⟨_, rfl⟩
            · exact h
            · simp at hlen; rw [hsl] at hi; omega
          obtain ⟨u, hu, _⟩ := h8 (o + i) j x (by rw [hsl] at hi; omega) hx
          rw [hze]
          unfold frzM
          rw [show q + o * esz + i * esz + j = q + (o + i) * esz + j by rw [Nat.add_mul]; omega, if_pos ⟨rfl, by omega, by omega⟩, hu]
          rfl
        · obtain ⟨u, hu, hr⟩ := h8 (o + i) j x (by rw [hsl] at hi; omega) hx
          simp only [hu, Option.getD_some]
          exact hr.mono inc
theorem upF_append (H : Hp) (a b : List (Nat × Blk)) : upF H (a ++ b) = upF (upF H a) b := by
  induction a generalizing H with
  | nil => rfl
  | cons x r ih => obtain ⟨l, c⟩ := x; exact ih _
structure Froz (H H' : Hp) : Prop where
  some : ∀ l b, H l = some b → (∃ f g z es, b = .arr f g z es ∧ (H' l = some (.arr true g z es) ∨ H' l = some b)) ∨ H' l = some b
  none : ∀ l, H l = none → H' l = none
theorem Froz.refl (H : Hp) : Froz H H := ⟨fun l b h => .inr h, fun l h => h⟩
theorem Froz.arr {H H' : Hp} (h : Froz H H') {l : Nat} {f g : Bool} {z : Nat} {es : List (List IV)} (hl : H l = Option.some (.arr f g z es)) : ∃ f', H' l = Option.some (.arr f' g z es) := by
  rcases h.some l _ hl with ⟨f', g', z', es', he, h | h⟩ | h
  · cases he; exact ⟨_, h⟩
  · exact ⟨_, h⟩
  · exact ⟨_, h⟩
theorem Froz.var {H H' : Hp} (h : Froz H H') {l : Nat} {f : Bool} {cs : List LV} (hl : H l = Option.some (.var f cs)) : H' l = Option.some (.var f cs) := by
  rcases h.some l _ hl with ⟨f', g', z', es', he, _⟩ | h
  · cases he
  · exact h
theorem Froz.trans {H H1 H2 : Hp} (h : Froz H H1) (k : Froz H1 H2) : Froz H H2 := by
  refine ⟨fun l b hb => ?_, fun l hl => k.none l (h.none l hl)⟩
  cases b with
  | var f cs => exact .inr (k.var (h.var hb))
  | arr f g z es =>
    rcases h.some l _ hb with ⟨f', g', z', es', he, h1 | h1⟩ | h1
    · cases he
      rcases k.some l _ h1 with ⟨f2, g2, z2, es2, he2, h2 | h2⟩ | h2
      · cases he2; exact .inl ⟨_, _, _, _, rfl, .inl h2⟩
      · exact .inl ⟨_, _, _, _, rfl, .inl h2⟩
      · exact .inl ⟨_, _, _, _, rfl, .inl h2⟩
    · rcases k.some l _ h1 with ⟨f2, g2, z2, es2, he2, h2 | h2⟩ | h2
      · cases he2; exact .inl ⟨_, _, _, _, rfl, .inl h2⟩
      · exact .inr h2
      · exact .inr h2
    · rcases k.some l _ h1 with ⟨f2, g2, z2, es2, he2, h2 | h2⟩ | h2
      · cases he2; exact .inl ⟨_, _, _, _, rfl, .inl h2⟩
      · exact .inr h2
      · exact .inr h2
theorem WR.bumps {pl : Pls} {w : World} : ∀ (bs : List Nat) {H H0 : Hp} {M : Mem}, Froz H0 H → WR M pl H w →
    ∃ M', WR M' pl (upF H (bumps H0 bs)) w ∧ Fr M pl w M' pl w ∧ Froz H0 (upF H (bumps H0 bs)) ∧
      ∀ l f g z es, l ∈ bs → H0 l = some (.arr f g z es) → ∀ o n v, LR M pl (.slo l o n) v → IR M' (.sl (isE es) z (rSeg es o n)) v
  | [], H, H0, M, hf, hw => ⟨M, hw, Fr.refl _ _ _, hf, by simp⟩
  | l :: r, H, H0, M, hf, hw => by
    cases hl : H0 l with
    | none =>
      obtain ⟨M', h1, h2, h3, h4⟩ := WR.bumps r hf hw
      simp only [GoV.bumps, hl]
      exact ⟨M', h1, h2, h3, fun l' f g z es hm he => by
        rcases List.mem_cons.1 hm with rfl | hm
        · rw [hl] at he; cases he
        · exact h4 l' f g z es hm he⟩
    | some B =>
      cases B with
      | var f cs =>
        obtain ⟨M', h1, h2, h3, h4⟩ := WR.bumps r hf hw
        simp only [GoV.bumps, hl]
        exact ⟨M', h1, h2, h3, fun l' f g z es hm he => by
          rcases List.mem_cons.1 hm with rfl | hm
          · rw [hl] at he; cases he
          · exact h4 l' f g z es hm he⟩
      | arr f g z es =>
        obtain ⟨f1, hf1⟩ := hf.arr hl
        obtain ⟨M1, k1, k2, k3⟩ := hw.freeze hf1
        have hf2 : Froz H0 (upd H l (.arr true g z es)) := hf.trans ⟨fun l' b hb => by
          by_cases e : l' = l
          · subst e; rw [hf1] at hb; cases hb; exact .inl ⟨_, _, _, _, rfl, .inl (upd_same _ _ _)⟩
          · rw [upd_other _ _ e]; exact .inr hb, fun l' hn => by
          by_cases e : l' = l
          · subst e; rw [hf1] at hn; cases hn
          · rw [upd_other _ _ e]; exact hn⟩
        obtain ⟨M', h1, h2, h3, h4⟩ := WR.bumps r hf2 k1
        simp only [GoV.bumps, hl, upF]
        refine ⟨M', h1, k2.trans h2, h3, fun l' f' g' z' es' hm he o n v hv => ?_⟩
        by_cases hin : l' ∈ r
        · exact h4 l' f' g' z' es' hin he o n v (LR.mono k2.mem (fun _ _ _ h => h) hv)
        · rcases List.mem_cons.1 hm with rfl | hm
          · rw [hl] at he; cases he
            exact (k3 o n v hv).mono h2.mem
          · exact absurd hm hin
theorem frzL_mem {H : Hp} : ∀ {cs cs' : List LV} {bs : List Nat}, frzL real H cs = some (cs', bs) → ∀ {M M' : Mem} {pl : Pls},
    (∀ b j v, M b j = some v → M' b j = some v) →
    (∀ l f g z es, l ∈ bs → H l = some (.arr f g z es) → ∀ o n v, LR M pl (.slo l o n) v → IR M' (.sl (isE es) z (rSeg es o n)) v) →
    ∀ {fl : List LV}, flatL cs = some fl → ∃ fl' : List LV, flatL cs' = some fl' ∧ fl'.length = fl.length ∧ ∀ (j : Nat) (x : LV) (v : Value), fl[j]? = some x → LR M pl x v → ∃ x', fl'[j]? = some x' ∧ LR M' pl x' v
  | [], cs', bs, h, M, M', pl, hm, hr, fl, hf => by
    simp [frzL] at h
    obtain ⟨rfl, rfl⟩ := h
    simp [flatL] at hf; subst hf
    exact ⟨[], rfl, rfl, by simp⟩
  | x :: l, cs', bs, h, M, M', pl, hm, hr, fl, hf => by
    by_cases hs : ∃ a o n, x = .slo a o n
    · obtain ⟨a, o, n, rfl⟩ := hs
      simp only [frzL] at h
      cases hH : H a with
      | none => simp [hH] at h
      | some B =>
        cases B with
        | var _ _ => simp [hH] at h
        | arr f g z es =>
          simp only [hH] at h
          cases hl : frzL real H l with
          | none => simp [hl] at h
          | some q =>
            obtain ⟨r', bs'⟩ := q
            simp [hl] at h
            obtain ⟨rfl, rfl⟩ := h
            obtain ⟨fr, h1, rfl⟩ := flatL_cons (x := .slo a o n) rfl hf
            obtain ⟨fl', h2, h3, h4⟩ := frzL_mem hl hm (fun l f g z es hin => hr l f g z es (by simp [hin])) h1
            refine ⟨_, by rw [flatL_one (by rfl), h2]; rfl, by simp [h3], fun j y v hy hv => ?_⟩
            cases j with
            | zero =>
              simp at hy; subst hy
              exact ⟨.iv (.sl (isE es) z (rSeg es o n)), by simp [real_seg, real_isE], hr a f g z es (by simp) hH o n v hv⟩
            | succ j =>
              simp at hy
              obtain ⟨x', hx', hv'⟩ := h4 j y v hy hv
              exact ⟨x', by simpa using hx', hv'⟩
    · have hx : frzL real H (x :: l) = (frzL real H l).bind fun (r', bs) => some (x :: r', bs) := by
        cases x with
        | slo a o n => exact absurd ⟨a, o, n, rfl⟩ hs
        | _ => rfl
      rw [hx] at h
      cases hl : frzL real H l with
      | none => simp [hl] at h
      | some q =>
        obtain ⟨r', bs'⟩ := q
        simp [hl] at h
        obtain ⟨rfl, rfl⟩ := h
        obtain ⟨a, fr, h1, rfl, ha, ha'⟩ := flatL_width hf
        obtain ⟨fl', h2, h3, h4⟩ := frzL_mem hl hm hr h1
        refine ⟨_, flatL_cat ha' h2, by simp [h3], fun j y v hy hv => ?_⟩
        by_cases hj : j < a.length
        · rw [List.getElem?_append_left hj] at hy ⊢
          exact ⟨y, hy, LR.mono hm (fun _ _ _ h => h) hv⟩
        · rw [List.getElem?_append_right (by omega)] at hy ⊢
          obtain ⟨x', hx', hv'⟩ := h4 _ y v hy hv
          exact ⟨x', hx', hv'⟩
theorem frzL_one {H : Hp} {x y : LV} {bs : List Nat} (h : frzL real H [x] = some ([y], bs)) (hx : notArr x = true) : notArr y = true := by
  cases x with
  | slo a o n =>
    simp only [frzL] at h
    cases hH : H a with
    | none => simp [hH] at h
    | some B =>
      cases B with
      | var _ _ => simp [hH] at h
      | arr f g z es => simp [hH] at h; obtain ⟨⟨rfl, _⟩, _⟩ := h; rfl
  | _ => simp [frzL] at h; obtain ⟨rfl, _⟩ := h; exact hx
theorem frzF_mem {H : Hp} {x x' : FV} {bs : List Nat} (h : frzF real H x = some (x', bs)) {M M' : Mem} {pl : Pls} (hm : ∀ b j v, M b j = some v → M' b j = some v)
    (hr : ∀ l f g z es, l ∈ bs → H l = some (.arr f g z es) → ∀ o n v, LR M pl (.slo l o n) v → IR M' (.sl (isE es) z (rSeg es o n)) v) {v : Value} (hv : FR M pl x v) : FR M' pl x' v := by
  cases x with
  | tup vs => simp [frzF] at h
  | one x =>
    simp only [frzF] at h
    split at h
    · rename_i y bs' hy
      cases h
      have hna := LR.na hv
      obtain ⟨fl', h1, h2, h3⟩ := frzL_mem hy hm hr (fl := [x]) (by rw [flatL_one hna]; rfl)
      obtain ⟨x', hx', hv'⟩ := h3 0 x v (by simp) hv
      have hy1 : notArr y = true := by
        rcases arr_or y with h | ⟨n, xs, rfl⟩
        · exact h
        · exact absurd (frzL_one hy hna) (by simp [notArr])
      rw [flatL_one hy1] at h1
      simp [flatL] at h1
      subst h1
      simp at hx'
      subst hx'
      exact hv'
    · cases h
  | agg cs =>
    simp only [frzF] at h
    cases hl : frzL real H cs with
    | none => simp [hl] at h
    | some q =>
      obtain ⟨cs', bs'⟩ := q
      simp [hl] at h
      obtain ⟨rfl, rfl⟩ := h
      obtain ⟨a, rfl, fl, h1, h2, h3⟩ := hv
      obtain ⟨fl', h4, h5, h6⟩ := frzL_mem hl hm hr h1
      refine ⟨a, rfl, fl', h4, by omega, fun j y v hy hv => ?_⟩
      have hj : j < fl.length := by
        rcases Nat.lt_or_ge j fl'.length with h | h
        · omega
        · simp [List.getElem?_eq_none h] at hy
      obtain ⟨x', hx', hv'⟩ := h6 j fl[j] v (by simp [hj]) (h3 j _ v (by simp [hj]) hv)
      rw [hy] at hx'; cases hx'
      exact hv'
theorem frzF_run {M : Mem} {pl : Pls} {H : Hp} {w : World} (hw : WR M pl H w) {x x' : FV} {bs : List Nat} (h : frzF real H x = some (x', bs)) {v : Value} (hv : FR M pl x v) :
    ∃ M', WR M' pl (upF H (bumps H bs)) w ∧ Fr M pl w M' pl w ∧ Froz H (upF H (bumps H bs)) ∧ FR M' pl x' v := by
  obtain ⟨M', h1, h2, h3, h4⟩ := WR.bumps bs (Froz.refl H) hw
  exact ⟨M', h1, h2, h3, frzF_mem h h2.mem h4 hv⟩
end GoV
/- Operations that change nothing. -/
set_option linter.unusedSimpArgs false
set_option linter.unusedVariables false
namespace GoV
open Go
def PureOK (P : Program) (s : Sem Value) (M : Mem) (pl : Pls) (w : World) (ef : Eff) : Prop := ∃ r, s.run P w = .ok r w ∧ FR M pl ef.v r ∧ ef.ups = [] ∧ ef.kills = []
def OpOK (P : Program) (s : Sem Value) (M : Mem) (pl : Pls) (H : Hp) (w : World) (ef : Eff) : Prop := ∃ r w' M' pl', s.run P w = .ok r w' ∧ Done M pl H w ef r M' pl' w'
def UnitOK (P : Program) (s : Sem Unit) (M : Mem) (pl : Pls) (H : Hp) (w : World) (ef : Eff) : Prop := ∃ w' M' pl', s.run P w = .ok () w' ∧ Done M pl H w ef undef M' pl' w'
theorem PureOK.op {P : Program} {s : Sem Value} {M : Mem} {pl : Pls} {H : Hp} {w : World} {ef : Eff} (hw : WR M pl H w) (h : PureOK P s M pl w ef) : OpOK P s M pl H w ef := by
  obtain ⟨r, h1, h2, h3, h4⟩ := h
  exact ⟨r, w, M, pl, h1, Done.pure hw h2 h3 h4⟩
variable {P : Program} {M : Mem} {pl : Pls} {w : World}
theorem kEq_eq {a b : IntKind} (h : kEq a b = true) : a = b := by cases a <;> cases b <;> simp [kEq] at h <;> rfl
theorem one_eq {x : LV} {ef : Eff} (h : one x = some ef) : ef = ⟨.one x, [], []⟩ := by simp [one] at h; exact h.symm
theorem just_eq {x : FV} {ef : Eff} (h : just x = some ef) : ef = ⟨x, [], []⟩ := by simp [just] at h; exact h.symm
theorem pick_ok {t : Bool} {a b : FV} {vc va vb : Value} (hc : IR M (.bool t) vc) (ha : FR M pl a va) (hb : FR M pl b vb) {ef : Eff} (h : just (bif t then a else b) = some ef) :
    PureOK P (do pure (if ← asBool vc then va else vb)) M pl w ef := by
  cases hc
  have := just_eq h; subst this
  cases t
  · exact ⟨vb, by simp [asBool], hb, rfl, rfl⟩
  · exact ⟨va, by simp [asBool], ha, rfl, rfl⟩
theorem un_ok {op : UnOp} {x : FV} {v : Value} (hx : FR M pl x v) {ef : Eff} (h : unV real op x = some ef) : PureOK P (Op.unary op v) M pl w ef := by
  unfold unV at h
  split at h
  · rename_i b
    have hx : IR M (.bool b) v := hx
    cases hx
    cases op
    case not =>
      have := one_eq h; subst this
      exact ⟨.bool (Bool.not b), by simp [Op.unary], IR.bool _, rfl, rfl⟩
    all_goals cases h
  · rename_i k a
    have hx : IR M (.int k a) v := hx
    cases hx
    cases op
    case neg =>
      have := one_eq h; subst this
      exact ⟨.int k (rArith .sub k 0 a), by simp [Op.unary, Op.intArith, rArith], IR.int _ _, rfl, rfl⟩
    case xor =>
      have := one_eq h; subst this
      exact ⟨.int k (rArith .xor k (if k.signed then -1 else k.max) a), by simp [Op.unary, Op.intBits, rArith], IR.int _ _, rfl, rfl⟩
    all_goals cases h
  · cases h
theorem conv_ok {src dst : TypeId} {k k' : IntKind} {n : Int} {ds : TypeDesc} (hs : P.underlying src = some ds) (hd : P.underlying dst = some (.int k)) {v : Value} (hx : IR M (.int k' n) v) {ef : Eff}
    (h : one (.iv (.int k (real .ck k n))) = some ef) : PureOK P (convert src dst v) M pl w ef := by
  cases hx
  have := one_eq h; subst this
  exact ⟨.int k (k.wrap n), by cases ds <;> simp [convert, run_under hs, run_under hd, Conv.intToInt], IR.int _ _, rfl, rfl⟩
theorem bin_add (k : IntKind) (a b : Int) (t : TypeId) : (binOp .add t (.int k a) (.int k b)).run P w = .ok (.int k (rArith .add k a b)) w := by simp [binOp, Op.intArith, rArith]
theorem bin_sub (k : IntKind) (a b : Int) (t : TypeId) : (binOp .sub t (.int k a) (.int k b)).run P w = .ok (.int k (rArith .sub k a b)) w := by simp [binOp, Op.intArith, rArith]
theorem bin_mul (k : IntKind) (a b : Int) (t : TypeId) : (binOp .mul t (.int k a) (.int k b)).run P w = .ok (.int k (rArith .mul k a b)) w := by simp [binOp, Op.intArith, rArith]
theorem bin_and (k : IntKind) (a b : Int) (t : TypeId) : (binOp .and t (.int k a) (.int k b)).run P w = .ok (.int k (rArith .and k a b)) w := by simp [binOp, Op.intBits, rArith]
theorem bin_or (k : IntKind) (a b : Int) (t : TypeId) : (binOp .or t (.int k a) (.int k b)).run P w = .ok (.int k (rArith .or k a b)) w := by simp [binOp, Op.intBits, rArith]
theorem bin_xor (k : IntKind) (a b : Int) (t : TypeId) : (binOp .xor t (.int k a) (.int k b)).run P w = .ok (.int k (rArith .xor k a b)) w := by simp [binOp, Op.intBits, rArith]
theorem bin_andNot (k : IntKind) (a b : Int) (t : TypeId) : (binOp .andNot t (.int k a) (.int k b)).run P w = .ok (.int k (rArith .andNot k a b)) w := by simp [binOp, Op.intBits, rArith]
theorem bin_eql (k : IntKind) (a b : Int) (t : TypeId) : (binOp .eql t (.int k a) (.int k b)).run P w = .ok (.bool (rCmp .eql a b)) w := by simp [binOp, Op.intCmp, rCmp]
theorem bin_neq (k : IntKind) (a b : Int) (t : TypeId) : (binOp .neq t (.int k a) (.int k b)).run P w = .ok (.bool (rCmp .neq a b)) w := by simp [binOp, Op.intCmp, rCmp]
theorem bin_lss (k : IntKind) (a b : Int) (t : TypeId) : (binOp .lss t (.int k a) (.int k b)).run P w = .ok (.bool (rCmp .lss a b)) w := by simp [binOp, Op.intCmp, rCmp]
theorem bin_leq (k : IntKind) (a b : Int) (t : TypeId) : (binOp .leq t (.int k a) (.int k b)).run P w = .ok (.bool (rCmp .leq a b)) w := by simp [binOp, Op.intCmp, rCmp]
theorem bin_gtr (k : IntKind) (a b : Int) (t : TypeId) : (binOp .gtr t (.int k a) (.int k b)).run P w = .ok (.bool (rCmp .gtr a b)) w := by simp [binOp, Op.intCmp, rCmp]
theorem bin_geq (k : IntKind) (a b : Int) (t : TypeId) : (binOp .geq t (.int k a) (.int k b)).run P w = .ok (.bool (rCmp .geq a b)) w := by simp [binOp, Op.intCmp, rCmp]
theorem bin_quo (k : IntKind) (a b : Int) (hb : b ≠ 0) (t : TypeId) : (binOp .quo t (.int k a) (.int k b)).run P w = .ok (.int k (rArith .quo k a b)) w := by simp [binOp, Op.intDiv, hb, rArith]
theorem bin_rem (k : IntKind) (a b : Int) (hb : b ≠ 0) (t : TypeId) : (binOp .rem t (.int k a) (.int k b)).run P w = .ok (.int k (rArith .rem k a b)) w := by simp [binOp, Op.intDiv, hb, rArith]
theorem bin_shl (k k' : IntKind) (a b : Int) (hb : 0 ≤ b) (t : TypeId) : (binOp .shl t (.int k a) (.int k' b)).run P w = .ok (.int k (rArith .shl k a b)) w := by simp [binOp, Op.shift, Int.not_lt.2 hb, rArith]
theorem bin_shr (k k' : IntKind) (a b : Int) (hb : 0 ≤ b) (t : TypeId) : (binOp .shr t (.int k a) (.int k' b)).run P w = .ok (.int k (rArith .shr k a b)) w := by simp [binOp, Op.shift, Int.not_lt.2 hb, rArith]
theorem bins_eql (a b : ByteArray) (t : TypeId) : (binOp .eql t (.string a) (.string b)).run P w = .ok (.bool (rScmp .eql a b)) w := by simp [binOp, Op.stringOp, rScmp]
theorem bins_neq (a b : ByteArray) (t : TypeId) : (binOp .neq t (.string a) (.string b)).run P w = .ok (.bool (rScmp .neq a b)) w := by simp [binOp, Op.stringOp, rScmp]
theorem bins_lss (a b : ByteArray) (t : TypeId) : (binOp .lss t (.string a) (.string b)).run P w = .ok (.bool (rScmp .lss a b)) w := by simp [binOp, Op.stringOp, rScmp]
theorem bins_leq (a b : ByteArray) (t : TypeId) : (binOp .leq t (.string a) (.string b)).run P w = .ok (.bool (rScmp .leq a b)) w := by simp [binOp, Op.stringOp, rScmp]
theorem bins_gtr (a b : ByteArray) (t : TypeId) : (binOp .gtr t (.string a) (.string b)).run P w = .ok (.bool (rScmp .gtr a b)) w := by simp [binOp, Op.stringOp, rScmp]
theorem bins_geq (a b : ByteArray) (t : TypeId) : (binOp .geq t (.string a) (.string b)).run P w = .ok (.bool (rScmp .geq a b)) w := by simp [binOp, Op.stringOp, rScmp]
theorem binI_ok (op : BinOp) (k k' : IntKind) (a b : Int) {ef : Eff} (h : binI real op k a k' b = some ef) (t : TypeId) : PureOK P (binOp op t (.int k a) (.int k' b)) M pl w ef := by
  cases op
  case add =>
    simp only [binI, cond_eq_ite] at h
    split at h
    · rename_i hk
      have := kEq_eq hk; subst this
      have := one_eq h; subst this
      exact ⟨_, bin_add k a b t, IR.int _ _, rfl, rfl⟩
    · cases h
  case sub =>
    simp only [binI, cond_eq_ite] at h
    split at h
    · rename_i hk
      have := kEq_eq hk; subst this
      have := one_eq h; subst this
      exact ⟨_, bin_sub k a b t, IR.int _ _, rfl, rfl⟩
    · cases h
  case mul =>
    simp only [binI, cond_eq_ite] at h
    split at h
    · rename_i hk
      have := kEq_eq hk; subst this
      have := one_eq h; subst this
      exact ⟨_, bin_mul k a b t, IR.int _ _, rfl, rfl⟩
    · cases h
  case and =>
    simp only [binI, cond_eq_ite] at h
    split at h
    · rename_i hk
      have := kEq_eq hk; subst this
      have := one_eq h; subst this
      exact ⟨_, bin_and k a b t, IR.int _ _, rfl, rfl⟩
    · cases h
  case or =>
    simp only [binI, cond_eq_ite] at h
    split at h
    · rename_i hk
      have := kEq_eq hk; subst this
      have := one_eq h; subst this
      exact ⟨_, bin_or k a b t, IR.int _ _, rfl, rfl⟩
    · cases h
  case xor =>
    simp only [binI, cond_eq_ite] at h
    split at h
    · rename_i hk
      have := kEq_eq hk; subst this
      have := one_eq h; subst this
      exact ⟨_, bin_xor k a b t, IR.int _ _, rfl, rfl⟩
    · cases h
  case andNot =>
    simp only [binI, cond_eq_ite] at h
    split at h
    · rename_i hk
      have := kEq_eq hk; subst this
      have := one_eq h; subst this
      exact ⟨_, bin_andNot k a b t, IR.int _ _, rfl, rfl⟩
    · cases h
  case eql =>
    simp only [binI, cond_eq_ite] at h
    split at h
    · rename_i hk
      have := kEq_eq hk; subst this
      have := one_eq h; subst this
      exact ⟨_, bin_eql k a b t, IR.bool _, rfl, rfl⟩
    · cases h
  case neq =>
    simp only [binI, cond_eq_ite] at h
    split at h
    · rename_i hk
      have := kEq_eq hk; subst this
      have := one_eq h; subst this
      exact ⟨_, bin_neq k a b t, IR.bool _, rfl, rfl⟩
    · cases h
  case lss =>
    simp only [binI, cond_eq_ite] at h
    split at h
    · rename_i hk
      have := kEq_eq hk; subst this
      have := one_eq h; subst this
      exact ⟨_, bin_lss k a b t, IR.bool _, rfl, rfl⟩
    · cases h
  case leq =>
    simp only [binI, cond_eq_ite] at h
    split at h
    · rename_i hk
      have := kEq_eq hk; subst this
      have := one_eq h; subst this
      exact ⟨_, bin_leq k a b t, IR.bool _, rfl, rfl⟩
    · cases h
  case gtr =>
    simp only [binI, cond_eq_ite] at h
    split at h
    · rename_i hk
      have := kEq_eq hk; subst this
      have := one_eq h; subst this
      exact ⟨_, bin_gtr k a b t, IR.bool _, rfl, rfl⟩
    · cases h
  case geq =>
    simp only [binI, cond_eq_ite] at h
    split at h
    · rename_i hk
      have := kEq_eq hk; subst this
      have := one_eq h; subst this
      exact ⟨_, bin_geq k a b t, IR.bool _, rfl, rfl⟩
    · cases h
  case quo =>
    simp only [binI, cond_eq_ite] at h
    split at h
    · rename_i hk
      have := kEq_eq hk; subst this
      split at h
      · rename_i hb
        have := one_eq h; subst this
        rw [real_nz] at hb
        exact ⟨_, bin_quo k a b (by simpa using hb) t, IR.int _ _, rfl, rfl⟩
      · cases h
    · cases h
  case rem =>
    simp only [binI, cond_eq_ite] at h
    split at h
    · rename_i hk
      have := kEq_eq hk; subst this
      split at h
      · rename_i hb
        have := one_eq h; subst this
        rw [real_nz] at hb
        exact ⟨_, bin_rem k a b (by simpa using hb) t, IR.int _ _, rfl, rfl⟩
      · cases h
    · cases h
  case shl =>
    simp only [binI, cond_eq_ite] at h
    split at h
    · rename_i hb
      have := one_eq h; subst this
      rw [real_nn] at hb
      exact ⟨_, bin_shl k k' a b (by simpa using hb) t, IR.int _ _, rfl, rfl⟩
    · cases h
  case shr =>
    simp only [binI, cond_eq_ite] at h
    split at h
    · rename_i hb
      have := one_eq h; subst this
      rw [real_nn] at hb
      exact ⟨_, bin_shr k k' a b (by simpa using hb) t, IR.int _ _, rfl, rfl⟩
    · cases h
theorem binS_ok (op : BinOp) (a b : ByteArray) {ef : Eff} (h : binS real op a b = some ef) (t : TypeId) : PureOK P (binOp op t (.string a) (.string b)) M pl w ef := by
  cases op
  case add =>
    simp only [binS, real_scat] at h
    split at h
    · cases h
    · rename_i hc
      have := one_eq h; subst this
      exact ⟨.string (a ++ b), by simp only [binOp, Op.stringOp, if_neg hc, Sem.run_pure], IR.str _, rfl, rfl⟩
  case eql =>
    have := one_eq h; subst this
    exact ⟨_, bins_eql a b t, IR.bool _, rfl, rfl⟩
  case neq =>
    have := one_eq h; subst this
    exact ⟨_, bins_neq a b t, IR.bool _, rfl, rfl⟩
  case lss =>
    have := one_eq h; subst this
    exact ⟨_, bins_lss a b t, IR.bool _, rfl, rfl⟩
  case leq =>
    have := one_eq h; subst this
    exact ⟨_, bins_leq a b t, IR.bool _, rfl, rfl⟩
  case gtr =>
    have := one_eq h; subst this
    exact ⟨_, bins_gtr a b t, IR.bool _, rfl, rfl⟩
  case geq =>
    have := one_eq h; subst this
    exact ⟨_, bins_geq a b t, IR.bool _, rfl, rfl⟩
  all_goals cases h
end GoV
/- Operations that change nothing: addresses, parts, cuts. -/
set_option linter.unusedSimpArgs false
set_option linter.unusedVariables false
namespace GoV
open Go
variable {P : Program} {M : Mem} {pl : Pls} {w : World}
theorem run_fieldAt {s : TypeId} {fs : Array Field} {f : Field} {k : Nat} {i : TypeInfo} (hu : P.underlying s = some (.struct fs)) (hf : fs[k]? = some f) (hi : P.info? f.type = some i) (hn : i.size ≠ 0) (b o : Nat) :
    (Instr.fieldAt s (.pointer (some ⟨b, o, none⟩)) k).run P w = .ok (.pointer (some ⟨b, o + f.offset, none⟩)) w := by
  simp only [Instr.fieldAt, Sem.run_bind, run_under hu, Result.andThen_ok, hf, Instr.sureAddr, Sem.run_pure, fieldPlace, run_sizeOf hi, if_neg hn, addr_add]
theorem fad_ok {s : TypeId} {fs : Array Field} {f : Field} {k off : Nat} {i : TypeInfo} (hu : P.underlying s = some (.struct fs)) (hf : fs[k]? = some f) (hi : P.info? f.type = some i) (hn : i.size ≠ 0) (ho : f.offset = off)
    {x : FV} {v : Value} (hx : FR M pl x v) {ef : Eff}
    (h : fadV off x = some ef) : PureOK P (Instr.fieldAt s v k) M pl w ef := by
  subst ho
  cases x with
  | agg _ => cases h
  | tup _ => cases h
  | one x =>
    cases x with
    | ptr l o =>
      obtain ⟨b, h1, rfl⟩ := hx
      have := one_eq h; subst this
      exact ⟨_, run_fieldAt hu hf hi hn b o, ⟨b, h1, rfl⟩, rfl, rfl⟩
    | cref cs o =>
      obtain ⟨b, q, fl, rfl, h1, h2⟩ := hx
      have := one_eq h; subst this
      exact ⟨_, run_fieldAt hu hf hi hn b _, ⟨b, q, fl, by rw [Nat.add_assoc]; rfl, h1, h2⟩, rfl, rfl⟩
    | apt l i' j =>
      obtain ⟨b, q, cap, esz, len, h1, rfl⟩ := hx
      have := one_eq h; subst this
      exact ⟨_, run_fieldAt hu hf hi hn b _, ⟨b, q, cap, esz, len, h1, by rw [Nat.add_assoc]; rfl⟩, rfl, rfl⟩
    | iv _ => cases h
    | pti _ _ _ => cases h
    | slo _ _ _ => cases h
    | fnc _ _ => cases h
    | fresh _ => cases h
    | undef => cases h
theorem part_ok {t : TypeId} {d : TypeDesc} {i : TypeInfo} {ag : Bool} {sz off : Nat} (hu : P.underlying t = some d) (ha : aggD d = ag) (hi : P.info? t = some i) (hs : i.size = sz) (hp : 0 < sz)
    {cs : List LV} {a : Array Value} (hcs : CsR M pl cs a.toList) {ef : Eff} (h : loadC real ag sz cs off = some ef) : PureOK P (part t a off) M pl w ef := by
  cases ag with
  | true =>
    simp only [loadC, cond_true] at h
    cases hcut : cut real cs off sz with
    | none => simp [hcut] at h
    | some r =>
      simp only [hcut, Option.bind_some] at h
      have := just_eq h; subst this
      obtain ⟨h1, h2⟩ := hcs.cut hcut
      refine ⟨.agg (a.extract off (off + sz)), by simp [part, run_isAgg hu, ha, run_sizeOf hi, hs], ⟨_, rfl, ?_⟩, rfl, rfl⟩
      have e : (a.extract off (off + sz)).toList = (a.toList.drop off).take sz := by simp [Array.toList_extract, List.extract_eq_take_drop]
      rw [e]; exact h1
  | false =>
    simp only [loadC, cond_false] at h
    cases hcell : cell real cs off with
    | none => simp [hcell] at h
    | some x =>
      simp only [hcell, Option.bind_some] at h
      have := one_eq h; subst this
      obtain ⟨v, h1, h2⟩ := hcs.cell hcell
      have h1' : a[off]? = some v := by simpa using h1
      exact ⟨v, by simp [part, run_isAgg hu, ha, h1'], h2, rfl, rfl⟩
theorem fld_ok {s : TypeId} {fs : Array Field} {f : Field} {k off : Nat} {d : TypeDesc} {i : TypeInfo} {ag : Bool} {sz : Nat} (hs' : P.underlying s = some (.struct fs)) (hf : fs[k]? = some f) (ho : f.offset = off)
    (hu : P.underlying f.type = some d) (ha : aggD d = ag) (hi : P.info? f.type = some i) (hs : i.size = sz) (hp : 0 < sz) {cs : List LV} {v : Value} (hx : FR M pl (.agg cs) v) {ef : Eff} (h : loadC real ag sz cs off = some ef) :
    PureOK P (Instr.field s v k) M pl w ef := by
  obtain ⟨a, rfl, ha'⟩ := hx
  obtain ⟨r, h1, h2⟩ := part_ok (P := P) (w := w) hu ha hi hs hp ha' h
  exact ⟨r, by simp [Instr.field, run_under hs', hf, asAgg, ho, h1], h2⟩
theorem ixT_ok {t : TypeId} (hu : P.underlying t = some .string) {s : ByteArray} {k : IntKind} {n : Int} {v vi : Value} (hx : IR M (.str s) v) (hi : IR M (.int k n) vi) {ef : Eff}
    (h : ((real .sidx s n).bind fun b => one (.iv (.int .u8 b))) = some ef) : PureOK P (Instr.index t v vi) M pl w ef := by
  cases hx; cases hi
  rw [real_sidx] at h
  by_cases h0 : 0 ≤ n
  · rw [if_pos h0] at h
    cases hs : s[n.toNat]? with
    | none => simp [hs] at h
    | some b =>
      simp only [hs, Option.map_some, Option.bind_some] at h
      have := one_eq h; subst this
      exact ⟨.int .u8 b.toNat, by simp [Instr.index, asIntOf, run_under hu, h0, hs], IR.int _ _, rfl, rfl⟩
  · rw [if_neg h0] at h
    cases h
theorem rIdx_some {i : Int} {n k : Nat} (h : rIdx i n = some k) : 0 ≤ i ∧ i < n ∧ k = i.toNat := by
  unfold rIdx at h
  split at h
  · rename_i hc; cases h; exact ⟨hc.1, hc.2, rfl⟩
  · cases h
theorem ixV_ok {t e : TypeId} {n : Nat} {d : TypeDesc} {ie : TypeInfo} (hu : P.underlying t = some (.array n e)) (he : P.underlying e = some d) (ha : aggD d = false) (hie : P.info? e = some ie) (h1 : ie.size = 1)
    {k : IntKind} {i : Int} {x : FV} {v vi : Value} (hx : FR M pl x v) (hi : IR M (.int k i) vi) {ef : Eff} (h : ixVV real n i x = some ef) : PureOK P (Instr.index t v vi) M pl w ef := by
  cases hi
  cases x with
  | one _ => cases h
  | tup _ => cases h
  | agg cs =>
    obtain ⟨a, rfl, hcs⟩ := hx
    simp only [ixVV] at h
    have key : ∀ u, 0 ≤ i → i < n → a.toList[i.toNat]? = some u → (Instr.index t (.agg a) (.int k i)).run P w = .ok u w := by
      intro u h0 hn hu'
      have hu' : a[i.toNat]? = some u := by simpa using hu'
      simp [Instr.index, asIntOf, run_under hu, h0, hn, run_sizeOf hie, h1, part, run_isAgg he, ha, hu']
    cases hr : rowAt cs 0 with
    | some mx =>
      obtain ⟨m, xs⟩ := mx
      simp only [hr, cond_eq_ite] at h
      split at h
      · rename_i hm
        have hm : m = n := by simpa using hm
        subst hm
        rw [real_getc] at h
        by_cases h0 : 0 ≤ i
        · rw [if_pos h0] at h
          cases hg : xs[i.toNat]? with
          | none => simp [hg] at h
          | some y =>
            simp only [hg, Option.bind_some] at h
            have := one_eq h; subst this
            obtain ⟨hl, _, h4⟩ := hcs.row hr
            obtain ⟨u, hu1, hu2⟩ := h4 _ _ hg
            rw [Nat.zero_add] at hu1
            have hlt : i.toNat < xs.length := by
              rcases Nat.lt_or_ge i.toNat xs.length with h' | h'
              · exact h'
              · simp [List.getElem?_eq_none h'] at hg
            exact ⟨u, key u h0 (by omega) hu1, hu2, rfl, rfl⟩
        · rw [if_neg h0] at h; cases h
      · cases h
    | none =>
      simp only [hr, real_offs] at h
      cases hk : rIdx i n with
      | none => simp [hk] at h
      | some k' =>
        obtain ⟨h0, hn, rfl⟩ := rIdx_some hk
        simp only [hk, Option.bind_some, Nat.zero_add, Nat.mul_one] at h
        cases hc : cell real cs i.toNat with
        | none => simp [hc] at h
        | some y =>
          simp only [hc, Option.bind_some] at h
          have := one_eq h; subst this
          obtain ⟨u, hu1, hu2⟩ := hcs.cell hc
          exact ⟨u, key u h0 hn hu1, hu2, rfl, rfl⟩
theorem ext_ok {n : Nat} {vs : List (Bool × List LV)} {v : Value} (hx : FR M pl (.tup vs) v) {ef : Eff}
    (h : (match nth vs n with | some (true, cs) => just (.agg cs) | some (false, [c]) => one c | _ => none) = some ef) : PureOK P (Instr.extract v n) M pl w ef := by
  obtain ⟨a, rfl, ha⟩ := hx
  have key : ∀ (vs : List (Bool × List LV)) (l : List Value) (n : Nat) (p : Bool × List LV), TR M pl vs l → nth vs n = some p → ∃ u, l[n]? = some u ∧ PR M pl p u := by
    intro vs
    induction vs with
    | nil => intro l n p _ hn; cases n <;> cases hn
    | cons q r ih =>
      intro l n p ht hn
      cases l with
      | nil => exact ht.elim
      | cons u us =>
        cases n with
        | zero => cases hn; exact ⟨u, rfl, ht.1⟩
        | succ n => simpa using ih us n p ht.2 hn
  cases hn : nth vs n with
  | none => simp [hn] at h
  | some p =>
    obtain ⟨u, hu, hp⟩ := key vs a.toList n p ha hn
    have hu' : a[n]? = some u := by simpa using hu
    have hrun : (Instr.extract (.tuple a) n).run P w = .ok u w := by simp [Instr.extract, hu']
    obtain ⟨b, cs⟩ := p
    cases b with
    | true =>
      simp only [hn] at h
      have := just_eq h; subst this
      exact ⟨u, hrun, hp, rfl, rfl⟩
    | false =>
      obtain ⟨x, rfl, hx, _⟩ := hp
      simp only [hn] at h
      have := one_eq h; subst this
      exact ⟨u, hrun, hx, rfl, rfl⟩
theorem nilc_val {x : FV} {v : Value} (hx : FR M pl x v) {ef : Eff} (h : nilcV x = some ef) : ((∃ b o, v = .pointer (some ⟨b, o, none⟩)) ∨ (∃ f vs, v = .func (.func f) #[] vs)) ∧ FR M pl ef.v v ∧ ef.ups = [] ∧ ef.kills = [] := by
  unfold nilcV at h
  split at h <;> (try cases h; done) <;> (have := one_eq h; subst this)
  · have hx' : IR M (.fn _) v := hx
    cases hx'
    exact ⟨.inr ⟨_, _, rfl⟩, hx, rfl, rfl⟩
  · have hx' := hx
    obtain ⟨b, _, rfl⟩ := hx'
    exact ⟨.inl ⟨_, _, rfl⟩, hx, rfl, rfl⟩
  · have hx' := hx
    obtain ⟨b, _, _, rfl⟩ := hx'
    exact ⟨.inl ⟨_, _, rfl⟩, hx, rfl, rfl⟩
  · have hx' := hx
    obtain ⟨b, q, fl, rfl, _⟩ := hx'
    exact ⟨.inl ⟨_, _, rfl⟩, hx, rfl, rfl⟩
  · have hx' := hx
    obtain ⟨b, q, cap, esz, len, _, rfl⟩ := hx'
    exact ⟨.inl ⟨_, _, rfl⟩, hx, rfl, rfl⟩
  · have hx' := hx
    obtain ⟨vs, rfl, _⟩ := hx'
    exact ⟨.inr ⟨_, _, rfl⟩, hx, rfl, rfl⟩
/-! ### Cuts of texts and slices -/
theorem rBound_some {i : Int} {n k : Nat} (h : rBound i n = some k) : 0 ≤ i ∧ i ≤ n ∧ k = i.toNat := by
  unfold rBound at h
  split at h
  · rename_i hc; cases h; exact ⟨hc.1, hc.2, rfl⟩
  · cases h
theorem run_sliceBound {x : Value} {k : IntKind} {i : Int} (hx : x = .int k i) {y : Nat} (code : BoundsCode) {n : Nat} (h : rBound i y = some n) : (Instr.sliceBound x y code).run P w = .ok n w := by
  obtain ⟨h0, h1, rfl⟩ := rBound_some h
  subst hx
  simp [Instr.sliceBound, asIntOf, h0, h1]
def OI (M : Mem) : Option Int → Option Value → Prop
  | none, none => True
  | some n, some v => ∃ k, v = .int k n
  | _, _ => False
theorem run_sliceBounds {len cap : Nat} {lo hi : Option Int} {vlo vhi : Option Value} (hlo : OI M lo vlo) (hhi : OI M hi vhi) (isS : Bool) (hc : len ≤ (if isS then cap else len)) {l h : Nat}
    (e : ((match hi with | none => some len | some h => rBound h cap).bind fun h => (match lo with | none => some 0 | some l => rBound l h).bind fun l => some (l, h)) = some (l, h)) :
    (Instr.sliceBounds isS len cap vlo vhi none).run P w = .ok (l, h, cap) w := by
  cases hi with
  | none =>
    cases vhi with
    | some _ => exact hhi.elim
    | none =>
      simp only [Option.bind_some] at e
      cases lo with
      | none =>
        cases vlo with
        | some _ => exact hlo.elim
        | none => simp at e; obtain ⟨rfl, rfl⟩ := e; simp [Instr.sliceBounds]
      | some li =>
        cases vlo with
        | none => exact hlo.elim
        | some v =>
          obtain ⟨k, rfl⟩ := hlo
          cases hb : rBound li len with
          | none => simp [hb] at e
          | some n => simp [hb] at e; obtain ⟨rfl, rfl⟩ := e; simp [Instr.sliceBounds, run_sliceBound rfl _ hb]
  | some hi' =>
    cases vhi with
    | none => exact hhi.elim
    | some v =>
      obtain ⟨k, rfl⟩ := hhi
      cases hb : rBound hi' cap with
      | none => simp [hb] at e
      | some n =>
        simp only [hb, Option.bind_some] at e
        cases lo with
        | none =>
          cases vlo with
          | some _ => exact hlo.elim
          | none => simp at e; obtain ⟨rfl, rfl⟩ := e; simp [Instr.sliceBounds, run_sliceBound rfl _ hb]
        | some li =>
          cases vlo with
          | none => exact hlo.elim
          | some v =>
            obtain ⟨k', rfl⟩ := hlo
            cases hb' : rBound li n with
            | none => simp [hb'] at e
            | some m => simp [hb'] at e; obtain ⟨rfl, rfl⟩ := e; simp [Instr.sliceBounds, run_sliceBound rfl _ hb, run_sliceBound rfl _ hb']
theorem slT_ok {t : TypeId} (hu : P.underlying t = some .string) {s : ByteArray} {lo hi : Option Int} {v : Value} {vlo vhi : Option Value} (hx : IR M (.str s) v) (hlo : OI M lo vlo) (hhi : OI M hi vhi) {ef : Eff}
    (h : ((real .sext s lo hi).bind fun s' => one (.iv (.str s'))) = some ef) : PureOK P (Instr.sliceAt t v vlo vhi none) M pl w ef := by
  cases hx
  rw [real_sext] at h
  cases hs : rSext s lo hi with
  | none => simp [hs] at h
  | some s' =>
    simp only [hs, Option.bind_some] at h
    have := one_eq h; subst this
    unfold rSext at hs
    cases hc : rCut s.size lo hi with
    | none => rw [hc] at hs; cases hs
    | some lh =>
      obtain ⟨l, h'⟩ := lh
      rw [hc] at hs
      simp only [Option.bind_some] at hs
      cases hs
      exact ⟨.string (s.extract l h'), by simp [Instr.sliceAt, Instr.slice, run_under hu, run_sliceBounds (M := M) hlo hhi false (by simp) hc], IR.str _, rfl, rfl⟩
end GoV
/- Slices: cuts, indices, texts of bytes. -/
set_option linter.unusedSimpArgs false
set_option linter.unusedVariables false
namespace GoV
open Go
variable {P : Program} {M : Mem} {pl : Pls} {w : World}
theorem IR.sl_inv {full : Bool} {z : Nat} {es : List (List IV)} {v : Value} (h : IR M (.sl full z es) v) : ∃ a c b o, ∃ (f : Nat → List IV) (g : Nat → Nat → Value), v = .slice a es.length c ∧
    es.length ≤ c ∧ (full = true → c = es.length) ∧ (0 < es.length → a = some ⟨b, o, none⟩) ∧ (0 < es.length → 0 < z) ∧ (∀ i cs, es[i]? = some cs → flatI cs = some (f i)) ∧ (∀ i, i < es.length → (f i).length = z) ∧
    (∀ i j x, i < es.length → (f i)[j]? = some x → M b (o + i * z + j) = some (g i j)) ∧ (∀ i j x, i < es.length → (f i)[j]? = some x → IR M x (g i j)) := by
  cases h with
  | sl _ _ _ a c b o f g hc hf ha hz hfl hsz hm hr => exact ⟨a, c, b, o, f, g, rfl, hc, hf, ha, hz, hfl, hsz, hm, hr⟩
theorem IR.cut {full full' : Bool} {z : Nat} {es : List (List IV)} {a : Option Addr} {len c : Nat} (h : IR M (.sl full z es) (.slice a len c)) {l k m size : Nat} (hl : l ≤ k) (hk : k ≤ es.length) (hm : k ≤ m) (hmc : m ≤ c) (hs : z = size ∨ es = [])
    (hf : full' = true → m = k) : IR M (.sl full' z ((es.take k).drop l)) (.slice (if m = l then a else a.map (·.add (l * size))) (k - l) (m - l)) := by
  obtain ⟨a', c', b, o, f, g, he, hc, hff, ha, hz, hfl, hsz, hM, hr⟩ := h.sl_inv
  cases he
  have hlen : ((es.take k).drop l).length = k - l := by simp; omega
  have hget : ∀ i x, ((es.take k).drop l)[i]? = some x → es[l + i]? = some x := fun i x hx => by
    rw [List.getElem?_drop, List.getElem?_take] at hx
    split at hx
    · exact hx
    · cases hx
  have e : Value.slice (if m = l then a else a.map (·.add (l * size))) (k - l) (m - l) = Value.slice (if m = l then a else a.map (·.add (l * size))) ((es.take k).drop l).length (m - l) := by rw [hlen]
  rw [e]
  refine .sl _ z _ _ _ b (o + l * z) (fun i => f (l + i)) (fun i j => g (l + i) j) (by omega) (fun h => by have := hf h; omega) (fun h => ?_) (fun h => hz (by omega)) (fun i cs h => hfl _ _ (hget i cs h)) (fun i h => hsz _ (by omega)) (fun i j x h hx => ?_) (fun i j x h hx => hr _ j x (by omega) hx)
  · rw [hlen] at h
    rw [if_neg (by omega), ha (by omega)]
    rcases hs with rfl | rfl
    · simp [addr_add]
    · simp at hk; omega
  · have := hM (l + i) j x (by omega) hx
    rw [← this, Nat.add_mul]
    congr 1
    omega
theorem rBound_le {i : Int} {n m k : Nat} (h : rBound i n = some k) (hm : n ≤ m) : rBound i m = some k := by
  obtain ⟨h0, h1, rfl⟩ := rBound_some h
  simp [rBound, h0]; omega
theorem rCut_bound {len : Nat} {lo hi : Option Int} {l k : Nat} (h : rCut len lo hi = some (l, k)) : l ≤ k ∧ k ≤ len ∧ (hi = none → k = len) := by
  unfold rCut at h
  cases hi with
  | none =>
    simp only [Option.bind_some] at h
    cases lo with
    | none => simp at h; omega
    | some i =>
      cases hb : rBound i len with
      | none => simp [hb] at h
      | some n => simp [hb] at h; have := rBound_some hb; omega
  | some j =>
    cases hj : rBound j len with
    | none => simp [hj] at h
    | some n =>
      have h1 := rBound_some hj
      simp only [hj, Option.bind_some] at h
      cases lo with
      | none => simp at h; simp; omega
      | some i =>
        cases hb : rBound i n with
        | none => simp [hb] at h
        | some n' => simp [hb] at h; have := rBound_some hb; simp; omega
theorem run_cut {len cap : Nat} {lo hi : Option Int} {vlo vhi : Option Value} (hlo : OI M lo vlo) (hhi : OI M hi vhi) (hc : len ≤ cap) {l k : Nat} (e : rCut len lo hi = some (l, k)) :
    (Instr.sliceBounds true len cap vlo vhi none).run P w = .ok (l, k, cap) w := by
  refine run_sliceBounds hlo hhi true (by simpa using hc) ?_
  unfold rCut at e
  cases hi with
  | none => exact e
  | some j =>
    simp only at e ⊢
    cases hj : rBound j len with
    | none => simp [hj] at e
    | some n => rw [rBound_le hj hc]; rw [hj] at e; exact e
theorem run_cut3 {len cap : Nat} {lo hi : Option Int} {vlo vhi : Option Value} {vmx : Value} (hlo : OI M lo vlo) (hhi : OI M hi vhi) {km : IntKind} {m : Int} (hmx : vmx = .int km m) (hh : hi = some m) (hc : len ≤ cap) {l k : Nat} (e : rCut len lo hi = some (l, k)) :
    (Instr.sliceBounds true len cap vlo vhi (some vmx)).run P w = .ok (l, k, k) w := by
  subst hh; subst hmx
  unfold rCut at e
  simp only at e
  cases hj : rBound m len with
  | none => simp [hj] at e
  | some n =>
    have hn := rBound_some hj
    have hb1 : rBound m cap = some n := rBound_le hj hc
    have hb2 : rBound m n = some n := by simp [rBound, hn.1]; omega
    simp only [hj, Option.bind_some] at e
    cases vhi with
    | none => exact hhi.elim
    | some vh =>
      obtain ⟨kh, rfl⟩ := hhi
      cases lo with
      | none =>
        cases vlo with
        | some _ => exact hlo.elim
        | none =>
          simp at e; obtain ⟨rfl, rfl⟩ := e
          simp [Instr.sliceBounds, run_sliceBound rfl _ hb1, run_sliceBound rfl _ hb2]
      | some li =>
        cases vlo with
        | none => exact hlo.elim
        | some v =>
          obtain ⟨k', rfl⟩ := hlo
          cases hb : rBound li n with
          | none => simp [hb] at e
          | some q =>
            simp [hb] at e; obtain ⟨rfl, rfl⟩ := e
            simp [Instr.sliceBounds, run_sliceBound rfl _ hb1, run_sliceBound rfl _ hb2, run_sliceBound rfl _ hb]
theorem okE_or {z op : Nat} (h : okE z op = true) : z = op ∨ z = 0 := by simp [okE] at h; exact h
theorem sl_esz {t : Nat} {full : Bool} {z : Nat} {es : List (List IV)} (hz : okE z t = true) {v : Value} (hx : IR M (.sl full z es) v) : z = t ∨ es = [] := by
  obtain ⟨a, c, b, o, f, g, rfl, hc, hff, ha, hz0, _⟩ := hx.sl_inv
  rcases okE_or hz with h | h
  · exact .inl h
  · cases es with
    | nil => exact .inr rfl
    | cons x r => have := hz0 (by simp); omega
theorem slI_ok {t e : TypeId} {ie : TypeInfo} (hu : P.underlying t = some (.slice e)) (hie : P.info? e = some ie) {full : Bool} {z : Nat} {es : List (List IV)} (hz : okE z ie.size = true)
    {lo hi : Option Int} {v : Value} {vlo vhi : Option Value} (hx : IR M (.sl full z es) v) (hlo : OI M lo vlo) (hhi : OI M hi vhi) {ef : Eff}
    (h : ((real .sub es lo hi).bind fun es' => one (.iv (.sl (noHi hi full) z es'))) = some ef) : PureOK P (Instr.sliceAt t v vlo vhi none) M pl w ef := by
  have hs := sl_esz hz hx
  obtain ⟨a, c, b, o, f, g, rfl, hc, hff, ha, hz0, _⟩ := hx.sl_inv
  simp only [real_sub, rSub] at h
  cases hk : rCut es.length lo hi with
  | none => simp [hk] at h
  | some lk =>
    obtain ⟨l, k⟩ := lk
    simp only [hk, Option.bind_some] at h
    have := one_eq h; subst this
    obtain ⟨h1, h2, h3⟩ := rCut_bound hk
    have hf : noHi hi full = true → c = k := fun hf => by
      cases hi with
      | none => rw [hff hf, h3 rfl]
      | some _ => cases hf
    exact ⟨.slice (if c = l then a else a.map (·.add (l * ie.size))) (k - l) (c - l), by simp [Instr.sliceAt, Instr.slice, run_under hu, run_cut (M := M) hlo hhi hc hk, run_sizeOf hie],
      IR.cut hx h1 h2 (Nat.le_trans h2 hc) (Nat.le_refl c) hs hf, rfl, rfl⟩
theorem slI3_ok {t e : TypeId} {ie : TypeInfo} (hu : P.underlying t = some (.slice e)) (hie : P.info? e = some ie) {full : Bool} {z : Nat} {es : List (List IV)} (hz : okE z ie.size = true)
    {lo hi : Option Int} {m : Int} {v : Value} {vlo vhi : Option Value} {vmx : Value} {km : IntKind} (hx : IR M (.sl full z es) v) (hlo : OI M lo vlo) (hhi : OI M hi vhi) (hmx : vmx = .int km m) {ef : Eff}
    (h : ((real .sub3 es lo hi (some m)).bind fun es' => one (.iv (.sl true z es'))) = some ef) : PureOK P (Instr.sliceAt t v vlo vhi (some vmx)) M pl w ef := by
  have hs := sl_esz hz hx
  obtain ⟨a, c, b, o, f, g, rfl, hc, hff, ha, hz0, _⟩ := hx.sl_inv
  simp only [real_sub3, rSub3] at h
  by_cases hh : hi = some m
  · rw [if_pos hh] at h
    simp only [rSub] at h
    cases hk : rCut es.length lo hi with
    | none => simp [hk] at h
    | some lk =>
      obtain ⟨l, k⟩ := lk
      simp only [hk, Option.bind_some] at h
      have := one_eq h; subst this
      obtain ⟨h1, h2, h3⟩ := rCut_bound hk
      have e3 := run_cut3 (P := P) (w := w) (M := M) hlo hhi hmx hh hc hk
      exact ⟨.slice (if k = l then a else a.map (·.add (l * ie.size))) (k - l) (k - l), by simp only [Instr.sliceAt, Instr.slice, Sem.run_bind, run_under hu, Result.andThen_ok, e3, run_sizeOf hie, Sem.run_pure],
        IR.cut (full' := true) hx h1 h2 (Nat.le_refl k) (Nat.le_trans h2 hc) hs (fun _ => rfl), rfl, rfl⟩
  · rw [if_neg hh] at h
    cases h
theorem ixI_ok {t e : TypeId} {ie : TypeInfo} (hu : P.underlying t = some (.slice e)) (hie : P.info? e = some ie) {full : Bool} {es : List (List IV)} {k : IntKind} {i : Int} {v vi : Value}
    (hx : IR M (.sl full ie.size es) v) (hi : IR M (.int k i) vi) {ef : Eff} (h : ((real .get es i).bind fun x => one (.cref x 0)) = some ef) : PureOK P (Instr.indexAt t v vi) M pl w ef := by
  cases hi
  obtain ⟨a, c, b, o, f, g, rfl, hc, hff, ha, hz0, hfl, hsz, hM, hr⟩ := hx.sl_inv
  rw [real_get] at h
  by_cases h0 : 0 ≤ i
  · rw [if_pos h0] at h
    cases hg : es[i.toNat]? with
    | none => simp [hg] at h
    | some x =>
      simp only [hg, Option.bind_some] at h
      have := one_eq h; subst this
      have hil := getN_lt hg
      have ha' := ha (by omega)
      subst ha'
      refine ⟨.pointer (some ⟨b, o + i.toNat * ie.size, none⟩), ?_, ⟨b, o + i.toNat * ie.size, f i.toNat, rfl, hfl _ _ hg, fun j y hy => ⟨_, hM _ j y hil hy, hr _ j y hil hy⟩⟩, rfl, rfl⟩
      have hi2 : i < (es.length : Int) := by omega
      simp [Instr.indexAt, asIntOf, run_under hu, h0, hi2, run_sizeOf hie, addr_add]
  · rw [if_neg h0] at h
    cases h
theorem run_indexArr {t e : TypeId} {n : Nat} {ie : TypeInfo} (hu : P.underlying t = some (.array n e)) (hie : P.info? e = some ie) {k : IntKind} {i : Int} (h0 : 0 ≤ i) (hn : i < n) (b o : Nat) :
    (Instr.indexAt t (.pointer (some ⟨b, o, none⟩)) (.int k i)).run P w = .ok (.pointer (some ⟨b, o + i.toNat * ie.size, none⟩)) w := by
  simp [Instr.indexAt, asIntOf, run_under hu, Instr.sureAddr, h0, hn, run_sizeOf hie, addr_add]
theorem ixA_ok {t e : TypeId} {n esz : Nat} {ie : TypeInfo} (hu : P.underlying t = some (.array n e)) (hie : P.info? e = some ie) (hs : ie.size = esz) {k : IntKind} {i : Int} {H : Hp} {x : FV} {v vi : Value} (hx : FR M pl x v) (hi : IR M (.int k i) vi) {ef : Eff}
    (h : ixAV real H n esz i x = some ef) : PureOK P (Instr.indexAt t v vi) M pl w ef := by
  cases hi
  subst hs
  unfold ixAV at h
  split at h
  · rename_i l o
    obtain ⟨b, hb, rfl⟩ := hx
    split at h
    · rename_i f cs hH
      split at h
      · rename_i m xs hr
        simp only [cond_eq_ite] at h
        split at h
        · rename_i hc
          simp at hc
          rw [real_at] at h
          cases hk : rIdx i n with
          | none => simp [hk] at h
          | some k' =>
            obtain ⟨h0, hn, rfl⟩ := rIdx_some hk
            simp only [hk, Option.bind_some] at h
            have := one_eq h; subst this
            exact ⟨_, run_indexArr hu hie h0 hn b o, ⟨b, hb, h0, by rw [hc.2, Nat.mul_one]⟩, rfl, rfl⟩
        · cases h
      · rw [real_offs] at h
        cases hk : rIdx i n with
        | none => simp [hk] at h
        | some k' =>
          obtain ⟨h0, hn, rfl⟩ := rIdx_some hk
          simp only [hk, Option.bind_some] at h
          have := one_eq h; subst this
          exact ⟨_, run_indexArr hu hie h0 hn b o, ⟨b, hb, rfl⟩, rfl, rfl⟩
    · cases h
  · rename_i cs o
    obtain ⟨b, q, fl, rfl, hfl, hM⟩ := hx
    split at h
    · rename_i m xs hr
      simp only [cond_eq_ite] at h
      split at h
      · rename_i hc
        simp at hc
        rw [real_getc] at h
        by_cases h0 : 0 ≤ i
        · rw [if_pos h0] at h
          cases hg : xs[i.toNat]? with
          | none => simp [hg] at h
          | some y =>
            simp only [hg, Option.bind_some] at h
            have := one_eq h; subst this
            obtain ⟨r1, r2, r3, r4⟩ := rowAt_flat _ _ _ _ _ (flatL_lift hfl) hr
            have hlt : i.toNat < xs.length := by
              rcases Nat.lt_or_ge i.toNat xs.length with h' | h'
              · exact h'
              · simp [List.getElem?_eq_none h'] at hg
            have h4 := r4 _ _ hg
            rw [List.getElem?_map] at h4
            cases hf : fl[o + i.toNat]? with
            | none => simp [hf] at h4
            | some y' =>
              simp [hf] at h4
              subst h4
              obtain ⟨u, hu1, hu2⟩ := hM _ _ hf
              have hp : plainI y' = true := (IR.one hu2).2
              refine ⟨_, run_indexArr hu hie h0 (by omega) b (q + o), ⟨b, q + o + i.toNat * ie.size, [y'], rfl, by cases y' <;> simp [plainI] at hp <;> rfl, fun j x hx => ?_⟩, rfl, rfl⟩
              cases j with
              | zero =>
                simp at hx; subst hx
                exact ⟨u, by rw [hc.2, Nat.mul_one, Nat.add_zero, Nat.add_assoc]; exact hu1, hu2⟩
              | succ j => simp at hx
        · rw [if_neg h0] at h; cases h
      · cases h
    · rw [real_offs] at h
      cases hk : rIdx i n with
      | none => simp [hk] at h
      | some k' =>
        obtain ⟨h0, hn, rfl⟩ := rIdx_some hk
        simp only [hk, Option.bind_some] at h
        have := one_eq h; subst this
        exact ⟨_, run_indexArr hu hie h0 hn b (q + o), ⟨b, q, fl, by rw [Nat.add_assoc], hfl, hM⟩, rfl, rfl⟩
  · cases h
theorem rNums_get : ∀ {es : List (List IV)} {xs : List Int}, rNums es = some xs → xs.length = es.length ∧ ∀ i, i < xs.length → es[i]? = some [.int .u8 (xs.getD i 0)]
  | [], xs, h => by simp [rNums] at h; subst h; simp
  | x :: r, xs, h => by
    unfold rNums at h
    split at h
    · rename_i h'; cases h'
    · rename_i n r' h'
      cases h'
      cases hr : rNums r with
      | none => simp [hr] at h
      | some ys =>
        simp [hr] at h
        subst h
        obtain ⟨h1, h2⟩ := rNums_get hr
        refine ⟨by simp [h1], fun i hi => ?_⟩
        cases i with
        | zero => simp
        | succ i => simpa using h2 i (by simpa using hi)
    · cases h
theorem b2s_ok {src dst e : TypeId} (hs : P.underlying src = some (.slice e)) (he : P.underlying e = some (.int .u8)) (hd : P.underlying dst = some .string) {full : Bool} {z : Nat} (hz : okE z 1 = true) {es : List (List IV)} {v : Value} (hx : IR M (.sl full z es) v)
    (hM : ∀ b j v, M b j = some v → w.cell? ⟨b, j, none⟩ = some v) {ef : Eff} (h : ((real .b2s es).bind fun s => one (.iv (.str s))) = some ef) : PureOK P (convert src dst v) M pl w ef := by
  obtain ⟨a, c, b, o, f, g, rfl, hc, hff, ha, hz0, hfl, hsz, hm, hr⟩ := hx.sl_inv
  rw [real_b2s, rB2s] at h
  cases hn : rNums es with
  | none => simp [hn] at h
  | some xs =>
    simp only [hn, Option.map_some, Option.bind_some] at h
    have := one_eq h; subst this
    obtain ⟨h1, h2⟩ := rNums_get hn
    refine ⟨.string (strOfNums xs), ?_, IR.str _, rfl, rfl⟩
    rcases Nat.eq_zero_or_pos es.length with h0 | h0
    · have hxs : xs = [] := List.eq_nil_of_length_eq_zero (by omega)
      subst hxs
      rw [h0]
      cases a with
      | none => exact run_convert_bytes_nil w src e hs he 0 c dst hd
      | some a =>
        rw [run_convert_bytes_string w src dst e _ 0 c hs he hd, run_bytesToString w _ 0 c [] (by rfl)]
        rfl
    · have ha' := ha h0
      subst ha'
      refine run_convert_bytes_arg w src e hs he b o es.length c xs h1 (fun i hi => ?_) dst hd
      have hg := h2 i (by omega)
      have hf := hfl _ _ hg
      simp [flatI] at hf
      have hz1 : z = 1 := by
        rcases okE_or hz with h | h
        · exact h
        · have := hz0 h0; omega
      have hf0 : (f i)[0]? = some (.int .u8 (xs.getD i 0)) := by rw [← hf]; rfl
      have h3 := hm i 0 _ hi hf0
      have h4 := hr i 0 _ hi hf0
      rw [hz1, Nat.mul_one, Nat.add_zero] at h3
      have h5 : g i 0 = .int .u8 (xs.getD i 0) := by
        generalize g i 0 = u at h4
        cases h4; rfl
      rw [h5] at h3
      exact hM _ _ _ h3
end GoV
/- Own slices cut and indexed; variables made and written. -/
set_option linter.unusedSimpArgs false
set_option linter.unusedVariables false
namespace GoV
open Go
variable {P : Program} {M : Mem} {pl : Pls} {w : World} {H : Hp}
theorem slo_inv (hw : WR M pl H w) {l o n : Nat} {v : Value} (hv : LR M pl (.slo l o n) v) {f g : Bool} {z : Nat} {es : List (List IV)} (hH : H l = some (.arr f g z es)) :
    ∃ a c, v = .slice a n c ∧ o + n ≤ es.length ∧ es.length - o ≤ c := by
  obtain ⟨p, hp, hB⟩ := hw.blk l _ hH
  rcases hv with ⟨h1, rfl, rfl, a0, rfl⟩ | ⟨b, q, cap, esz, len, a, h1, hon, rfl, ha⟩
  · rw [hp] at h1; cases h1
    have hes : es = [] := hB
    subst hes
    exact ⟨a0, 0, rfl, by simp, by simp⟩
  · rw [hp] at h1; cases h1
    obtain ⟨_, hlen, vs, t, fr, f', _, h2, _⟩ := hB
    exact ⟨a, cap - o, rfl, by omega, by omega⟩
theorem rCuts_none {o n ext : Nat} {lo hi : Option Int} {o' n' : Nat} (h : rCuts o n ext lo hi none = some (o', n')) : o + n ≤ ext ∧ ∃ l k, o' = o + l ∧ n' = k - l ∧ l ≤ k ∧ k ≤ ext - o ∧
    ∀ cap, ext - o ≤ cap → ((match hi with | none => some n | some h => rBound h cap).bind fun h => (match lo with | none => some 0 | some l => rBound l h).bind fun l => some (l, h)) = some (l, k) := by
  unfold rCuts at h
  split at h
  · rename_i hon
    refine ⟨hon, ?_⟩
    cases hi with
    | none =>
      simp only [Option.bind_some] at h ⊢
      cases lo with
      | none => simp at h; exact ⟨0, n, by omega, by omega, by omega, by omega, fun _ _ => rfl⟩
      | some i =>
        cases hb : rBound i n with
        | none => simp [hb] at h
        | some q => simp [hb] at h; have := rBound_some hb; exact ⟨q, n, by omega, by omega, by omega, by omega, fun _ _ => by simp [hb]⟩
    | some j =>
      cases hj : rBound j (ext - o) with
      | none => simp [hj] at h
      | some k =>
        have hk := rBound_some hj
        simp only [hj, Option.bind_some] at h
        cases lo with
        | none => simp at h; exact ⟨0, k, by omega, by omega, by omega, by omega, fun cap hc => by simp [rBound_le hj hc]⟩
        | some i =>
          cases hb : rBound i k with
          | none => simp [hb] at h
          | some q => simp [hb] at h; have := rBound_some hb; exact ⟨q, k, by omega, by omega, by omega, by omega, fun cap hc => by simp [rBound_le hj hc, hb]⟩
  · cases h
theorem sizes (hw : WR M pl H w) {l : Nat} {f g : Bool} {z esz : Nat} {es : List (List IV)} (hH : H l = some (.arr f g z es)) (hz : okE z esz = true) {b q cap e len : Nat} (hp : pl l = some (.arr b q cap e len)) : e = esz ∨ cap = 0 := by
  obtain ⟨p, hp', hB⟩ := hw.blk l _ hH
  rw [hp] at hp'; cases hp'
  obtain ⟨⟨h1, h2⟩, _, hB'⟩ := hB
  obtain ⟨_, _, _, _, _, _, h3, _⟩ := hB'
  rcases h1 with rfl | ⟨rfl, rfl⟩
  · rcases okE_or hz with h | h
    · exact .inl h
    · omega
  · exact .inr (h2 rfl)
theorem slO_ok (hw : WR M pl H w) {t e : TypeId} {ie : TypeInfo} (hu : P.underlying t = some (.slice e)) (hie : P.info? e = some ie) {l o n : Nat} {f g : Bool} {z : Nat} {es : List (List IV)} (hH : H l = some (.arr f g z es)) (hz : okE z ie.size = true)
    {lo hi : Option Int} {v : Value} {vlo vhi : Option Value} (hx : LR M pl (.slo l o n) v) (hlo : OI M lo vlo) (hhi : OI M hi vhi) {ef : Eff}
    (h : ((real .cuts o n (real .ln es) lo hi none).bind fun (o', n') => one (.slo l o' n')) = some ef) : PureOK P (Instr.sliceAt t v vlo vhi none) M pl w ef := by
  rw [real_cuts, real_ln] at h
  cases hc : rCuts o n es.length lo hi none with
  | none => simp [hc] at h
  | some on =>
    obtain ⟨o', n'⟩ := on
    simp only [hc, Option.bind_some] at h
    have := one_eq h; subst this
    obtain ⟨hon, k1, k2, rfl, rfl, hk1, hk2, hb⟩ := rCuts_none hc
    obtain ⟨p, hp, hB⟩ := hw.blk l _ hH
    rcases hx with ⟨h1, rfl, rfl, a0, rfl⟩ | ⟨b, q, cap, esz, len, a, h1, hol, rfl, ha⟩
    · rw [hp] at h1; cases h1
      have hes : es = [] := hB
      subst hes
      simp at hk2
      have hk : k1 = 0 ∧ k2 = 0 := by omega
      obtain ⟨rfl, rfl⟩ := hk
      refine ⟨.slice a0 0 0, ?_, .inl ⟨hp, rfl, rfl, a0, rfl⟩, rfl, rfl⟩
      have e := run_sliceBounds (P := P) (w := w) (M := M) (len := 0) (cap := 0) hlo hhi true (by simp) (hb 0 (by simp))
      simp only [Instr.sliceAt, Instr.slice, Sem.run_bind, run_under hu, Result.andThen_ok, e, run_sizeOf hie, Sem.run_pure]
      rfl
    · rw [hp] at h1; cases h1
      have hlen := hB.2.1
      have hcap : es.length ≤ cap := by obtain ⟨_, _, _, _, _, _, _, h2, _⟩ := hB; exact h2
      have e := run_sliceBounds (P := P) (w := w) (M := M) (len := n) (cap := cap - o) hlo hhi true (by simp; omega) (hb (cap - o) (by omega))
      refine ⟨.slice (if cap - o = k1 then a else a.map (·.add (k1 * ie.size))) (k2 - k1) (cap - o - k1), ?_, .inr ⟨b, q, cap, esz, len, _, hp, by omega, by rw [show cap - (o + k1) = cap - o - k1 by omega], fun hpos => ?_⟩, rfl, rfl⟩
      · simp only [Instr.sliceAt, Instr.slice, Sem.run_bind, run_under hu, Result.andThen_ok, e, run_sizeOf hie, Sem.run_pure]
      · rw [if_neg (by omega), ha (by omega)]
        rcases sizes hw hH hz hp with rfl | h0
        · simp [addr_add, Nat.add_mul]; omega
        · omega
theorem rCuts_some {o n ext : Nat} {lo hi : Option Int} {m : Int} {o' n' : Nat} (h : rCuts o n ext lo hi (some m) = some (o', n')) : o + n ≤ ext ∧ hi = some m ∧ ∃ l k, o' = o + l ∧ n' = k - l ∧ rCut n lo hi = some (l, k) := by
  unfold rCuts at h
  split at h
  · rename_i hon
    simp only at h
    split at h
    · rename_i hh
      subst hh
      refine ⟨hon, rfl, ?_⟩
      cases hj : rBound m n with
      | none => simp [hj] at h
      | some k =>
        simp only [hj, Option.bind_some] at h
        cases lo with
        | none => simp at h; exact ⟨0, k, by omega, by omega, by simp [rCut, hj]⟩
        | some i =>
          cases hb : rBound i k with
          | none => simp [hb] at h
          | some q => simp [hb] at h; exact ⟨q, k, by omega, by omega, by simp [rCut, hj, hb]⟩
    · cases h
  · cases h
theorem seg_cut (es : List (List IV)) (o n l k : Nat) (h1 : l ≤ k) (h2 : k ≤ n) : ((rSeg es o n).take k).drop l = rSeg es (o + l) (k - l) := by
  simp only [rSeg, List.take_take, Nat.min_eq_left h2, List.drop_take, List.drop_drop]
theorem slO3_ok (hw : WR M pl H w) {t e : TypeId} {ie : TypeInfo} (hu : P.underlying t = some (.slice e)) (hie : P.info? e = some ie) {l o n : Nat} {f g : Bool} {z : Nat} {es : List (List IV)} (hH : H l = some (.arr f g z es)) (hz : okE z ie.size = true)
    {lo hi : Option Int} {m : Int} {v : Value} {vlo vhi : Option Value} {vmx : Value} {km : IntKind} (hx : LR M pl (.slo l o n) v) (hlo : OI M lo vlo) (hhi : OI M hi vhi) (hmx : vmx = .int km m) {ef : Eff}
    (h : ((real .cuts o n (real .ln es) lo hi (some m)).bind fun (o', n') => some (⟨.one (.iv (.sl true z (real .seg es o' n'))), bumps H [l], []⟩ : Eff)) = some ef) : OpOK P (Instr.sliceAt t v vlo vhi (some vmx)) M pl H w ef := by
  rw [real_cuts, real_ln] at h
  cases hc : rCuts o n es.length lo hi (some m) with
  | none => simp [hc] at h
  | some on =>
    obtain ⟨o', n'⟩ := on
    simp only [hc, Option.bind_some, Option.some.injEq] at h
    subst h
    obtain ⟨hon, hh, k1, k2, rfl, rfl, hcut⟩ := rCuts_some hc
    obtain ⟨h1, h2, h3⟩ := rCut_bound hcut
    obtain ⟨M', hw', hf', hir⟩ := hw.freeze hH
    have hI := hir o n v hx
    obtain ⟨a, c, rfl, hon', hcc⟩ := slo_inv hw hx hH
    have hsl : (rSeg es o n).length = n := by simp [rSeg]; omega
    have hs : z = ie.size ∨ rSeg es o n = [] := sl_esz hz hI
    have hu2 : upF H (bumps H [l]) = upd H l (.arr true g z es) := by simp [bumps, hH, upF]
    have hcn : n ≤ c := by omega
    have e3 := run_cut3 (P := P) (w := w) (M := M) hlo hhi hmx hh hcn hcut
    have hI2 := IR.cut (full' := true) hI h1 (by rw [hsl]; exact h2) (Nat.le_refl k2) (Nat.le_trans h2 hcn) hs (fun _ => rfl)
    rw [seg_cut es o n k1 k2 h1 h2] at hI2
    refine ⟨_, w, M', pl, ?_, ⟨hf', by rw [apF_ups, hu2]; exact hw', hI2, fun _ _ h _ => h, fun _ _ h => .inl h, fun l' f' z' es' h' => ?_⟩⟩
    · simp only [Instr.sliceAt, Instr.slice, Sem.run_bind, run_under hu, Result.andThen_ok, e3, run_sizeOf hie, Sem.run_pure]
    · rw [apF_ups, hu2]
      by_cases e : l' = l
      · subst e; rw [hH] at h'; cases h'; exact ⟨_, _, _, upd_same _ _ _⟩
      · rw [upd_other _ _ e]; exact ⟨_, _, _, h'⟩
def loB (lo : Option Int) (h : Nat) : Option Nat := match lo with | none => some 0 | some l => rBound l h
theorem run_cut3u {len cap : Nat} {lo : Option Int} {hh m : Int} {vlo : Option Value} {kh km : IntKind} (hlo : OI M lo vlo) (hc : len ≤ cap) {k h' l' : Nat} (e1 : rBound m len = some k) (e2 : rBound hh k = some h') (e3 : loB lo h' = some l') :
    (Instr.sliceBounds true len cap vlo (some (.int kh hh)) (some (.int km m))).run P w = .ok (l', h', k) w := by
  have b1 : rBound m cap = some k := rBound_le e1 hc
  cases lo with
  | none =>
    cases vlo with
    | some _ => exact hlo.elim
    | none =>
      simp [loB] at e3; subst e3
      simp [Instr.sliceBounds, run_sliceBound rfl _ b1, run_sliceBound rfl _ e2]
  | some li =>
    cases vlo with
    | none => exact hlo.elim
    | some vl =>
      obtain ⟨kl, rfl⟩ := hlo
      have e3 : rBound li h' = some l' := e3
      simp [Instr.sliceBounds, run_sliceBound rfl _ b1, run_sliceBound rfl _ e2, run_sliceBound rfl _ e3]
theorem slOU_ok (hw : WR M pl H w) {t e : TypeId} {ie : TypeInfo} (hu : P.underlying t = some (.slice e)) (hie : P.info? e = some ie) {l o n : Nat} {f g : Bool} {z : Nat} {es : List (List IV)} (hH : H l = some (.arr f g z es)) (hz : okE z ie.size = true)
    {lo : Option Int} {hh m : Int} {v : Value} {vlo vhi : Option Value} {vmx : Value} {km : IntKind} (hx : LR M pl (.slo l o n) v) (hlo : OI M lo vlo) (hhi : OI M (some hh) vhi) (hmx : vmx = .int km m) {ef : Eff}
    (h : ((real .cuts o n (real .ln es) (some hh) (some m) (some m)).bind fun _ => (real .cuts o n (real .ln es) lo (some hh) none).bind fun _ => one .undef) = some ef) : PureOK P (Instr.sliceAt t v vlo vhi (some vmx)) M pl w ef := by
  rw [real_cuts, real_ln] at h
  cases hc : rCuts o n es.length (some hh) (some m) (some m) with
  | none => simp [hc] at h
  | some on =>
    rw [hc, Option.bind_some] at h
    obtain ⟨o', n'⟩ := on
    obtain ⟨hon, _, k1, k2, _, _, hcut⟩ := rCuts_some hc
    rw [real_cuts] at h
    cases hc2 : rCuts o n es.length lo (some hh) none with
    | none => simp [hc2] at h
    | some on2 =>
      rw [hc2, Option.bind_some] at h
      have := one_eq h; subst this
      cases vhi with
      | none => exact hhi.elim
      | some vh =>
        obtain ⟨kh, rfl⟩ := hhi
        subst hmx
        obtain ⟨a, c, rfl, hon', hcc⟩ := slo_inv hw hx hH
        have hcn : n ≤ c := by omega
        unfold rCut at hcut
        simp only at hcut
        cases e1 : rBound m n with
        | none => simp [e1] at hcut
        | some k =>
          simp only [e1, Option.bind_some] at hcut
          cases e2 : rBound hh k with
          | none => simp [e2] at hcut
          | some h' =>
            have e2' := rBound_some e2
            unfold rCuts at hc2
            rw [if_pos hon] at hc2
            simp only at hc2
            cases e4 : rBound hh (es.length - o) with
            | none => simp [e4] at hc2
            | some h2 =>
              have e4' := rBound_some e4
              have hh2 : h2 = h' := by omega
              subst hh2
              simp only [e4, Option.bind_some] at hc2
              cases e3 : loB lo h2 with
              | none => cases lo <;> simp [loB] at e3 <;> simp [e3] at hc2
              | some l' =>
                have e5 := run_cut3u (P := P) (w := w) (M := M) (vlo := vlo) (kh := kh) (km := km) (hh := hh) (m := m) hlo hcn e1 e2 e3
                obtain ⟨r, hr⟩ : ∃ r, (Instr.sliceAt t (.slice a n c) vlo (some (.int kh hh)) (some (.int km m))).run P w = .ok r w := by
                  simp only [Instr.sliceAt, Instr.slice, Sem.run_bind, run_under hu, Result.andThen_ok, e5, run_sizeOf hie, Sem.run_pure]
                  exact ⟨_, rfl⟩
                exact ⟨r, hr, trivial, rfl, rfl⟩
theorem ixO_ok (hw : WR M pl H w) {t e : TypeId} {ie : TypeInfo} (hu : P.underlying t = some (.slice e)) (hie : P.info? e = some ie) (hp0 : 0 < ie.size) {l o n : Nat} {f g : Bool} {z : Nat} {es : List (List IV)} (hH : H l = some (.arr f g z es)) (hz : z = ie.size)
    {k : IntKind} {i : Int} {v vi : Value} (hx : LR M pl (.slo l o n) v) (hi : IR M (.int k i) vi) {ef : Eff}
    (h : ((real .at_ i n).bind fun k => one (.apt l (addO real o k) 0)) = some ef) : PureOK P (Instr.indexAt t v vi) M pl w ef := by
  cases hi
  rw [real_at] at h
  cases hk : rIdx i n with
  | none => simp [hk] at h
  | some k' =>
    obtain ⟨h0, hn, rfl⟩ := rIdx_some hk
    simp only [hk, Option.bind_some] at h
    have := one_eq h; subst this
    rcases hx with ⟨h1, rfl, rfl, a0, rfl⟩ | ⟨b, q, cap, esz, len, a, h1, hol, rfl, ha⟩
    · omega
    · obtain ⟨p, hp, hB⟩ := hw.blk l _ hH
      rw [hp] at h1; cases h1
      have hcap : es.length ≤ cap := by obtain ⟨_, _, _, _, _, _, _, h2, _⟩ := hB; exact h2
      have hlen := hB.2.1
      have ha' := ha (by omega)
      subst ha'
      have hse : esz = ie.size := by
        rcases sizes (esz := ie.size) hw hH (by rw [hz]; simp [okE]) hp with h | h
        · exact h
        · omega
      subst hse
      refine ⟨.pointer (some ⟨b, q + o * ie.size + i.toNat * ie.size, none⟩), ?_, ⟨b, q, cap, ie.size, len, hp, ?_⟩, rfl, rfl⟩
      · have hi2 : i < (n : Int) := hn
        simp [Instr.indexAt, asIntOf, run_under hu, h0, hi2, run_sizeOf hie, addr_add]
      · cases o with
        | zero => simp [addO]
        | succ o => simp only [addO, real_addN, Nat.add_mul, Nat.add_zero, Nat.one_mul, Nat.add_assoc]
/-! ### Variables -/
theorem box_ok (hw : WR M pl H w) {t : TypeId} {x : FV} {v : Value} (hx : FR M pl x v) {nx : Nat} {ef : Eff} (hn : nx ∈ fsts ef.ups → H nx = none)
    (h : ((cellsOf x).bind fun c => some (⟨.one (.ptr nx 0), [(nx, .var false c)], []⟩ : Eff)) = some ef) : OpOK P (Instr.box t v) M pl H w ef := by
  cases hc : cellsOf x with
  | none => simp [hc] at h
  | some c =>
    simp only [hc, Option.bind_some, Option.some.injEq] at h
    subst h
    have hn := hn (by simp [fsts])
    obtain ⟨h1, h2⟩ := cellsOf_CsR hx hc
    obtain ⟨k1, k2, k3⟩ := hw.addVar hn h1 t
    refine ⟨.pointer (some ⟨w.heap.size, 0, none⟩), _, M, _, by simp [Instr.box, newVar, newRow], ⟨k2, by rw [apF_ups]; exact k1, ⟨w.heap.size, upd_same _ _ _, rfl⟩, fun l p h _ => k3 l p h, fun l p h => .inl (k3 l p h), fun l f z es h => ?_⟩⟩
    rw [apF_ups]
    have : l ≠ nx := fun e => by subst e; rw [hn] at h; cases h
    exact ⟨f, z, es, by simp [upF, upd_other _ _ this, h]⟩
end GoV
/- Stores. -/
set_option linter.unusedSimpArgs false
set_option linter.unusedVariables false
namespace GoV
open Go
variable {P : Program} {M : Mem} {pl : Pls} {w : World} {H : Hp}
theorem CsR.lay {cs c cs' : List LV} {vs us : List Value} (h : CsR M pl cs vs) (k : CsR M pl c us) {o : Nat} (hl : lay cs o c = some cs') :
    CsR M pl cs' (vs.take o ++ us ++ vs.drop (o + us.length)) ∧ o + us.length ≤ vs.length := by
  obtain ⟨fl, h1, h2, h3⟩ := h
  obtain ⟨gl, k1, k2, k3⟩ := k
  obtain ⟨l1, l2⟩ := lay_flat cs fl o c gl cs' h1 k1 hl
  refine ⟨⟨_, l1, by simp; omega, fun j x v hx hv => ?_⟩, by omega⟩
  rw [List.append_assoc] at hx hv
  by_cases c1 : j < o
  · rw [List.getElem?_append_left (by simp; omega), List.getElem?_take, if_pos c1] at hx hv
    exact h3 _ _ _ hx hv
  · rw [List.getElem?_append_right (by simp; omega)] at hx hv
    by_cases c2 : j - o < gl.length
    · rw [List.getElem?_append_left (by simp; omega)] at hx hv
      simp only [List.length_take, Nat.min_eq_left (show o ≤ fl.length by omega), Nat.min_eq_left (show o ≤ vs.length by omega)] at hx hv
      exact k3 _ _ _ hx hv
    · rw [List.getElem?_append_right (by simp; omega)] at hx hv
      simp only [List.length_take, Nat.min_eq_left (show o ≤ fl.length by omega), Nat.min_eq_left (show o ≤ vs.length by omega), List.getElem?_drop] at hx hv
      rw [← k2] at hv
      exact h3 _ _ _ hx hv
theorem frozen_of_heap {w : World} {b : Nat} {vs : Array Value} {t : TypeId} (h : w.heap[b]? = some (.cells vs t (0, 0))) (j : Nat) : w.frozen? ⟨b, j, none⟩ = false := by
  simp [World.frozen?, h]
theorem var_write (hw : WR M pl H w) {l b o : Nat} {cs cs' c : List LV} {us : List Value} (hH : H l = some (.var false cs)) (hb : pl l = some (.var b)) (hc : CsR M pl c us) (hl : lay cs o c = some cs') (h1 : ∀ u, u ∈ us → u.oneCell' = true) :
    (∀ j, j < us.length → (w.cell? ⟨b, o + j, none⟩).isSome = true) ∧ (∀ j, j < us.length → w.frozen? ⟨b, o + j, none⟩ = false) ∧
    WR M pl (upd H l (.var false cs')) (w.setCells b o us) ∧ Fr M pl w M pl (w.setCells b o us) := by
  obtain ⟨p, hp, hB⟩ := hw.blk l _ hH
  rw [hb] at hp; cases hp
  obtain ⟨vs, t, e1, e2, e3⟩ := hB
  obtain ⟨k1, k2⟩ := e2.lay hc hl
  have hs := setCells_heap b us o w vs t (0, 0) e1 (by simpa using k2)
  have hM : ∀ j, M b j = none := fun j => by
    cases hMj : M b j with
    | none => rfl
    | some v =>
      have := hw.mem b j v hMj
      rw [cell_of_heap e1] at this
      rw [e3 j v this] at hMj
      simp at hMj
  refine ⟨fun j hj => by rw [cell_of_heap e1]; simp at k2; simp; omega, fun j _ => frozen_of_heap e1 _, ?_⟩
  refine hw.write hb rfl (setCells_same b us o w) (fun k hk => setCells_other b us o w k hk) (fun j v h => by rw [hM j] at h; cases h) ⟨_, t, hs, by simpa using k1, fun j v _ => by simp [hM j]⟩
theorem pti_write (hw : WR M pl H w) {l b o n : Nat} {i : Int} {cs cs' : List LV} {xs ys : List IV} {y : IV} {u : Value} (hH : H l = some (.var false cs)) (hb : pl l = some (.var b)) (hr : rowAt cs o = some (n, xs)) (hy : real .setc xs i y = some ys)
    (hs : rowSet cs o ys = some cs') (hu : IR M y u) (h0 : 0 ≤ i) :
    (w.cell? ⟨b, o + i.toNat, none⟩).isSome = true ∧ w.frozen? ⟨b, o + i.toNat, none⟩ = false ∧
    WR M pl (upd H l (.var false cs')) (w.setCells b (o + i.toNat) [u]) ∧ Fr M pl w M pl (w.setCells b (o + i.toNat) [u]) := by
  obtain ⟨p, hp, hB⟩ := hw.blk l _ hH
  rw [hb] at hp; cases hp
  obtain ⟨vs, t, e1, e2, e3⟩ := hB
  obtain ⟨fl, f1, f2, f3⟩ := e2
  obtain ⟨r1, r2, r3, r4⟩ := rowAt_flat cs fl o n xs f1 hr
  rw [real_setc] at hy
  split at hy
  · rename_i hc
    cases hy
    have hfs := rowSet_flat cs fl o n xs (xs.set i.toNat y) cs' f1 hr (by simp [r1]) (by
      rw [List.all_eq_true] at r2 ⊢
      intro z hz
      rcases List.mem_or_eq_of_mem_set hz with h | rfl
      · exact r2 z h
      · exact hc.2.2) hs
    have hil : o + i.toNat < vs.size := by have := f2; simp at this; omega
    have hM : ∀ j, M b j = none := fun j => by
      cases hMj : M b j with
      | none => rfl
      | some v =>
        have := hw.mem b j v hMj
        rw [cell_of_heap e1] at this
        rw [e3 j v this] at hMj
        simp at hMj
    refine ⟨by rw [cell_of_heap e1]; simp; omega, frozen_of_heap e1 _, ?_⟩
    have hsh := setCells_heap b [u] (o + i.toNat) w vs t (0, 0) e1 (by simp; omega)
    refine hw.write hb rfl (setCells_same b [u] _ w) (fun k hk => setCells_other b [u] _ w k hk) (fun j v h => by rw [hM j] at h; cases h) ⟨_, t, hsh, ⟨_, hfs, ?_, fun j x v hx hv => ?_⟩, fun j v _ => by simp [hM j]⟩
    · have := f2
      simp at this ⊢
      omega
    · have hfe : fl.take o ++ (xs.set i.toNat y).map LV.iv ++ fl.drop (o + n) = fl.set (o + i.toNat) (.iv y) := by
        apply List.ext_getElem?
        intro j
        rw [List.getElem?_set, List.append_assoc]
        by_cases c1 : j < o
        · rw [List.getElem?_append_left (by simp; omega), List.getElem?_take, if_pos c1, if_neg (by omega)]
        · rw [List.getElem?_append_right (by simp; omega)]
          simp only [List.length_take, Nat.min_eq_left (show o ≤ fl.length by omega)]
          by_cases c2 : j - o < n
          · rw [List.getElem?_append_left (by simp; omega), List.getElem?_map, List.getElem?_set]
            by_cases c3 : i.toNat = j - o
            · rw [if_pos c3, if_pos (by omega), if_pos (by omega), if_pos (by omega)]; rfl
            · rw [if_neg c3, if_neg (by omega)]
              have hjx : j - o < xs.length := by omega
              have := r4 (j - o) xs[j - o] (by simp)
              rw [show o + (j - o) = j by omega] at this
              rw [this]; simp [hjx]
          · rw [List.getElem?_append_right (by simp; omega), if_neg (by omega)]
            simp only [List.length_map, List.length_set, List.getElem?_drop]
            congr 1; omega
      rw [hfe] at hx
      have hve : (vs.toList.take (o + i.toNat) ++ [u] ++ vs.toList.drop (o + i.toNat + [u].length)) = vs.toList.set (o + i.toNat) u := by
        rw [List.set_eq_take_append_cons_drop, if_pos (by simpa using hil)]
        simp
      simp only [hve] at hv
      rw [List.getElem?_set] at hx hv
      by_cases c : o + i.toNat = j
      · rw [if_pos c] at hx hv
        rw [if_pos (by omega)] at hx
        rw [if_pos (by simp; omega)] at hv
        cases hx; cases hv
        exact hu
      · rw [if_neg c] at hx hv
        exact f3 j x v hx hv
  · cases hy
end GoV
/- Elements in memory; append. -/
set_option linter.unusedSimpArgs false
set_option linter.unusedVariables false
namespace GoV
open Go
variable {P : Program} {M : Mem} {pl : Pls} {w : World} {H : Hp}
def ElR (M : Mem) (A : Nat → Option Value) (esz : Nat) (es : List (List IV)) : Prop :=
  ∃ f : Nat → List IV, (∀ i cs, es[i]? = some cs → flatI cs = some (f i)) ∧ (∀ i, i < es.length → (f i).length = esz) ∧ ∀ i j x, i < es.length → (f i)[j]? = some x → ∃ u, A (i * esz + j) = some u ∧ IR M x u
theorem ElR.nil (A : Nat → Option Value) (esz : Nat) : ElR M A esz [] := ⟨fun _ => [], by simp, by simp, by simp⟩
theorem ElR.mono {M' : Mem} (h : ∀ b j v, M b j = some v → M' b j = some v) {A : Nat → Option Value} {esz : Nat} {es : List (List IV)} (r : ElR M A esz es) : ElR M' A esz es := by
  obtain ⟨f, h1, h2, h3⟩ := r
  exact ⟨f, h1, h2, fun i j x hi hx => by obtain ⟨u, hu, hr⟩ := h3 i j x hi hx; exact ⟨u, hu, hr.mono h⟩⟩
theorem lt_mul {i j n e : Nat} (hi : i < n) (hj : j < e) : i * e + j < n * e := by
  have : (i + 1) * e ≤ n * e := Nat.mul_le_mul_right _ (by omega)
  rw [Nat.add_mul] at this; omega
theorem get_lt {α : Type} {l : List α} {j : Nat} {x : α} (h : l[j]? = some x) : j < l.length := by
  rcases Nat.lt_or_ge j l.length with h' | h'
  · exact h'
  · simp [List.getElem?_eq_none h'] at h
theorem ElR.cells {A : Nat → Option Value} {esz : Nat} {es : List (List IV)} (h : ElR M A esz es) : ∀ k, k < es.length * esz → ∃ u, A k = some u ∧ u.oneCell' = true := by
  obtain ⟨f, h1, h2, h3⟩ := h
  intro k hk
  have he : 0 < esz := by rcases Nat.eq_zero_or_pos esz with rfl | h <;> omega
  have hi : k / esz < es.length := Nat.div_lt_of_lt_mul (by rwa [Nat.mul_comm])
  have hj : k % esz < (f (k / esz)).length := by rw [h2 _ hi]; exact Nat.mod_lt _ he
  obtain ⟨u, hu, hr⟩ := h3 (k / esz) (k % esz) _ hi (List.getElem?_eq_getElem hj)
  refine ⟨u, ?_, (IR.one hr).1⟩
  rw [← hu]; congr 1
  rw [Nat.mul_comm]; exact (Nat.div_add_mod k esz).symm
theorem ElR.congr {A B : Nat → Option Value} {esz : Nat} {es : List (List IV)} (h : ElR M A esz es) (e : ∀ k, k < es.length * esz → B k = A k) : ElR M B esz es := by
  obtain ⟨f, h1, h2, h3⟩ := h
  refine ⟨f, h1, h2, fun i j x hi hx => ?_⟩
  obtain ⟨u, hu, hr⟩ := h3 i j x hi hx
  have hj := get_lt hx
  rw [h2 i hi] at hj
  exact ⟨u, by rw [e _ (lt_mul hi hj)]; exact hu, hr⟩
theorem ElR.append {A B C : Nat → Option Value} {esz : Nat} {es ys : List (List IV)} (h : ElR M A esz es) (k : ElR M B esz ys) (e1 : ∀ i, i < es.length * esz → C i = A i) (e2 : ∀ i, i < ys.length * esz → C (es.length * esz + i) = B i) : ElR M C esz (es ++ ys) := by
  obtain ⟨f, h1, h2, h3⟩ := h
  obtain ⟨g, k1, k2, k3⟩ := k
  refine ⟨fun i => if i < es.length then f i else g (i - es.length), fun i cs hi => ?_, fun i hi => ?_, fun i j x hi hx => ?_⟩
  · dsimp only
    by_cases c : i < es.length
    · rw [if_pos c]; rw [List.getElem?_append_left c] at hi; exact h1 i cs hi
    · rw [if_neg c]; rw [List.getElem?_append_right (by omega)] at hi; exact k1 _ cs hi
  · dsimp only
    by_cases c : i < es.length
    · rw [if_pos c]; exact h2 i c
    · rw [if_neg c]; simp at hi; exact k2 _ (by omega)
  · dsimp only at hx
    by_cases c : i < es.length
    · rw [if_pos c] at hx
      obtain ⟨u, hu, hr⟩ := h3 i j x c hx
      have hj := get_lt hx
      rw [h2 i c] at hj
      exact ⟨u, by rw [e1 _ (lt_mul c hj)]; exact hu, hr⟩
    · rw [if_neg c] at hx
      simp at hi
      obtain ⟨u, hu, hr⟩ := k3 (i - es.length) j x (by omega) hx
      have hj := get_lt hx
      rw [k2 _ (by omega)] at hj
      refine ⟨u, ?_, hr⟩
      rw [← hu, ← e2 _ (lt_mul (show i - es.length < ys.length by omega) hj)]
      congr 1
      have : i * esz = es.length * esz + (i - es.length) * esz := by rw [← Nat.add_mul]; congr 1; omega
      omega
theorem rOver_get (es ys : List (List IV)) (o : Nat) (h : o + ys.length ≤ es.length) (i : Nat) : (rOver es o ys)[i]? = if o ≤ i ∧ i < o + ys.length then ys[i - o]? else es[i]? := by
  unfold rOver
  rw [List.append_assoc]
  by_cases c1 : i < o
  · rw [List.getElem?_append_left (by simp; omega), List.getElem?_take, if_pos c1, if_neg (by omega)]
  · rw [List.getElem?_append_right (by simp; omega)]
    simp only [List.length_take, Nat.min_eq_left (show o ≤ es.length by omega)]
    by_cases c2 : i < o + ys.length
    · rw [List.getElem?_append_left (by omega), if_pos ⟨by omega, c2⟩]
    · rw [List.getElem?_append_right (by omega), if_neg (by omega), List.getElem?_drop]
      congr 1; omega
theorem rOver_len (es ys : List (List IV)) (o : Nat) (h : o + ys.length ≤ es.length) : (rOver es o ys).length = es.length := by simp [rOver]; omega
theorem ElR.over {A B C : Nat → Option Value} {esz : Nat} {es ys : List (List IV)} (h : ElR M A esz es) (k : ElR M B esz ys) {o : Nat} (ho : o + ys.length ≤ es.length)
    (e : ∀ i, C i = if o * esz ≤ i ∧ i < (o + ys.length) * esz then B (i - o * esz) else A i) : ElR M C esz (rOver es o ys) := by
  obtain ⟨f, h1, h2, h3⟩ := h
  obtain ⟨g, k1, k2, k3⟩ := k
  refine ⟨fun i => if o ≤ i ∧ i < o + ys.length then g (i - o) else f i, fun i cs hi => ?_, fun i hi => ?_, fun i j x hi hx => ?_⟩
  · dsimp only
    rw [rOver_get es ys o ho] at hi
    by_cases c : o ≤ i ∧ i < o + ys.length
    · rw [if_pos c] at hi ⊢; exact k1 _ cs hi
    · rw [if_neg c] at hi ⊢; exact h1 _ cs hi
  · dsimp only
    rw [rOver_len es ys o ho] at hi
    by_cases c : o ≤ i ∧ i < o + ys.length
    · rw [if_pos c]; exact k2 _ (by omega)
    · rw [if_neg c]; exact h2 _ hi
  · dsimp only at hx
    rw [rOver_len es ys o ho] at hi
    by_cases c : o ≤ i ∧ i < o + ys.length
    · rw [if_pos c] at hx
      obtain ⟨u, hu, hr⟩ := k3 (i - o) j x (by omega) hx
      have hj := get_lt hx
      rw [k2 _ (by omega)] at hj
      refine ⟨u, ?_, hr⟩
      have h4 := lt_mul (show i - o < ys.length by omega) hj
      have h5 : i * esz = o * esz + (i - o) * esz := by rw [← Nat.add_mul]; congr 1; omega
      rw [e, if_pos ⟨by omega, by rw [Nat.add_mul]; omega⟩, ← hu]
      congr 1; omega
    · rw [if_neg c] at hx
      obtain ⟨u, hu, hr⟩ := h3 i j x hi hx
      have hj := get_lt hx
      rw [h2 i hi] at hj
      refine ⟨u, ?_, hr⟩
      rw [e, if_neg, hu]
      rintro ⟨c1, c2⟩
      apply c
      constructor
      · rcases Nat.lt_or_ge i o with h | h
        · have := lt_mul h hj; omega
        · exact h
      · rcases Nat.lt_or_ge i (o + ys.length) with h | h
        · exact h
        · have : (o + ys.length) * esz ≤ i * esz := Nat.mul_le_mul_right _ h
          omega
theorem ElR.seg {A : Nat → Option Value} {esz : Nat} {es : List (List IV)} (h : ElR M A esz es) (o n : Nat) : ElR M (fun k => A (o * esz + k)) esz (rSeg es o n) := by
  obtain ⟨f, h1, h2, h3⟩ := h
  have hl : (rSeg es o n).length ≤ es.length - o := by simp only [rSeg, List.length_take, List.length_drop]; omega
  refine ⟨fun i => f (o + i), fun i cs hi => ?_, fun i hi => h2 (o + i) (by have := hi; omega), fun i j x hi hx => ?_⟩
  · simp only [rSeg, List.getElem?_take] at hi
    split at hi
    · rw [List.getElem?_drop] at hi; exact h1 _ _ hi
    · cases hi
  · obtain ⟨u, hu, hr⟩ := h3 (o + i) j x (by omega) hx
    exact ⟨u, by rw [← hu]; show A (o * esz + (i * esz + j)) = _; congr 1; rw [Nat.add_mul]; omega, hr⟩
theorem ElR.of_sl {full : Bool} {z : Nat} {es : List (List IV)} {b o n c : Nat} {a : Option Addr} (h : IR M (.sl full z es) (.slice a n c)) (ha : 0 < es.length → a = some ⟨b, o, none⟩) : ElR M (fun k => M b (o + k)) z es := by
  obtain ⟨a', c', b', o', f, g, he, hc, hff, ha', hz, hfl, hsz, hM, hr⟩ := h.sl_inv
  cases he
  refine ⟨f, hfl, hsz, fun i j x hi hx => ⟨g i j, ?_, hr i j x hi hx⟩⟩
  have e := ha (by omega)
  rw [ha' (by omega)] at e
  cases e
  rw [← hM i j x hi hx, Nat.add_assoc]
theorem src_cells (hw : WR M pl H w) {esz : Nat} {x : FV} {v : Value} (hx : FR M pl x v) {ys : List (List IV)} (h : srcOf real H esz x = some ys) (hns : ∀ s, v ≠ .string s) :
    ∃ a c, v = .slice a ys.length c ∧ ∃ B, ElR M B esz ys ∧ ∀ n, n ≤ ys.length → ∀ w' : World, w'.heap = w.heap → (Builtin.firstCells esz n v).run P w' = .ok ((List.range (n * esz)).map fun k => (B k).getD undef).toArray w' := by
  have fin : ∀ {a : Option Addr} {c b o : Nat} {B : Nat → Option Value}, ElR M B esz ys → (0 < ys.length → a = some ⟨b, o, none⟩) → (∀ k u, k < ys.length * esz → B k = some u → w.cell? ⟨b, o + k, none⟩ = some u) →
      ∀ n, n ≤ ys.length → ∀ w' : World, w'.heap = w.heap → (Builtin.firstCells esz n (.slice a ys.length c)).run P w' = .ok ((List.range (n * esz)).map fun k => (B k).getD undef).toArray w' := by
    intro a c b o B hE ha hc n hn w' hh
    rcases Nat.eq_zero_or_pos ys.length with h0 | h0
    · have : n = 0 := by omega
      subst this
      cases a <;> simp [Builtin.firstCells, loadCells, loadCellsFrom]
    · rw [ha h0]
      simp only [Builtin.firstCells]
      exact run_loadCells w' ⟨b, o, none⟩ (n * esz) _ (fun j hj => by
        have hj' : j < ys.length * esz := Nat.lt_of_lt_of_le hj (Nat.mul_le_mul_right _ hn)
        obtain ⟨u, hu, _⟩ := hE.cells j hj'
        have hcw := hc j u hj' hu
        have e : w'.cell? ⟨b, o + j, none⟩ = w.cell? ⟨b, o + j, none⟩ := by simp [World.cell?, hh]
        rw [addr_add, e, hcw, hu]
        rfl)
  unfold srcOf at h
  split at h
  · rename_i full z es
    simp only [cond_eq_ite] at h
    split at h
    · rename_i hz
      cases h
      have hs := sl_esz hz hx
      obtain ⟨a, c, b, o, f, g, rfl, hc, hff, ha, hz0, hfl, hsz, hM, hr⟩ := IR.sl_inv hx
      have hE : ElR M (fun k => M b (o + k)) esz ys := by
        rcases hs with rfl | rfl
        · exact ElR.of_sl hx ha
        · exact ElR.nil _ _
      exact ⟨a, c, rfl, _, hE, fin hE ha (fun k u _ hu => hw.mem _ _ _ hu)⟩
    · cases h
  · rename_i l o n
    split at h
    · rename_i f g z es hH
      simp only [cond_eq_ite] at h
      split at h
      · rename_i hz
        cases h
        obtain ⟨p, hp, hB⟩ := hw.blk l _ hH
        rw [real_seg]
        rcases hx with ⟨h1, rfl, rfl, a0, rfl⟩ | ⟨b, q, cap, e, len, a, h1, hol, rfl, ha⟩
        · rw [hp] at h1; cases h1
          have hes : es = [] := hB
          subst hes
          exact ⟨a0, 0, rfl, _, ElR.nil (fun _ => none) _, fun n hn w' hh => by
            have : n = 0 := by simp [rSeg] at hn; omega
            subst this
            cases a0 <;> simp [Builtin.firstCells, loadCells, loadCellsFrom]⟩
        · rw [hp] at h1; cases h1
          have hse := sizes hw hH hz hp
          obtain ⟨_, hlen, vs, t, fr, f', e1, e2, e3, e4, e5, e6, e7, e8, e9⟩ := hB
          have hsl : (rSeg es o n).length = n := by simp [rSeg]; omega
          have hE0 : ElR M (fun k => vs[q + k]?) e es := ⟨f', e6, e7, fun i j x hi hx => by
            obtain ⟨u, hu, hr⟩ := e8 i j x hi hx
            exact ⟨u, by rw [← hu, Nat.add_assoc], hr⟩⟩
          have hE : ElR M (fun k => vs[q + o * e + k]?) esz (rSeg es o n) := by
            rcases hse with rfl | h0
            · have := hE0.seg o n
              simpa only [Nat.add_assoc] using this
            · have : rSeg es o n = [] := by apply List.eq_nil_of_length_eq_zero; omega
              rw [this]; exact ElR.nil _ _
          have e0 : Value.slice a n (cap - o) = Value.slice a (rSeg es o n).length (cap - o) := by rw [hsl]
          rw [e0]
          refine ⟨a, cap - o, rfl, _, hE, fin hE (fun h => ha (by have h' : 0 < (rSeg es o n).length := h; omega)) (fun k u _ hu => ?_)⟩
          rw [cell_of_heap e1]; exact hu
      · cases h
    · cases h
  · rename_i s
    have hx : IR M (.str s) v := hx
    cases hx
    exact absurd rfl (hns s)
  · cases h
end GoV
/- Appending. -/
set_option linter.unusedSimpArgs false
set_option linter.unusedVariables false
namespace GoV
open Go
variable {P : Program} {M : Mem} {pl : Pls} {w : World} {H : Hp}
theorem growBy_le (n : Nat) : ∀ r c, Builtin.growBy n r c ≤ max c (n + (n + 768) / 4)
  | 0, c => by simp [Builtin.growBy]; omega
  | r + 1, c => by
    unfold Builtin.growBy
    split
    · omega
    · have := growBy_le n r (c + (c + 768) / 4); omega
theorem nextcap_le {n c : Nat} (h : c < n) : Builtin.nextslicecap n c ≤ n + n / 4 + 512 := by
  unfold Builtin.nextslicecap
  split
  · omega
  · split
    · omega
    · have := growBy_le n 4 c; omega
structure AppT (P : Program) (ts : Array TypeId) (esz bytes : Nat) : Prop where
  ex : ∃ t1 t2 e ie zv d2, ts[0]? = some t1 ∧ ts[1]? = some t2 ∧ P.underlying t1 = some (.slice e) ∧ P.info? e = some ie ∧ ie.size = esz ∧ ie.bytes = bytes ∧ ie.zero = some zv ∧ zv.cells.size = esz ∧ P.underlying t2 = some d2 ∧ ((∃ q, d2 = .slice q) ∨ d2 = .string) ∧ 0 < esz ∧ 0 < bytes ∧ bytes ≤ 4294967296
theorem run_append {ts : Array TypeId} {esz bytes : Nat} (ht : AppT P ts esz bytes) (ty : TypeId) {base : Option Addr} {sLen sCap n : Nat} {x : Value} {new : Array Value} (hx : ∀ w' : World, (Builtin.lenOf x).run P w' = .ok n w')
    (hnew : ∀ w' : World, w'.heap = w.heap → (Builtin.firstCells esz n x).run P w' = .ok new w') :
    (Builtin.append_ ts ty #[.slice base sLen sCap, x]).run P w =
      if sLen + n ≤ sCap then (match base with
        | some a => (storeCells (a.add (sLen * esz)) new.toList).run P w
        | none => .ok () w).andThen fun _ w' => .ok (.slice base (sLen + n) sCap) w'
      else (Builtin.append_ ts ty #[.slice base sLen sCap, x]).run P w := by
  obtain ⟨t1, t2, e, ie, zv, d2, h1, h2, h3, h4, h5, h6, h7, h8, h9, h10, h11, h12, h13⟩ := ht.ex
  by_cases hc : sLen + n ≤ sCap
  · rw [if_pos hc]
    have a0 : (#[Value.slice base sLen sCap, x])[0]? = some (Value.slice base sLen sCap) := rfl
    have a1 : (#[Value.slice base sLen sCap, x])[1]? = some x := rfl
    rcases h10 with ⟨q, rfl⟩ | rfl
    all_goals
      simp only [Builtin.append_, h1, h2, a0, a1, Sem.run_bind, run_under h3, Result.andThen_ok, run_sizeOf h4, h5, run_under h9, Sem.run_pure, Bool.false_eq_true, if_false, hx, Bool.not_false, if_true, if_pos hc, hnew w rfl]
      cases base with
      | none => rfl
      | some a => simp only [Sem.run_bind, Sem.run_pure]
  · rw [if_neg hc]
theorem run_append_grow {ts : Array TypeId} {esz bytes : Nat} (ht : AppT P ts esz bytes) (ty : TypeId) {base : Option Addr} {sLen sCap n : Nat} {x : Value} {old new : Array Value} (hx : ∀ w' : World, (Builtin.lenOf x).run P w' = .ok n w')
    (hnew : ∀ w' : World, w'.heap = w.heap → (Builtin.firstCells esz n x).run P w' = .ok new w') (hold : ∀ w' : World, w'.heap = w.heap → (Builtin.firstCells esz sLen (.slice base sLen sCap)).run P w' = .ok old w')
    (hc : sCap < sLen + n) (hr : (sLen + n) * bytes ≤ room) :
    ∃ (cap : Nat) (rest : Array Value) (e : TypeId), sLen + n ≤ cap ∧ rest.size = (cap - (sLen + n)) * esz ∧
      (Builtin.append_ ts ty #[.slice base sLen sCap, x]).run P w = .ok (.slice (some ⟨w.heap.size, 0, none⟩) (sLen + n) cap) (w.drew.alloc (.cells (old ++ new ++ rest) e)) := by
  obtain ⟨t1, t2, e, ie, zv, d2, h1, h2, h3, h4, h5, h6, h7, h8, h9, h10, h11, h12, h13⟩ := ht.ex
  have hn1 : sLen + n ≤ room := Nat.le_trans (Nat.le_mul_of_pos_right _ h12) hr
  have hbound : ¬ Builtin.nextslicecap (sLen + n) sCap * bytes > 2 ^ 48 := by
    have h' := nextcap_le hc
    have h'' : Builtin.nextslicecap (sLen + n) sCap * bytes ≤ ((sLen + n) + (sLen + n) / 4 + 512) * bytes := Nat.mul_le_mul_right _ h'
    have h3' : ((sLen + n) + (sLen + n) / 4 + 512) * bytes = (sLen + n) * bytes + ((sLen + n) / 4) * bytes + 512 * bytes := by rw [Nat.add_mul, Nat.add_mul]
    have h4' : ((sLen + n) / 4) * bytes ≤ ((sLen + n) * bytes) / 4 := by
      rw [Nat.le_div_iff_mul_le (by omega)]
      have := Nat.div_mul_le_self (sLen + n) 4
      calc (sLen + n) / 4 * bytes * 4 = ((sLen + n) / 4 * 4) * bytes := by rw [Nat.mul_assoc, Nat.mul_comm bytes 4, ← Nat.mul_assoc]
        _ ≤ (sLen + n) * bytes := Nat.mul_le_mul_right _ this
    simp only [room] at hr
    omega
  have hq : (Question.appendCap (sLen + n) sCap e).forced = false := rfl
  refine ⟨(Question.appendCap (sLen + n) sCap e).cut (w.tape w.drawn (.appendCap (sLen + n) sCap e)), Builtin.zeroCells zv.cells ((Question.appendCap (sLen + n) sCap e).cut (w.tape w.drawn (.appendCap (sLen + n) sCap e)) - (sLen + n)), e, ?_, ?_, ?_⟩
  · simp only [Question.cut]; omega
  · simp [Builtin.zeroCells, h8]
  · have hcc : ¬ sLen + n ≤ sCap := Nat.not_le.2 hc
    have hb0 : ¬ (((sLen + n : Nat) : Int) > IntKind.i64.max ∧ (False ∨ bytes = 0)) := fun ⟨_, h⟩ => h.elim id (fun h => by omega)
    have a0 : (#[Value.slice base sLen sCap, x])[0]? = some (Value.slice base sLen sCap) := rfl
    have a1 : (#[Value.slice base sLen sCap, x])[1]? = some x := rfl
    rcases h10 with ⟨q, rfl⟩ | rfl
    all_goals
      simp only [Builtin.append_, h1, h2, a0, a1, Sem.run_bind, run_under h3, Result.andThen_ok, run_sizeOf h4, h5, run_under h9, Sem.run_pure, Bool.false_eq_true, if_false, hx, Bool.not_false, if_true, if_neg hcc, run_info h4, h6]
      rw [if_neg hb0]
      simp only [Sem.run_bind, run_info h4, h6, Sem.run_pure, Result.andThen_ok, if_neg hbound, run_choose, hq, Bool.false_eq_true, if_false, run_askRoom, World.drew_eq]
      rw [hold w.drew rfl]
      simp only [Result.andThen_ok]
      rw [hnew w.drew rfl]
      simp only [Result.andThen_ok, zeroValue, Sem.run_bind, run_info h4, h7, Sem.run_pure, newRow, run_newObj, World.alloc_eq]
      rfl
end GoV
/- Arrays made, and moved when they grow. -/
set_option linter.unusedSimpArgs false
set_option linter.unusedVariables false
namespace GoV
open Go
variable {P : Program} {M : Mem} {pl : Pls} {w : World} {H : Hp}
theorem BR.of_El {w' : World} {b q cap esz : Nat} {vs : Array Value} {t : TypeId} {fr : Nat × Nat} (hbk : w'.heap[b]? = some (.cells vs t fr)) (hnf : ∀ j, (j < cap * esz ∨ esz ≠ 1 ∧ q + j = vs.size) → w'.frozen? ⟨b, q + j, none⟩ = false) (hz0 : 0 < esz) {es : List (List IV)} (hc : es.length ≤ cap)
    (hs : q + cap * esz ≤ vs.size) (hE : ElR M (fun k => vs[q + k]?) esz es) {z : Nat} (hz : z = esz ∨ z = 0 ∧ es = []) (hce : es.length = 0 → cap = 0) {f g : Bool}
    (hM : ∀ j, j < cap * esz → M b (q + j) = if f = true ∧ j < es.length * esz then vs[q + j]? else none) : BR M pl w' (.arr f g z es) (.arr b q cap esz es.length) := by
  obtain ⟨f', h1, h2, h3⟩ := hE
  exact ⟨⟨hz, hce⟩, rfl, vs, t, fr, f', hbk, hc, hz0, hs, hnf, h1, h2, fun i j x hi hx => by
    obtain ⟨u, hu, hr⟩ := h3 i j x hi hx
    exact ⟨u, by rw [← hu, Nat.add_assoc], hr⟩, hM⟩
theorem BR.to_El {b q cap esz len : Nat} {f g : Bool} {z : Nat} {es : List (List IV)} (h : BR M pl w (.arr f g z es) (.arr b q cap esz len)) :
    ∃ (vs : Array Value) (t : TypeId) (fr : Nat × Nat), w.heap[b]? = some (.cells vs t fr) ∧ es.length = len ∧ es.length ≤ cap ∧ 0 < esz ∧ q + cap * esz ≤ vs.size ∧ (∀ j, (j < cap * esz ∨ esz ≠ 1 ∧ q + j = vs.size) → w.frozen? ⟨b, q + j, none⟩ = false) ∧
      ElR M (fun k => vs[q + k]?) esz es ∧ (z = esz ∨ z = 0 ∧ es = []) ∧ (es.length = 0 → cap = 0) ∧ (∀ j, j < cap * esz → M b (q + j) = if f = true ∧ j < es.length * esz then vs[q + j]? else none) := by
  obtain ⟨⟨hz, hce⟩, hlen, vs, t, fr, f', h1, h2, h3, h4, h5, h6, h7, h8, h9⟩ := h
  exact ⟨vs, t, fr, h1, hlen, h2, h3, h4, h5, ⟨f', h6, h7, fun i j x hi hx => by
    obtain ⟨u, hu, hr⟩ := h8 i j x hi hx
    exact ⟨u, by rw [← hu, Nat.add_assoc], hr⟩⟩, hz, hce, h9⟩
theorem WR.addArr (hw : WR M pl H w) {n : Nat} (hn : H n = none) {w' : World} (he : Ext w w') {b cap esz : Nat} (hb : w.heap.size ≤ b) {vs : Array Value} {t : TypeId} {fr : Nat × Nat} (hbk : w'.heap[b]? = some (.cells vs t fr))
    (hnf : ∀ j, (j < cap * esz ∨ esz ≠ 1 ∧ 0 + j = vs.size) → w'.frozen? ⟨b, 0 + j, none⟩ = false) (hz0 : 0 < esz) {es : List (List IV)} (hc : es.length ≤ cap) (hs : cap * esz ≤ vs.size) (hE : ElR M (fun k => vs[k]?) esz es) {z : Nat} (hz : z = esz ∨ z = 0 ∧ es = []) (hce : es.length = 0 → cap = 0) (f : Bool) :
    ∃ M', WR M' (upd pl n (.arr b 0 cap esz es.length)) (upd H n (.arr f false z es)) w' ∧ Fr M pl w M' (upd pl n (.arr b 0 cap esz es.length)) w' ∧ ∀ l p, pl l = some p → upd pl n (.arr b 0 cap esz es.length) l = some p := by
  have hpn := hw.none_of hn
  have hM0 : ∀ j, M b j = none := fun j => by
    cases hMj : M b j with
    | none => rfl
    | some v => have := hw.mem_lt hMj; omega
  let M' : Mem := fun b' j => if f = true ∧ b' = b ∧ j < es.length * esz then vs[j]? else M b' j
  have hmm : ∀ b' j v, M b' j = some v → M' b' j = some v := fun b' j v h => by
    show (if f = true ∧ b' = b ∧ j < es.length * esz then vs[j]? else M b' j) = some v
    split
    · rename_i hc; rw [hc.2.1, hM0] at h; cases h
    · exact h
  have hmo : ∀ b' j, b' ≠ b → M' b' j = M b' j := fun b' j h => by
    show (if f = true ∧ b' = b ∧ j < es.length * esz then vs[j]? else M b' j) = M b' j
    rw [if_neg (by rintro ⟨_, h', _⟩; exact h h')]
  have inc : ∀ l p, pl l = some p → upd pl n (.arr b 0 cap esz es.length) l = some p := fun l p h => by
    by_cases e : l = n
    · subst e; rw [hpn] at h; cases h
    · rw [upd_other _ _ e]; exact h
  refine ⟨M', ⟨fun b' j v h => ?_, fun l B hB => ?_, fun l p hp => ?_, fun l l' p p' b' h1 h2 h3 h4 => ?_⟩, ⟨hmm, he.os, he.tape, he.output, he.size, he.drawn, fun k hk _ => he.old k hk, fun l p k h1 h2 => ?_, fun b' j v h => ?_⟩, inc⟩
  · by_cases e : b' = b
    · subst e
      have h : (if f = true ∧ b' = b' ∧ j < es.length * esz then vs[j]? else M b' j) = some v := h
      rw [hM0] at h
      split at h
      · rw [cell_of_heap hbk]; exact h
      · cases h
    · rw [hmo b' j e] at h; exact he.cell (hw.mem b' j v h)
  · by_cases e : l = n
    · subst e; rw [upd_same] at hB; cases hB
      refine ⟨_, upd_same _ _ _, BR.of_El hbk hnf hz0 hc (by rw [Nat.zero_add]; exact hs) (by simpa using hE.mono hmm) hz hce (fun j hj => ?_)⟩
      show (if f = true ∧ b = b ∧ 0 + j < es.length * esz then vs[0 + j]? else M b (0 + j)) = _
      rw [hM0]
      simp
    · rw [upd_other _ _ e] at hB
      obtain ⟨p, hp, hB'⟩ := hw.blk l B hB
      exact ⟨p, inc _ _ hp, hB'.keep hmm inc (fun k hk => he.old k (hw.block_lt hp hk)) (fun k hk j => hmo k j (by have := hw.block_lt hp hk; omega))⟩
  · by_cases e : l = n
    · subst e; exact ⟨_, upd_same _ _ _⟩
    · rw [upd_other _ _ e] at hp ⊢; exact hw.dom l p hp
  · by_cases e : l = n
    · by_cases e' : l' = n
      · rw [e, e']
      · subst e; rw [upd_same] at h1; cases h1
        rw [upd_other _ _ e'] at h2
        have := hw.block_lt h2 h4
        simp [Pl.block] at h3; omega
    · by_cases e' : l' = n
      · subst e'; rw [upd_same] at h2; cases h2
        rw [upd_other _ _ e] at h1
        have := hw.block_lt h1 h3
        simp [Pl.block] at h4; omega
      · rw [upd_other _ _ e] at h1; rw [upd_other _ _ e'] at h2; exact hw.inj _ _ _ _ _ h1 h2 h3 h4
  · by_cases e : l = n
    · subst e; rw [upd_same] at h1; cases h1; simp [Pl.block] at h2; exact .inl (by omega)
    · rw [upd_other _ _ e] at h1; exact .inr ⟨l, p, h1, h2⟩
  · by_cases e : b' = b
    · exact .inr (.inl (by omega))
    · rw [hmo b' j e] at h; exact .inl h
/-! ### Handles of an array that grows -/
def isArr : Pl → Prop
  | .var _ => False
  | _ => True
theorem CapR.kill {pl' : Pls} {l0 : Nat} (hp : ∀ l p, l ≠ l0 → pl l = some p → pl' l = some p) : ∀ {caps : List (Nat × Nat)} {vs : List Value}, capIn l0 caps = false → CapR pl caps vs → CapR pl' caps vs
  | [], [], _, _ => trivial
  | [], _ :: _, _, h => h.elim
  | _ :: _, [], _, h => h.elim
  | (l, o) :: r, v :: vs, hc, ⟨⟨b, h1, h2⟩, h3⟩ => by
    simp only [capIn, Bool.or_eq_false_iff] at hc
    have : l ≠ l0 := fun e => by subst e; simp at hc
    exact ⟨⟨b, hp l _ this h1, h2⟩, CapR.kill hp hc.2 h3⟩
theorem LR.kill {M' : Mem} {pl' : Pls} (h : ∀ b j v, M b j = some v → M' b j = some v) {l0 : Nat} (hp : ∀ l p, l ≠ l0 → pl l = some p → pl' l = some p) {x : LV} {v : Value} (r : LR M pl x v) : LR M' pl' (killL l0 x) v := by
  cases x with
  | iv x => exact IR.mono h r
  | ptr l o =>
    simp only [killL, cond_eq_ite]
    split
    · trivial
    · rename_i hc
      obtain ⟨b, h1, h2⟩ := r
      exact ⟨b, hp l _ (fun e => hc (by simp [e])) h1, h2⟩
  | pti l o i =>
    simp only [killL, cond_eq_ite]
    split
    · trivial
    · rename_i hc
      obtain ⟨b, h1, h2⟩ := r
      exact ⟨b, hp l _ (fun e => hc (by simp [e])) h1, h2⟩
  | cref cs o => exact LR.mono (x := .cref cs o) h (pl' := pl') (by simp [locL]) r
  | slo l o n =>
    simp only [killL, cond_eq_ite]
    split
    · trivial
    · rename_i hc
      have : l ≠ l0 := fun e => hc (by simp [e])
      rcases r with ⟨h1, h2⟩ | ⟨b, q, cap, esz, len, a, h1, h2⟩
      · exact .inl ⟨hp l _ this h1, h2⟩
      · exact .inr ⟨b, q, cap, esz, len, a, hp l _ this h1, h2⟩
  | apt l i j =>
    simp only [killL, cond_eq_ite]
    split
    · trivial
    · rename_i hc
      have : l ≠ l0 := fun e => hc (by simp [e])
      obtain ⟨b, q, cap, esz, len, h1, h2⟩ := r
      exact ⟨b, q, cap, esz, len, hp l _ this h1, h2⟩
  | fnc f caps =>
    simp only [killL, cond_eq_ite]
    split
    · trivial
    · rename_i hc
      obtain ⟨vs, h1, h2⟩ := r; exact ⟨vs, h1, CapR.kill hp (by simpa using hc) h2⟩
  | fresh _ => exact r
  | undef => trivial
theorem killL_na {l : Nat} {x : LV} (h : notArr x = true) : notArr (killL l x) = true := by
  cases x with
  | slo l' o n => simp only [killL, cond_eq_ite]; split <;> rfl
  | apt l' i j => simp only [killL, cond_eq_ite]; split <;> rfl
  | ptr l' i => simp only [killL, cond_eq_ite]; split <;> rfl
  | pti l' i j => simp only [killL, cond_eq_ite]; split <;> rfl
  | fnc f c => simp only [killL, cond_eq_ite]; split <;> rfl
  | _ => exact h
theorem flatL_kill {l : Nat} : ∀ {cs fl : List LV}, flatL cs = some fl → flatL (killLs l cs) = some (fl.map (killL l))
  | [], fl, h => by simp [flatL] at h; subst h; rfl
  | x :: r, fl, h => by
    rcases arr_or x with hx | ⟨n, xs, rfl⟩
    · obtain ⟨fr, h1, rfl⟩ := flatL_cons hx h
      simp only [killLs]
      rw [flatL_one (killL_na hx), flatL_kill h1]
      rfl
    · obtain ⟨h1, h2, fr, h3, rfl⟩ := flatL_arr h
      simp only [killLs, killL, flatL]
      rw [if_pos ⟨h1, h2⟩, flatL_kill h3]
      simp [killL, Function.comp_def]
theorem CsR.kill {M' : Mem} {pl' : Pls} (h : ∀ b j v, M b j = some v → M' b j = some v) {l0 : Nat} (hp : ∀ l p, l ≠ l0 → pl l = some p → pl' l = some p) {cs : List LV} {vs : List Value} (r : CsR M pl cs vs) : CsR M' pl' (killLs l0 cs) vs := by
  obtain ⟨fl, h1, h2, h3⟩ := r
  refine ⟨_, flatL_kill h1, by simp [h2], fun j x v hx hv => ?_⟩
  rw [List.getElem?_map] at hx
  cases hf : fl[j]? with
  | none => simp [hf] at hx
  | some y => simp [hf] at hx; subst hx; exact LR.kill h hp (h3 j y v hf hv)
theorem TR.kill {M' : Mem} {pl' : Pls} (h : ∀ b j v, M b j = some v → M' b j = some v) {l0 : Nat} (hp : ∀ l p, l ≠ l0 → pl l = some p → pl' l = some p) : ∀ {ts : List (Bool × List LV)} {vs : List Value}, TR M pl ts vs → TR M' pl' (killT l0 ts) vs
  | [], [], _ => trivial
  | (true, cs) :: r, v :: vs, ⟨⟨a, h1, h2⟩, h3⟩ => ⟨⟨a, h1, h2.kill h hp⟩, TR.kill h hp h3⟩
  | (false, cs) :: r, v :: vs, ⟨⟨x, h1, h2, h4⟩, h3⟩ => by
    subst h1
    refine ⟨⟨killL l0 x, rfl, LR.kill h hp h2, fun n xs e => ?_⟩, TR.kill h hp h3⟩
    have := killL_na (l := l0) (LR.na h2)
    rw [e] at this; cases this
theorem FR.kill {M' : Mem} {pl' : Pls} (h : ∀ b j v, M b j = some v → M' b j = some v) {l0 : Nat} (hp : ∀ l p, l ≠ l0 → pl l = some p → pl' l = some p) {x : FV} {v : Value} (r : FR M pl x v) : FR M' pl' (killF l0 x) v := by
  cases x with
  | one x => exact LR.kill h hp r
  | agg cs => obtain ⟨a, h1, h2⟩ := r; exact ⟨a, h1, h2.kill h hp⟩
  | tup ts => obtain ⟨a, h1, h2⟩ := r; exact ⟨a, h1, h2.kill h hp⟩
theorem WR.moveArr (hw : WR M pl H w) {l : Nat} {p p' : Pl} {B' : Blk} (hl : pl l = some p) (ha : isArr p) (ha' : isArr p') {w' : World} {M' : Mem} (hm : ∀ b j v, M b j = some v → M' b j = some v) (hc : ∀ b j v, M' b j = some v → w'.cell? ⟨b, j, none⟩ = some v)
    (hs : w'.os = w.os ∧ w'.tape = w.tape ∧ (w'.output = w.output ∧ w.drawn ≤ w'.drawn) ∧ w.heap.size ≤ w'.heap.size) (ho : ∀ k, k < w.heap.size → p.block ≠ some k → w'.heap[k]? = w.heap[k]?)
    (hp' : ∀ k, p'.block = some k → p.block = some k ∨ w.heap.size ≤ k) (hMo : ∀ k j, k < w.heap.size → p.block ≠ some k → M' k j = M k j) (hB' : BR M' (upd pl l p') w' B' p') :
    WR M' (upd pl l p') (fun x => if x = l then some B' else (H x).map (killB l)) w' ∧ Fr M pl w M' (upd pl l p') w' ∧ ∀ l' q, l' ≠ l → pl l' = some q → upd pl l p' l' = some q := by
  obtain ⟨s1, s2, s3, s4⟩ := hs
  have hpo : ∀ l' q, l' ≠ l → pl l' = some q → upd pl l p' l' = some q := fun l' q hne h => by rw [upd_other _ _ hne]; exact h
  refine ⟨⟨hc, fun x C hC => ?_, fun x q hq => ?_, fun x x' q q' b h1 h2 h3 h4 => ?_⟩, ⟨hm, s1, s2, s3.1, s4, s3.2, fun k hk hn => ho k hk (hn l p hl), fun x q k h1 h2 => ?_, fun b j v h => ?_⟩, hpo⟩
  · by_cases e : x = l
    · subst e; simp at hC; subst hC; exact ⟨p', upd_same _ _ _, hB'⟩
    · simp only [if_neg e] at hC
      cases hx : H x with
      | none => simp [hx] at hC
      | some B0 =>
        simp [hx] at hC
        subst hC
        obtain ⟨q, hq, hB0⟩ := hw.blk x B0 hx
        have hkb : ∀ k, q.block = some k → k < w.heap.size ∧ p.block ≠ some k := fun k hk => ⟨hw.block_lt hq hk, fun hpk => e (hw.inj _ _ _ _ _ hq hl hk hpk)⟩
        refine ⟨q, hpo x q e hq, ?_⟩
        cases B0 with
        | arr f g z es =>
          refine BR.keep (B := .arr f g z es) (pl := pl) (pl' := pl) hB0 hm (fun _ _ h => h) (fun k hk => ho k (hkb k hk).1 (hkb k hk).2) (fun k hk j => hMo k j (hkb k hk).1 (hkb k hk).2) |> fun h => ?_
          cases q with
          | var b => exact h.elim
          | nil => exact h
          | arr b q' cap esz len => exact h
        | var f cs =>
          cases q with
          | arr _ _ _ _ _ => exact hB0.elim
          | nil => exact hB0.elim
          | var b =>
            obtain ⟨vs, t, h1, h2, h3⟩ := hB0
            have hk := hkb b rfl
            exact ⟨vs, t, by rw [ho b hk.1 hk.2]; exact h1, h2.kill hm hpo, fun j v hv => by rw [hMo b j hk.1 hk.2]; exact h3 j v hv⟩
  · by_cases e : x = l
    · subst e; exact ⟨B', by simp⟩
    · rw [upd_other _ _ e] at hq
      obtain ⟨B0, hB0⟩ := hw.dom x q hq
      exact ⟨killB l B0, by simp [e, hB0]⟩
  · have key : ∀ y r b, y ≠ l → pl y = some r → r.block = some b → p'.block = some b → False := fun y r b hne hy hr hp'b => by
      rcases hp' b hp'b with h | h
      · exact hne (hw.inj _ _ _ _ _ hy hl hr h)
      · have := hw.block_lt hy hr; omega
    by_cases e : x = l
    · by_cases e' : x' = l
      · rw [e, e']
      · subst e; rw [upd_same] at h1; cases h1; rw [upd_other _ _ e'] at h2
        exact (key x' q' b e' h2 h4 h3).elim
    · by_cases e' : x' = l
      · subst e'; rw [upd_same] at h2; cases h2; rw [upd_other _ _ e] at h1
        exact (key x q b e h1 h3 h4).elim
      · rw [upd_other _ _ e] at h1; rw [upd_other _ _ e'] at h2; exact hw.inj _ _ _ _ _ h1 h2 h3 h4
  · by_cases e : x = l
    · subst e; rw [upd_same] at h1; cases h1
      rcases hp' k h2 with h | h
      · exact .inr ⟨x, p, hl, h⟩
      · exact .inl h
    · rw [upd_other _ _ e] at h1; exact .inr ⟨x, q, h1, h2⟩
  · rcases Nat.lt_or_ge b w.heap.size with hb | hb
    · by_cases hpb : p.block = some b
      · exact .inr (.inr ⟨l, p, hl, hpb⟩)
      · rw [hMo b j hb hpb] at h; exact .inl h
    · exact .inr (.inl hb)
end GoV
/- The operations that append. -/
set_option linter.unusedSimpArgs false
set_option linter.unusedVariables false
namespace GoV
open Go
variable {P : Program} {M : Mem} {pl : Pls} {w : World} {H : Hp}
theorem Ext.alloc_drew (w : World) (o : Obj) : Ext w (w.drew.alloc o) := (Ext.drew w).trans (Ext.alloc _ _)
theorem src_any (hw : WR M pl H w) {esz : Nat} {x : FV} {v : Value} (hx : FR M pl x v) {ys : List (List IV)} (h : srcOf real H esz x = some ys) :
    ∃ B, ElR M B esz ys ∧ (∀ w' : World, (Builtin.lenOf v).run P w' = .ok ys.length w') ∧ ∀ n, n ≤ ys.length → ∀ w' : World, w'.heap = w.heap → (Builtin.firstCells esz n v).run P w' = .ok ((List.range (n * esz)).map fun k => (B k).getD undef).toArray w' := by
  by_cases hs : ∃ s, v = .string s
  · obtain ⟨s, rfl⟩ := hs
    unfold srcOf at h
    split at h
    · obtain ⟨a, c, b, o, f, g, he, _⟩ := IR.sl_inv hx; cases he
    · rename_i l o n
      rcases hx with ⟨_, _, _, _, he⟩ | ⟨b, q, cap, e, len, a, _, _, he, _⟩ <;> cases he
    · rename_i s'
      have hx : IR M (.str s') (.string s) := hx
      cases hx
      simp only [cond_eq_ite] at h
      split at h
      · rename_i hz
        have hz : esz = 1 := by simpa using hz
        subst hz
        cases h
        rw [real_s2b]
        have hsz : s.data.toList.length = s.size := by rw [Array.length_toList]; rfl
        have hlen : (s.data.toList.map fun b => [IV.int .u8 (b.toNat : Int)]).length = s.size := by rw [List.length_map]; exact hsz
        refine ⟨fun k => (s.data.toList[k]?).map fun b => .int .u8 b.toNat, ⟨fun i => ((s.data.toList[i]?).map fun b => [IV.int .u8 (b.toNat : Int)]).getD [], fun i cs hi => ?_, fun i hi => ?_, fun i j x hi hx => ?_⟩, fun w' => ?_, fun n hn w' hh => ?_⟩
        · rw [List.getElem?_map] at hi
          cases hb : s.data.toList[i]? with
          | none => rw [hb] at hi; cases hi
          | some b => rw [hb] at hi; cases hi; dsimp only; rw [hb]; rfl
        · rw [hlen] at hi
          have : i < s.data.toList.length := by omega
          dsimp only
          rw [List.getElem?_eq_getElem this]; rfl
        · rw [hlen] at hi
          have hil : i < s.data.toList.length := by omega
          dsimp only at hx ⊢
          rw [List.getElem?_eq_getElem hil] at hx
          cases j with
          | zero =>
            simp only [Option.map_some, Option.getD_some, List.getElem?_cons_zero, Option.some.injEq] at hx
            subst hx
            exact ⟨.int .u8 (s.data.toList[i]).toNat, by rw [Nat.mul_one, Nat.add_zero, List.getElem?_eq_getElem hil]; rfl, IR.int _ _⟩
          | succ j => simp at hx
        · rw [hlen]; simp [Builtin.lenOf]
        · rw [hlen] at hn
          have hn' : n ≤ s.data.toList.length := by omega
          simp only [Builtin.firstCells, Sem.run_pure, Nat.mul_one]
          congr 1
          apply Array.ext'
          have e1 : (s.extract 0 n).data.toList = s.data.toList.take n := by rw [Lib.extract_data]; simp
          simp only [Array.toList_map, e1]
          apply List.ext_getElem?
          intro k
          rw [List.getElem?_map, List.getElem?_take, List.getElem?_map]
          by_cases hk : k < n
          · rw [if_pos hk, List.getElem?_range hk]
            have hkl : k < s.data.toList.length := by omega
            simp only [List.getElem?_eq_getElem hkl, Option.map_some, Option.getD_some]
          · rw [if_neg hk, List.getElem?_eq_none (by simp; omega)]
            rfl
      · cases h
    · cases h
  · obtain ⟨a, c, rfl, B, hE, hr⟩ := src_cells (P := P) hw hx h (fun s e => hs ⟨s, e⟩)
    exact ⟨B, hE, fun w' => by simp [Builtin.lenOf], hr⟩
end GoV
/- append: own slices and full ones. -/
set_option linter.unusedSimpArgs false
set_option linter.unusedVariables false
namespace GoV
open Go
variable {P : Program} {M : Mem} {pl : Pls} {w : World} {H : Hp}
theorem size_list {B : Nat → Option Value} (n : Nat) : ((List.range n).map fun k => (B k).getD undef).toArray.size = n := by simp
theorem get_list {B : Nat → Option Value} {n k : Nat} (hk : k < n) {u : Value} (hu : B k = some u) : ((List.range n).map fun k => (B k).getD undef).toArray[k]? = some u := by
  simp [hk, hu]
theorem ElR.of_list {B : Nat → Option Value} {esz : Nat} {ys : List (List IV)} (h : ElR M B esz ys) : ElR M (fun k => ((List.range (ys.length * esz)).map fun k => (B k).getD undef).toArray[k]?) esz ys :=
  h.congr fun k hk => by
    obtain ⟨u, hu, _⟩ := h.cells k hk
    rw [hu]; exact get_list hk hu
theorem one_list {B : Nat → Option Value} {esz : Nat} {ys : List (List IV)} (h : ElR M B esz ys) : ∀ u, u ∈ ((List.range (ys.length * esz)).map fun k => (B k).getD undef).toArray.toList → u.oneCell' = true := by
  intro u hu
  simp at hu
  obtain ⟨k, hk, rfl⟩ := hu
  obtain ⟨u, hu, h1⟩ := h.cells k hk
  simp [hu, h1]
theorem grown_El {A B : Nat → Option Value} {esz : Nat} {es ys : List (List IV)} (hA : ElR M A esz es) (hB : ElR M B esz ys) (rest : Array Value) :
    ElR M (fun k => (((List.range (es.length * esz)).map fun k => (A k).getD undef).toArray ++ ((List.range (ys.length * esz)).map fun k => (B k).getD undef).toArray ++ rest)[0 + k]?) esz (es ++ ys) := by
  refine ElR.append hA hB (fun i hi => ?_) (fun i hi => ?_)
  · obtain ⟨u, hu, _⟩ := hA.cells i hi
    rw [Nat.zero_add, Array.getElem?_append_left (by simp; omega), Array.getElem?_append_left (by simpa using hi), hu]
    exact get_list hi hu
  · obtain ⟨u, hu, _⟩ := hB.cells i hi
    rw [Nat.zero_add, Array.getElem?_append_left (by simp; omega), Array.getElem?_append_right (by simp), hu]
    simp only [size_list, Nat.add_sub_cancel_left]
    exact get_list hi hu
theorem app_full (hw : WR M pl H w) {ts : Array TypeId} {esz bytes : Nat} (ht : AppT P ts esz bytes) (ty : TypeId) {nx : Nat} {z : Nat} {es : List (List IV)} (hz : okE z esz = true) {v : Value} (hv : IR M (.sl true z es) v)
    {x : FV} {vx : Value} (hx : FR M pl x vx) {ys : List (List IV)} (hs : srcOf real H esz x = some ys) {ef : Eff} (hn : nx ∈ fsts ef.ups → H nx = none)
    (h : (match real .app bytes es ys with
      | some (false, es') => some (⟨.one (.slo nx 0 (real .ln es')), [(nx, .arr false false esz es')], []⟩ : Eff)
      | some (true, es') => one (.iv (.sl true z es'))
      | none => none) = some ef) : OpOK P (Builtin.append_ ts ty #[v, vx]) M pl H w ef := by
  obtain ⟨B, hB, hlen, hcells⟩ := src_any (P := P) hw hx hs
  have hze := sl_esz hz hv
  obtain ⟨a, c, b, o, f, g, rfl, hc, hff, ha, hz0, hfl, hsz, hM, hr⟩ := hv.sl_inv
  have hcl := hff rfl
  subst hcl
  obtain ⟨t1, t2, e, ie, zv, d2, h1, h2, h3, h4, h5, h6, h7, h8, h9, h10, h11, h12, h13⟩ := ht.ex
  rw [real_app] at h
  unfold rApp at h
  by_cases h0 : ys.length = 0
  · -- nothing comes
    have hys : ys = [] := List.eq_nil_of_length_eq_zero h0
    subst hys
    have hrun := run_append (P := P) (w := w) ht ty (base := a) (sLen := es.length) (sCap := es.length) hlen (hcells 0 (by simp))
    rw [if_pos (by simp)] at hrun
    have hrun' : (Builtin.append_ ts ty #[.slice a es.length es.length, vx]).run P w = .ok (.slice a es.length es.length) w := by
      rw [hrun]; cases a <;> simp [storeCells]
    by_cases h1' : es.length = 0
    · have hes : es = [] := List.eq_nil_of_length_eq_zero h1'
      subst hes
      rw [if_neg (by simp), if_pos (by simp)] at h
      simp only [Option.some.injEq] at h
      subst h
      have hn := hn (by simp [fsts])
      obtain ⟨k1, k2, k3⟩ := hw.addNil hn esz
      refine ⟨_, w, M, _, hrun', ⟨k2, by rw [apF_ups]; exact k1, .inl ⟨upd_same _ _ _, rfl, rfl, a, rfl⟩, fun l p h _ => k3 l p h, fun l p h => .inl (k3 l p h), fun l f z es h => ?_⟩⟩
      rw [apF_ups]
      have : l ≠ nx := fun e => by subst e; rw [hn] at h; cases h
      exact ⟨f, z, es, by simp [upF, upd_other _ _ this, h]⟩
    · rw [if_pos ⟨by simp, h1'⟩] at h
      have := one_eq h; subst this
      exact ⟨_, w, M, pl, hrun', Done.pure hw hv rfl rfl⟩
  · rw [if_neg (by rintro ⟨h', _⟩; exact h0 h')] at h
    split at h
    · rename_i es' he
      split at he
      · rename_i hroom
        cases he
        simp only [Option.some.injEq] at h
        subst h
        have hn := hn (by simp [fsts])
        have hE0 : ElR M (fun k => M b (o + k)) esz es := by
          rcases hze with rfl | rfl
          · exact ElR.of_sl hv ha
          · exact ElR.nil _ _
        have hold : ∀ w' : World, w'.heap = w.heap → (Builtin.firstCells esz es.length (.slice a es.length es.length)).run P w' = .ok ((List.range (es.length * esz)).map fun k => (M b (o + k)).getD undef).toArray w' := by
          intro w' hh
          rcases Nat.eq_zero_or_pos es.length with h0' | h0'
          · rw [h0']; cases a <;> simp [Builtin.firstCells, loadCells, loadCellsFrom]
          · rw [ha h0']
            simp only [Builtin.firstCells]
            exact run_loadCells w' ⟨b, o, none⟩ _ _ (fun j hj => by
              obtain ⟨u, hu, _⟩ := hE0.cells j hj
              have hcw := hw.mem _ _ _ hu
              have e : w'.cell? ⟨b, o + j, none⟩ = w.cell? ⟨b, o + j, none⟩ := by simp [World.cell?, hh]
              rw [addr_add, e, hcw, hu]; rfl)
        obtain ⟨cap, rest, e', hcap, hrs, hrun⟩ := run_append_grow (P := P) (w := w) ht ty hlen (hcells ys.length (Nat.le_refl _)) hold (by omega) hroom
        have hext := Ext.alloc_drew w (.cells (((List.range (es.length * esz)).map fun k => (M b (o + k)).getD undef).toArray ++ ((List.range (ys.length * esz)).map fun k => (B k).getD undef).toArray ++ rest) e')
        have hbk : (w.drew.alloc (.cells (((List.range (es.length * esz)).map fun k => (M b (o + k)).getD undef).toArray ++ ((List.range (ys.length * esz)).map fun k => (B k).getD undef).toArray ++ rest) e')).heap[w.heap.size]? = some (.cells _ e' (0, 0)) := heap_new (w := w.drew)
        have hsize : cap * esz ≤ (((List.range (es.length * esz)).map fun k => (M b (o + k)).getD undef).toArray ++ ((List.range (ys.length * esz)).map fun k => (B k).getD undef).toArray ++ rest).size := by
          simp only [Array.size_append, size_list, hrs]
          rw [← Nat.add_mul, ← Nat.add_mul]
          exact Nat.mul_le_mul_right _ (by omega)
        obtain ⟨M', k1, k2, k3⟩ := hw.addArr hn hext (Nat.le_refl _) hbk (fun j _ => frozen_of_heap hbk _) h11 (es := es ++ ys) (by simp; omega) hsize (by simpa using grown_El hE0 hB rest) (.inl rfl) (fun h' => absurd (show ys.length = 0 by simp only [List.length_append] at h'; omega) h0) false
        refine ⟨_, _, M', _, hrun, ⟨k2, by rw [apF_ups]; exact k1, .inr ⟨_, _, _, _, _, some ⟨w.heap.size, 0, none⟩, upd_same _ _ _, ?_, ?_, fun _ => ?_⟩, fun l p h _ => k3 l p h, fun l p h => .inl (k3 l p h), fun l f z es h => ?_⟩⟩
        · simp [real_ln]
        · rw [real_ln, List.length_append]; rfl
        · simp
        · rw [apF_ups]
          have : l ≠ nx := fun e => by subst e; rw [hn] at h; cases h
          exact ⟨f, z, es, by simp [upF, upd_other _ _ this, h]⟩
      · cases he
    · rename_i es' he
      split at he <;> cases he
    · cases h
theorem setCells_at (w : World) {b o : Nat} {us : List Value} {vs : Array Value} {t : TypeId} {fr : Nat × Nat} (h : w.heap[b]? = some (.cells vs t fr)) (hl : o + us.length ≤ vs.size) :
    ∃ vs' : Array Value, (w.setCells b o us).heap[b]? = some (.cells vs' t fr) ∧ vs'.size = vs.size ∧ ∀ j : Nat, vs'[j]? = if o ≤ j ∧ j < o + us.length then us[j - o]? else vs[j]? := by
  refine ⟨_, setCells_heap b us o w vs t fr h hl, by simp; omega, fun j => ?_⟩
  rw [List.getElem?_toArray, List.append_assoc]
  by_cases c1 : j < o
  · rw [List.getElem?_append_left (by simp; omega), List.getElem?_take, if_pos c1, if_neg (by omega)]; simp
  · rw [List.getElem?_append_right (by simp; omega)]
    simp only [List.length_take, Array.length_toList, Nat.min_eq_left (show o ≤ vs.size by omega)]
    by_cases c2 : j < o + us.length
    · rw [List.getElem?_append_left (by omega), if_pos ⟨by omega, c2⟩]
    · rw [List.getElem?_append_right (by omega), if_neg (by omega), List.getElem?_drop]
      simp only [Array.getElem?_toList]
      congr 1; omega
theorem app_own (hw : WR M pl H w) {ts : Array TypeId} {esz bytes : Nat} (ht : AppT P ts esz bytes) (ty : TypeId) {l o n z : Nat} {f g : Bool} {es : List (List IV)} (hH : H l = some (.arr f g z es)) (hz : okE z esz = true) {v : Value} (hv : LR M pl (.slo l o n) v)
    {x : FV} {vx : Value} (hx : FR M pl x vx) {ys : List (List IV)} (hs : srcOf real H esz x = some ys) {es' : List (List IV)} (hap : rApo bytes o n es ys = some (true, es')) :
    OpOK P (Builtin.append_ ts ty #[v, vx]) M pl H w ⟨.one (.slo l 0 (real .ln es')), [(l, .arr f true esz es')], [l]⟩ := by
  obtain ⟨B, hB, hlen, hcells⟩ := src_any (P := P) hw hx hs
  obtain ⟨t1, t2, e, ie, zv, d2, h1, h2, h3, h4, h5, h6, h7, h8, h9, h10, h11, h12, h13⟩ := ht.ex
  unfold rApo at hap
  split at hap
  · rename_i hon
    split at hap
    · rename_i hroom'
      obtain ⟨hroom, hoe⟩ := hroom'
      simp only [Option.some.injEq, Prod.mk.injEq, true_and] at hap
      subst hap
      obtain ⟨p, hp, hBR⟩ := hw.blk l _ hH
      have hapF : apF ⟨.one (.slo l 0 (real .ln (es.drop o ++ ys))), [(l, .arr f true esz (es.drop o ++ ys))], [l]⟩ H = fun x => if x = l then some (.arr f true esz (es.drop o ++ ys)) else (H x).map (killB l) := by
        funext x
        simp only [apF, upF, upd]
        split
        · rfl
        · rfl
      have fin : ∀ {p' : Pl} {M' : Mem} {w' : World} {r : Value}, isArr p → isArr p' → (∀ b j v, M b j = some v → M' b j = some v) → (∀ b j v, M' b j = some v → w'.cell? ⟨b, j, none⟩ = some v) →
          (w'.os = w.os ∧ w'.tape = w.tape ∧ (w'.output = w.output ∧ w.drawn ≤ w'.drawn) ∧ w.heap.size ≤ w'.heap.size) → (∀ k, k < w.heap.size → p.block ≠ some k → w'.heap[k]? = w.heap[k]?) →
          (∀ k, p'.block = some k → p.block = some k ∨ w.heap.size ≤ k) → (∀ k j, k < w.heap.size → p.block ≠ some k → M' k j = M k j) → BR M' (upd pl l p') w' (.arr f true esz (es.drop o ++ ys)) p' → LR M' (upd pl l p') (.slo l 0 (real .ln (es.drop o ++ ys))) r →
          Done M pl H w ⟨.one (.slo l 0 (real .ln (es.drop o ++ ys))), [(l, .arr f true esz (es.drop o ++ ys))], [l]⟩ r M' (upd pl l p') w' := by
        intro p' M' w' r a1 a2 a3 a4 a5 a6 a7 a8 a9 a10
        obtain ⟨k1, k2, k3⟩ := hw.moveArr hp a1 a2 a3 a4 a5 a6 a7 a8 a9
        refine ⟨k2, by rw [hapF]; exact k1, a10, fun l' q hq hk => k3 l' q (fun e => by subst e; simp [hasN] at hk) hq, fun l' q hq => ?_, fun l' f' z' es2 h' => ?_⟩
        · by_cases e : l' = l
          · exact .inr ⟨f, esz, es.drop o ++ ys, by rw [hapF]; simp [e]⟩
          · exact .inl (k3 l' q e hq)
        · rw [hapF]
          by_cases e : l' = l
          · exact ⟨f, esz, es.drop o ++ ys, by simp [e]⟩
          · exact ⟨f', z', es2, by simp [e, h', killB]⟩
      -- what stands there, as cells
      have key : ∃ (a : Option Addr) (c : Nat) (A : Nat → Option Value), v = .slice a n c ∧ isArr p ∧ ElR M A esz (es.drop o) ∧ (es.drop o).length = n ∧ (∀ k u, k < n * esz → A k = some u → ∃ b q, a = some ⟨b, q, none⟩ ∧ w.cell? ⟨b, q + k, none⟩ = some u) := by
        rcases hv with ⟨q1, rfl, rfl, a0, rfl⟩ | ⟨b, q, cap, e', len, a, q1, hol, rfl, ha⟩
        · rw [hp] at q1; cases q1
          have hes : es = [] := hBR
          subst hes
          exact ⟨a0, 0, fun _ => none, rfl, trivial, ElR.nil _ _, rfl, fun k u hk => by simp at hk⟩
        · rw [hp] at q1; cases q1
          have hse := sizes hw hH hz hp
          obtain ⟨vs, t, fr, b1, b2, b3, b4, b5, b6, b7, b8, b9, b10⟩ := hBR.to_El
          refine ⟨a, cap - o, fun k => vs[q + o * e' + k]?, rfl, trivial, ?_, by rw [List.length_drop]; omega, fun k u hk hu => ?_⟩
          · rcases hse with rfl | h0
            · have := b7.seg o n
              have e0 : rSeg es o n = es.drop o := by unfold rSeg; exact List.take_of_length_le (by rw [List.length_drop]; omega)
              rw [e0] at this
              simpa only [Nat.add_assoc] using this
            · have : es = [] := List.eq_nil_of_length_eq_zero (by omega)
              subst this; simp; exact ElR.nil _ _
          · have hc0 : 0 < cap - o := by
              rcases Nat.eq_zero_or_pos n with rfl | h
              · simp at hk
              · omega
            exact ⟨b, q + o * e', ha hc0, by rw [cell_of_heap b1]; exact hu⟩
      obtain ⟨a, c, A, rfl, hpa, hA, hAl, hAc⟩ := key
      have hold : ∀ w' : World, w'.heap = w.heap → (Builtin.firstCells esz n (.slice a n c)).run P w' = .ok ((List.range ((es.drop o).length * esz)).map fun k => (A k).getD undef).toArray w' := by
        intro w' hh
        rw [hAl]
        rcases Nat.eq_zero_or_pos (n * esz) with h0' | h0'
        · cases a <;> simp [Builtin.firstCells, loadCells, loadCellsFrom, h0']
        · obtain ⟨u0, hu0, _⟩ := hA.cells 0 (by rw [hAl]; exact h0')
          obtain ⟨b, q, rfl, _⟩ := hAc 0 u0 h0' hu0
          simp only [Builtin.firstCells]
          refine run_loadCells w' ⟨b, q, none⟩ _ _ (fun j hj => ?_)
          obtain ⟨u, hu, _⟩ := hA.cells j (by rw [hAl]; exact hj)
          obtain ⟨b', q', e1, e2⟩ := hAc j u hj hu
          cases e1
          have e : w'.cell? ⟨b, q + j, none⟩ = w.cell? ⟨b, q + j, none⟩ := by simp [World.cell?, hh]
          rw [addr_add, e, e2, hu]; rfl
      by_cases hfit : n + ys.length ≤ c
      · -- in its place
        have hrun := run_append (P := P) (w := w) ht ty (base := a) (sLen := n) (sCap := c) hlen (hcells ys.length (Nat.le_refl _))
        rw [if_pos hfit] at hrun
        have hll : (es.drop o ++ ys).length = n + ys.length := by rw [List.length_append, hAl]
        rcases hv with ⟨q1, rfl, rfl, a0, he⟩ | ⟨b, q, cap, e', len, a0, q1, hol, he, ha⟩
        · cases he
          rw [hp] at q1; cases q1
          have hes : es = [] := hBR
          subst hes
          have hy0 : ys = [] := List.eq_nil_of_length_eq_zero (by omega)
          subst hy0
          refine ⟨.slice a 0 0, w, M, upd pl l .nil, ?_, fin trivial trivial (fun _ _ _ h => h) (fun b j v h => hw.mem b j v h) ⟨rfl, rfl, ⟨rfl, Nat.le_refl _⟩, Nat.le_refl _⟩ (fun _ _ _ => rfl) (fun k hk => by simp [Pl.block] at hk) (fun _ _ _ _ => rfl) rfl
            (.inl ⟨upd_same _ _ _, rfl, rfl, a, rfl⟩)⟩
          rw [hrun]; cases a <;> simp [storeCells]
        · cases he
          rw [hp] at q1; cases q1
          have hse := sizes hw hH hz hp
          obtain ⟨vs, t, fr, b1, b2, b3, b4, b5, b6, b7, b8, b9, b10⟩ := hBR.to_El
          have hcap0 : cap - o = 0 ∨ (e' = esz ∧ 0 < cap - o) := by
            rcases Nat.eq_zero_or_pos (cap - o) with h | h
            · exact .inl h
            · rcases hse with rfl | h0
              · exact .inr ⟨rfl, h⟩
              · omega
          rcases hcap0 with h0 | ⟨rfl, hpos⟩
          · have hn0 : n = 0 := by omega
            have hy0 : ys = [] := List.eq_nil_of_length_eq_zero (by omega)
            subst hy0; subst hn0
            have hd0 : es.drop o = [] := List.eq_nil_of_length_eq_zero hAl
            rw [hd0] at fin ⊢
            refine ⟨.slice a 0 (cap - o), w, M, upd pl l .nil, ?_, fin trivial trivial (fun _ _ _ h => h) (fun b j v h => hw.mem b j v h) ⟨rfl, rfl, ⟨rfl, Nat.le_refl _⟩, Nat.le_refl _⟩ (fun _ _ _ => rfl) (fun k hk => by simp [Pl.block] at hk) (fun _ _ _ _ => rfl) rfl
              (.inl ⟨upd_same _ _ _, rfl, rfl, a, by rw [h0]⟩)⟩
            rw [hrun]; cases a <;> simp [storeCells]
          · have ha' := ha hpos
            subst ha'
            -- the cells that are written
            generalize hnew : ((List.range (ys.length * e')).map fun k => (B k).getD undef).toArray = new at *
            have hnl : new.toList.length = ys.length * e' := by rw [← hnew]; simp
            have hn1 : ∀ u, u ∈ new.toList → u.oneCell' = true := by rw [← hnew]; exact one_list hB
            have hmul : (n + ys.length) * e' ≤ (cap - o) * e' := Nat.mul_le_mul_right _ hfit
            have hoc : o * e' + (cap - o) * e' = cap * e' := by rw [← Nat.add_mul]; congr 1; omega
            have hes' : es.length * e' = o * e' + n * e' := by rw [← Nat.add_mul, hon]
            have hnm : (n + ys.length) * e' = n * e' + ys.length * e' := Nat.add_mul _ _ _
            have hin : q + o * e' + n * e' + new.toList.length ≤ vs.size := by omega
            obtain ⟨vs', c1, c2, c3⟩ := setCells_at w b1 hin
            have hcell : ∀ j, j < new.toList.length → (w.cell? ⟨b, q + o * e' + n * e' + j, none⟩).isSome = true := fun j hj => by
              rw [cell_of_heap b1]; simp; omega
            have hfro : ∀ j, j < new.toList.length → w.frozen? ⟨b, q + o * e' + n * e' + j, none⟩ = false := fun j hj => by
              have := b6 (o * e' + n * e' + j) (by omega)
              rwa [show q + (o * e' + n * e' + j) = q + o * e' + n * e' + j by omega] at this
            have hst := run_storeCells_cells (P := P) b (q + o * e' + n * e') new.toList 0 w (by simpa using hcell) (by simpa using hfro) hn1
            have hrun' : (Builtin.append_ ts ty #[.slice (some ⟨b, q + o * e', none⟩) n (cap - o), vx]).run P w = .ok (.slice (some ⟨b, q + o * e', none⟩) (n + ys.length) (cap - o)) (w.setCells b (q + o * e' + n * e') new.toList) := by
              rw [hrun]
              simp only [addr_add]
              rw [hst]
              simp
            let M' : Mem := fun b' j => if f = true ∧ b' = b ∧ q + o * e' + n * e' ≤ j ∧ j < q + o * e' + n * e' + ys.length * e' then vs'[j]? else M b' j
            have hMn : ∀ j, q + o * e' + n * e' ≤ j → j < q + o * e' + n * e' + ys.length * e' → M b j = none := fun j j1 j2 => by
              have := b10 (j - q) (by omega)
              rw [show q + (j - q) = j by omega] at this
              rw [this, if_neg (by rintro ⟨_, h⟩; omega)]
            have hmm : ∀ b' j v, M b' j = some v → M' b' j = some v := fun b' j v h => by
              show (if f = true ∧ b' = b ∧ q + o * e' + n * e' ≤ j ∧ j < q + o * e' + n * e' + ys.length * e' then vs'[j]? else M b' j) = some v
              split
              · rename_i hc; obtain ⟨_, rfl, hc1, hc2⟩ := hc; rw [hMn j hc1 hc2] at h; cases h
              · exact h
            obtain ⟨s1, s2, s3, s4⟩ := setCells_same b new.toList (q + o * e' + n * e') w
            have hEl : ElR M (fun k => vs'[q + o * e' + k]?) e' (es.drop o ++ ys) := by
              have hA2 := b7.seg o n
              have e0 : rSeg es o n = es.drop o := by unfold rSeg; exact List.take_of_length_le (by rw [List.length_drop]; omega)
              rw [e0] at hA2
              refine ElR.append hA2 hB (fun i hi => ?_) (fun i hi => ?_)
              · rw [hAl] at hi
                rw [c3, if_neg (by omega), Nat.add_assoc]
              · rw [hAl]
                rw [c3, if_pos ⟨by omega, by omega⟩]
                obtain ⟨u, hu, _⟩ := hB.cells i hi
                rw [hu, show q + o * e' + (n * e' + i) - (q + o * e' + n * e') = i by omega, ← hnew]
                have := get_list (n := ys.length * e') hi hu
                simpa using this
            refine ⟨_, _, M', upd pl l (.arr b (q + o * e') (cap - o) e' (es.drop o ++ ys).length), hrun', fin trivial trivial hmm (fun b' j v h => ?_) ⟨s1, s2, ⟨s3.1, Nat.le_of_eq s3.2.symm⟩, by omega⟩ (fun k _ hk => setCells_other b _ _ w k (fun e => hk (by rw [e]; rfl))) (fun k hk => .inl hk) (fun k j _ hk => ?_)
              (BR.of_El c1 (fun j hj => ?_) h11 (by rw [hll]; exact hfit) (by omega) (hEl.mono hmm) (.inl rfl) (fun h' => ?_) (fun j hj => ?_)) (.inr ⟨_, _, _, _, _, some ⟨b, q + o * e', none⟩, upd_same _ _ _, by rw [real_ln, Nat.zero_add]; exact Nat.le_refl _, ?_, fun _ => ?_⟩)⟩
            · replace h : (if f = true ∧ b' = b ∧ q + o * e' + n * e' ≤ j ∧ j < q + o * e' + n * e' + ys.length * e' then vs'[j]? else M b' j) = some v := h
              split at h
              · rename_i hc; obtain ⟨_, rfl, _⟩ := hc; rw [cell_of_heap c1]; exact h
              · rename_i hc
                by_cases e : b' = b
                · subst e
                  rw [cell_of_heap c1, c3]
                  split
                  · rename_i hr; rw [hMn j hr.1 (by omega)] at h; cases h
                  · have := hw.mem b' j v h; rwa [cell_of_heap b1] at this
                · have := hw.mem b' j v h
                  simp only [World.cell?] at this ⊢
                  rw [setCells_other b _ _ w b' e]; exact this
            · show (if f = true ∧ k = b ∧ q + o * e' + n * e' ≤ j ∧ j < q + o * e' + n * e' + ys.length * e' then vs'[j]? else M k j) = M k j
              rw [if_neg]; rintro ⟨_, rfl, _⟩; exact hk rfl
            · have := b6 (o * e' + j) (by omega)
              rw [show q + (o * e' + j) = q + o * e' + j by omega] at this
              simp only [World.frozen?, b1, c1] at this ⊢
              exact this
            · rw [hll] at h'
              have hle : es.length = 0 → cap = 0 := b9
              rcases Nat.eq_zero_or_pos es.length with h | h
              · have := hle h; omega
              · -- an empty tail of an array with room behind it
                omega
            · show (if f = true ∧ b = b ∧ q + o * e' + n * e' ≤ q + o * e' + j ∧ q + o * e' + j < q + o * e' + n * e' + ys.length * e' then vs'[q + o * e' + j]? else M b (q + o * e' + j)) = _
              rw [hll]
              have h10 := b10 (o * e' + j) (by omega)
              rw [show q + (o * e' + j) = q + o * e' + j by omega] at h10
              by_cases cf : f = true
              · by_cases cj : n * e' ≤ j ∧ j < n * e' + ys.length * e'
                · rw [if_pos ⟨cf, rfl, by omega, by omega⟩, if_pos ⟨cf, by omega⟩]
                · rw [if_neg (by rintro ⟨_, _, _, _⟩; omega), h10]
                  by_cases cn : j < n * e'
                  · rw [if_pos ⟨cf, by omega⟩, if_pos ⟨cf, by omega⟩, c3, if_neg (by omega)]
                  · rw [if_neg (by rintro ⟨_, _⟩; omega), if_neg (by rintro ⟨_, _⟩; omega)]
              · rw [if_neg (by rintro ⟨h, _⟩; exact cf h), if_neg (by rintro ⟨h, _⟩; exact cf h), h10, if_neg (by rintro ⟨h, _⟩; exact cf h)]
            · rw [real_ln, hll]; rfl
            · rw [Nat.zero_mul]; rfl
      · obtain ⟨cap, rest, e', hcap, hrs, hrun⟩ := run_append_grow (P := P) (w := w) ht ty hlen (hcells ys.length (Nat.le_refl _)) hold (by omega) hroom
        rw [hAl] at hrun
        generalize hall : (((List.range (n * esz)).map fun k => (A k).getD undef).toArray ++ ((List.range (ys.length * esz)).map fun k => (B k).getD undef).toArray ++ rest) = all at hrun
        have hll : (es.drop o ++ ys).length = n + ys.length := by rw [List.length_append, hAl]
        have hbk : (w.drew.alloc (.cells all e')).heap[w.heap.size]? = some (.cells all e' (0, 0)) := heap_new (w := w.drew)
        have hext := Ext.alloc_drew w (.cells all e')
        have hsize : cap * esz ≤ all.size := by
          rw [← hall]
          simp only [Array.size_append, size_list, hrs]
          rw [← Nat.add_mul, ← Nat.add_mul]
          exact Nat.mul_le_mul_right _ (by omega)
        have hEl : ElR M (fun k => all[0 + k]?) esz (es.drop o ++ ys) := by
          rw [← hall, ← hAl]; exact grown_El hA hB rest
        have hM0 : ∀ j, M w.heap.size j = none := fun j => by
          cases hMj : M w.heap.size j with
          | none => rfl
          | some v => have := hw.mem_lt hMj; omega
        let M' : Mem := fun b' j => if f = true ∧ b' = w.heap.size ∧ j < (n + ys.length) * esz then all[j]? else M b' j
        have hmm : ∀ b' j v, M b' j = some v → M' b' j = some v := fun b' j v h => by
          show (if f = true ∧ b' = w.heap.size ∧ j < (n + ys.length) * esz then all[j]? else M b' j) = some v
          split
          · rename_i hc; rw [hc.2.1, hM0] at h; cases h
          · exact h
        have hny : 0 < n + ys.length := by
          rcases Nat.eq_zero_or_pos (n + ys.length) with h | h
          · omega
          · exact h
        refine ⟨_, _, M', upd pl l (.arr w.heap.size 0 cap esz (es.drop o ++ ys).length), hrun, fin hpa trivial hmm (fun b' j v h => ?_) ⟨hext.os, hext.tape, ⟨hext.output, hext.drawn⟩, hext.size⟩ (fun k hk _ => hext.old k hk) (fun k hk => ?_) (fun k j hk _ => ?_)
          (BR.of_El hbk (fun j _ => frozen_of_heap hbk _) h11 (by rw [hll]; exact hcap) (by rw [Nat.zero_add]; exact hsize) (hEl.mono hmm) (.inl rfl) (fun h' => by rw [hll] at h'; omega) (fun j hj => ?_)) (.inr ⟨_, _, _, _, _, some ⟨w.heap.size, 0, none⟩, upd_same _ _ _, by rw [real_ln, Nat.zero_add]; exact Nat.le_refl _, ?_, fun _ => ?_⟩)⟩
        · replace h : (if f = true ∧ b' = w.heap.size ∧ j < (n + ys.length) * esz then all[j]? else M b' j) = some v := h
          split at h
          · rename_i hc; rw [hc.2.1, cell_of_heap hbk]; exact h
          · exact hext.cell (hw.mem b' j v h)
        · simp [Pl.block] at hk; exact .inr (by omega)
        · show (if f = true ∧ k = w.heap.size ∧ j < (n + ys.length) * esz then all[j]? else M k j) = M k j
          rw [if_neg (by rintro ⟨_, h, _⟩; omega)]
        · show (if f = true ∧ w.heap.size = w.heap.size ∧ 0 + j < (n + ys.length) * esz then all[0 + j]? else M w.heap.size (0 + j)) = _
          rw [hM0, hll, Nat.zero_add]
          by_cases cf : f = true ∧ j < (n + ys.length) * esz
          · rw [if_pos ⟨cf.1, rfl, cf.2⟩, if_pos cf]
          · rw [if_neg (by rintro ⟨h1, _, h2⟩; exact cf ⟨h1, h2⟩), if_neg cf]
        · rw [real_ln, hll]; rfl
        · simp
    · cases hap
  · split at hap <;> cases hap
end GoV
