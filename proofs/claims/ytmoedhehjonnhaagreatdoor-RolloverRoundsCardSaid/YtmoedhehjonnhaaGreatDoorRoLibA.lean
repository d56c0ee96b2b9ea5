/- The calculus over trees that the proof rests on, proved sound against the model (LibA). -/
import Derived.Calls
import Derived.Lib.ItoaNum
import Derived.Orders
import Derived.Still
import Derived.StillTail
import Derived.KernelRfl
import Derived.Laws.Tables
import Derived.Laws.CopyRow
import Derived.Laws.Cells
import Derived.Below
import Derived.Laws.StructEq
import Derived.Laws.Append
import Derived.Laws.BytesArg
import Derived.MapKept
import Derived.Laws.NewFold
set_option linter.all false
/- Tables of the library that stand in the world: where, and what they hold. (A seat without one: the list is empty.) -/
namespace Go.Pev
open Go
def qy7 (zs : List Int) : Array Value := (zs.map fun z => Value.int .u64 z).toArray
def qy8 : List (Nat × Array Value) := [(0, qy7 Lib.pow10Tab)]
end Go.Pev
/- The words of the calculus: trees, small objects, the small form of code, and how code is brought to it. -/
namespace Go.Pev
open Go
inductive AV where
  | any
  | undef
  | bool (b : Bool)
  | int (k : IntKind) (n : Int)
  | str (s : List UInt8)
  | nilp
  | nilf
  | nils
  | ptr (r off : Nat)
  | cptr (cells : List AV)
  | sl (e : Nat) (xs : List AV)
  | own (r n : Nat)
  | eptr (r n i off : Nat)
  | fr (w : Bool) (e : Nat) (xs : List AV)
  | func (f : FuncId) (caps : List AV)
  | fv (x : AV)
  | agg (cs : List AV)
  | tup (vs : List AV)
  | map (r : Nat)
  deriving Inhabited
def AV.cells : AV → List AV
  | .agg cs => cs
  | x => [x]
def AV.leaf : AV → Bool
  | .agg _ | .tup _ | .undef | .any | .fr .. => false
  | _ => true
inductive Ob where
  | box (w : Bool) (cs : List AV)
  | arr (w : Bool) (e : Nat) (xs : List AV)
  | map (es : List (AV × AV))
structure Mem where
  s : Nat → Option Ob
  n : Nat
def Mem.none : Mem := ⟨fun _ => Option.none, 0⟩
def Mem.set (m : Mem) (r : Nat) (o : Ob) : Mem := { m with s := fun i => if i = r then some o else m.s i }
def Mem.new (m : Mem) (o : Ob) : Mem := ⟨fun i => if i = m.n then some o else m.s i, m.n + 1⟩
def Mem.del (m : Mem) (r : Nat) : Mem := { m with s := fun i => if i = r then Option.none else m.s i }
def Ob.frz : Ob → Ob
  | .arr _ e xs => .arr false e xs
  | o => o
def Mem.frz (m : Mem) (l : List Nat) : Mem := { m with s := fun i => if i ∈ l then (m.s i).map Ob.frz else m.s i }
inductive Opd where
  | t (i : Nat)
  | c (v : AV)
  deriving Inhabited
inductive Cv where
  | int (k : IntKind)
  | same
  | strOf
  deriving Inhabited
inductive EK where
  | b | i (k : IntKind) | s
  deriving Inhabited
inductive KD where
  | mk (agg : Bool) (ks : List EK)
  deriving Inhabited
inductive SOp where
  | mv (x : Opd)
  | pick (c a b : Opd)
  | alloc (z : List AV)
  | box (x : Opd)
  | build (z : List AV) (ps : List (Nat × Nat × Opd))
  | bsl (e : Nat) (ps : List Opd)
  | load (agg : Bool) (sz : Nat) (a : Opd)
  | store (sz : Nat) (a x : Opd)
  | nilc (x : Opd)
  | bin (op : BinOp) (x y : Opd)
  | eq (neg agg : Bool) (ks : List EK) (x y : Opd)
  | un (op : UnOp) (x : Opd)
  | conv (c : Cv) (x : Opd)
  | slcs (x : Opd) (lo hi : Option Opd)
  | slc (e : Nat) (x : Opd) (lo hi : Option Opd)
  | slca (n e : Nat) (x : Opd) (lo hi : Option Opd)
  | fa (off : Nat) (x : Opd)
  | fld (agg : Bool) (off sz : Nat) (x : Opd)
  | ia (e : Nat) (x i : Opd)
  | iaa (n e : Nat) (x i : Opd)
  | ixs (x i : Opd)
  | ixa (agg : Bool) (n e : Nat) (x i : Opd)
  | ext (x : Opd) (i : Nat)
  | mksl (e by_ : Nat) (z : AV) (len cap : Opd)
  | app (e by_ : Nat) (s x : Opd)
  | len (str : Bool) (x : Opd)
  | mm (mx : Bool) (x : Opd) (xs : List Opd)
  | call (f : FuncId) (xs : List Opd)
  | callv (x : Opd) (xs : List Opd)
  | mkf (f : FuncId) (caps : List Opd)
  | mkmap
  | mput (kd : KD) (m k v : Opd)
  | mget (kd : KD) (z : AV) (ok : Bool) (m k : Opd)
  | stuck
  | held (fl : List Opd) (ps : List (Opd × Opd))
  | callf (f : FuncId) (xs : List Opd)
  | take (x : Opd)
  deriving Inhabited
structure SOper where
  dst : Option Nat
  op : SOp
  g : Option (Nat × Bool)
  deriving Inhabited
inductive SC where
  | skip
  | reg (ops : List SOper)
  | draw (hd tl : List SOper)
  | seq (a b : SC)
  | cond (c : Opd) (a b : SC)
  | block (id : Nat) (c : SC)
  | loop (c : SC)
  | exit (id : Nat)
  | ret
  | stuck
  deriving Inhabited
inductive SRes where
  | t (i : Nat)
  | cell (i : Nat) (agg : Bool) (sz : Nat)
  deriving Inhabited
structure SF where
  nt : Nat
  res : List SRes
  body : SC
  deriving Inhabited
inductive TD where
  | bool | int (k : IntKind) | str
  | slice (e : Nat) | arr (n e : Nat) | struct (fs : List (Nat × Nat × Bool))
  | ptr | map (k v : Nat) | func | other
  deriving Inhabited
structure TI where
  sz : Nat
  bytes : Nat
  agg : Bool
  zero : Option (List AV)
  z1 : Bool
  held : Bool
  eqg : Bool
  td : TD
  deriving Inhabited
def cLit : Value → Option AV
  | .bool b => some (.bool b)
  | .int k n => some (.int k n)
  | .string s => some (.str s.data.toList)
  | .pointer none => some .nilp
  | .slice none 0 0 => some .nils
  | .nilFunc => some .nilf
  | _ => none
def cVal : Value → Option AV
  | .agg cs => (cs.toList.mapM cLit).map .agg
  | .tuple vs => if vs.isEmpty then some .undef else none
  | v => cLit v
def TDof : TypeDesc → TD
  | .bool => .bool
  | .int k => .int k
  | .string => .str
  | .slice e => .slice e
  | .array n e => .arr n e
  | .struct fs => .struct (fs.toList.map fun f => (f.offset, f.type, f.name == "_"))
  | .pointer _ => .ptr
  | .map k v => .map k v
  | .func .. => .func
  | _ => .other
def qma : TypeDesc → Bool
  | .struct _ | .array _ _ => true
  | _ => false
def q3z (z : Option Value) : Option (List AV) :=
  match z with
  | some v => v.cells.toList.mapM cLit
  | none => none
def TIof (P : Program) (t : TypeId) : Option TI :=
  match P.info? t, P.underlying t with
  | some i, some d => some { sz := i.size, bytes := i.bytes, agg := qma d, zero := q3z i.zero, z1 := (i.zero.map Value.oneCell').getD false, held := P.stoodInHeld t, eqg := P.eqGuardType P.depth t, td := TDof d }
  | _, _ => none
abbrev Tab := TypeId → Option TI
def Tab.ok (T : Tab) (P : Program) : Prop := ∀ t ti, T t = some ti → TIof P t = some ti
def cOpd : Operand → Option Opd
  | .tmp t => some (.t t)
  | .const v => (cVal v).map .c
  | .func f => some (.c (.func f []))
  | .global _ => none
def qpp (l : Array Operand) : Option (List Opd) := l.toList.mapM cOpd
def cOpt : Option Operand → Option (Option Opd)
  | none => some none
  | some x => (cOpd x).map some
def qj2 (r : TypeId → Option (List EK)) : Nat → List (Nat × Nat × Bool) → Option (List EK)
  | _, [] => some []
  | off, (o, t, blank) :: fs => if blank ∨ o ≠ off then none else
    match r t with
    | some ks => match qj2 r (off + ks.length) fs with
      | some l => some (ks ++ l)
      | none => none
    | none => none
def qbu (T : Tab) : Nat → TypeId → Option (List EK)
  | 0, _ => none
  | n + 1, t => match T t with
    | some ti => match ti.td with
      | .bool => if ti.agg ∨ ti.sz ≠ 1 then none else some [.b]
      | .int k => if ti.agg ∨ ti.sz ≠ 1 then none else some [.i k]
      | .str => if ti.agg ∨ ti.sz ≠ 1 then none else some [.s]
      | .struct fs => if ti.held ∨ ti.eqg then none else match qj2 (qbu T n) 0 fs with
        | some l => if l.length = ti.sz then some l else none
        | none => none
      | _ => none
    | none => none
def qn2 (T : Tab) (s : TypeId) (f : Nat) : Option (Nat × TI) :=
  match T s with
  | some ti => match ti.td with
    | .struct fs => match fs[f]? with
      | some (off, ft, _) => (T ft).map fun x => (off, x)
      | none => none
    | _ => none
  | none => none
def cOp (T : Tab) : Op → Option SOp
  | .move x | .assign x => do some (.mv (← cOpd x))
  | .pick c a b => do some (.pick (← cOpd c) (← cOpd a) (← cOpd b))
  | .alloc t => do
    let ti ← T t
    let z ← ti.zero
    if z.length = ti.sz then some (.alloc z) else none
  | .box _ x => do some (.box (← cOpd x))
  | .build t ps => do
    let ti ← T t
    let z ← ti.zero
    if z.length ≠ ti.sz then none else
    match ti.td with
    | .struct fs => do
      if !(fs.all fun f => (T f.2.1).isSome) then none else
      let l ← ps.toList.mapM fun p => do
        let (off, fi) ← qn2 T t p.1
        some (off, fi.sz, ← cOpd p.2)
      some (.build z l)
    | .arr _ e => do
      let ei ← T e
      let l ← ps.toList.mapM fun p => do some (p.1 * ei.sz, ei.sz, ← cOpd p.2)
      some (.build z l)
    | _ => none
  | .buildSlice t n ps => do
    let ti ← T t
    match ti.td with
    | .slice e => do
      let ei ← T e
      let z ← ei.zero
      if ei.sz = 0 ∨ z.length ≠ ei.sz then none else
      if n * ei.sz > 65536 then none else
      if ps.toList.map (·.1) ≠ List.range n then none else
      some (.bsl ei.sz (← qpp (ps.map (·.2))))
    | _ => none
  | .load t a => do
    let ti ← T t
    if !ti.agg && ti.sz ≠ 1 then none else
    some (.load ti.agg ti.sz (← cOpd a))
  | .store t a x => do
    let ti ← T t
    some (.store ti.sz (← cOpd a) (← cOpd x))
  | .nilCheck x => do some (.nilc (← cOpd x))
  | .binOp op t x y _ => do
    let ti ← T t
    match ti.td, op with
    | .int _, _ | .str, _ => some (.bin op (← cOpd x) (← cOpd y))
    | _, .eql => do some (.eq false ti.agg (← qbu T 20 t) (← cOpd x) (← cOpd y))
    | _, .neq => do some (.eq true ti.agg (← qbu T 20 t) (← cOpd x) (← cOpd y))
    | _, _ => none
  | .unOp op _ x => do some (.un op (← cOpd x))
  | .convert s d x => do
    let si ← T s
    let di ← T d
    match si.td, di.td with
    | .int _, .int k => some (.conv (.int k) (← cOpd x))
    | .str, .str => some (.conv .same (← cOpd x))
    | .slice e, .str => do
      let ei ← T e
      match ei.td with
      | .int .u8 => some (.conv .strOf (← cOpd x))
      | _ => none
    | _, _ => none
  | .slice t x lo hi mx => do
    let ti ← T t
    if mx.isSome then none else
    match ti.td with
    | .str => some (.slcs (← cOpd x) (← cOpt lo) (← cOpt hi))
    | .slice e => do
      let ei ← T e
      if ei.sz = 0 then none else some (.slc ei.sz (← cOpd x) (← cOpt lo) (← cOpt hi))
    | .arr n e => do
      let ei ← T e
      if ei.sz = 0 then none else some (.slca n ei.sz (← cOpd x) (← cOpt lo) (← cOpt hi))
    | _ => none
  | .fieldAddr s x f => do
    let (off, fi) ← qn2 T s f
    if fi.sz = 0 then none else some (.fa off (← cOpd x))
  | .field s x f => do
    let (off, fi) ← qn2 T s f
    some (.fld fi.agg off fi.sz (← cOpd x))
  | .indexAddr t x i => do
    let ti ← T t
    match ti.td with
    | .slice e => do
      let ei ← T e
      if ei.sz = 0 then none else some (.ia ei.sz (← cOpd x) (← cOpd i))
    | .arr n e => do
      let ei ← T e
      if ei.sz = 0 then none else some (.iaa n ei.sz (← cOpd x) (← cOpd i))
    | _ => none
  | .index t x i => do
    let ti ← T t
    match ti.td with
    | .str => some (.ixs (← cOpd x) (← cOpd i))
    | .arr n e => do
      let ei ← T e
      some (.ixa ei.agg n ei.sz (← cOpd x) (← cOpd i))
    | _ => none
  | .extract x i => do some (.ext (← cOpd x) i)
  | .makeSlice t l c => do
    let ti ← T t
    match ti.td with
    | .slice e => do
      let ei ← T e
      let z ← ei.zero
      if ei.sz = 0 ∨ z.length ≠ ei.sz ∨ ei.bytes = 0 then none else
      if ei.agg then some (.mksl ei.sz ei.bytes (.agg z) (← cOpd l) (← cOpd c))
      else if ei.sz = 1 then some (.mksl ei.sz ei.bytes (z.headD .undef) (← cOpd l) (← cOpd c)) else none
    | _ => none
  | .makeFunc (.func f) first caps => if first.isEmpty then do some (.mkf f (← qpp caps)) else none
  | .makeMap _ none => some .mkmap
  | .mapUpdate t m k x | .insert t m k x => do
    let ti ← T t
    match ti.td with
    | .map kt _ => do
      let ki ← T kt
      let ks ← qbu T 20 kt
      some (.mput (.mk ki.agg ks) (← cOpd m) (← cOpd k) (← cOpd x))
    | _ => none
  | .lookup t m k ok => do
    let ti ← T t
    match ti.td with
    | .map kt vt => do
      let ki ← T kt
      let ks ← qbu T 20 kt
      let vi ← T vt
      let z ← vi.zero
      match z with
      | [z0] => if vi.z1 then some (.mget (.mk ki.agg ks) z0 ok (← cOpd m) (← cOpd k)) else none
      | _ => none
    | _ => none
  | .call { callee := .builtin b, args, argTypes } =>
    match b, args.toList, argTypes.toList with
    | .append, [s, x], [st, xt] => do
      let si ← T st
      let xi ← T xt
      match si.td, xi.td with
      | .slice e, .slice _ => do
        let ei ← T e
        let z ← ei.zero
        if ei.sz = 0 ∨ ei.bytes = 0 ∨ z.length ≠ ei.sz then none else
        some (.app ei.sz ei.bytes (← cOpd s) (← cOpd x))
      | .slice e, .str => do
        let ei ← T e
        let z ← ei.zero
        if ei.sz ≠ 1 ∨ ei.bytes = 0 ∨ z.length ≠ ei.sz then none else
        some (.app ei.sz ei.bytes (← cOpd s) (← cOpd x))
      | _, _ => none
    | .len, [x], [xt] => do
      let xi ← T xt
      match xi.td with
      | .str => some (.len true (← cOpd x))
      | .slice _ => some (.len false (← cOpd x))
      | .arr n _ => some (.mv (.c (.int .i64 n)))
      | _ => none
    | .min, x :: xs, _ => do some (.mm false (← cOpd x) (← xs.mapM cOpd))
    | .max, x :: xs, _ => do some (.mm true (← cOpd x) (← xs.mapM cOpd))
    | _, _, _ => none
  | .call { callee := .value (.func f), args, .. } => do some (.call f (← qpp args))
  | .call { callee := .value x, args, .. } => do some (.callv (← cOpd x) (← qpp args))
  | _ => none
def cOpT (T : Tab) (op : Op) : Option SOp := some ((cOp T op).getD .stuck)
def qbc (T : Tab) (nt : Nat) (ops : Array Oper) (o : Oper) : Option SOper := do
  let op ← cOpT T o.op
  let g ← match o.guard with
    | none => some none
    | some (j, b) => do
      let oj ← ops[j]?
      let d ← oj.dst
      some (some (d, b))
  if (o.dst.all (· < nt)) then some ⟨o.dst, op, g⟩ else none
def SOp.quiet : SOp → Bool
  | .alloc _ | .box _ | .bsl .. | .store .. | .slc .. | .slca .. | .mksl .. | .app .. | .callv .. | .mkmap | .mput .. | .stuck | .callf .. | .take _ => false
  | _ => true
def SOp.headish : SOp → Bool
  | .slc .. | .bsl .. | .callf .. | .callv .. => true
  | so => so.quiet
def SOp.opds : SOp → List Opd
  | .mv x | .box x | .load _ _ x | .nilc x | .un _ x | .conv _ x | .fa _ x | .fld _ _ _ x | .ext x _ | .len _ x => [x]
  | .pick c a b => [c, a, b]
  | .alloc _ | .mkmap | .stuck => []
  | .build _ ps => ps.map (·.2.2)
  | .bsl _ ps => ps
  | .store _ a x => [a, x]
  | .bin _ x y | .eq _ _ _ x y | .ia _ x y | .iaa _ _ x y | .ixs x y | .ixa _ _ _ x y | .mksl _ _ _ x y | .app _ _ x y => [x, y]
  | .slcs x lo hi | .slc _ x lo hi | .slca _ _ x lo hi => x :: lo.toList ++ hi.toList
  | .mm _ x xs => x :: xs
  | .call _ xs => xs
  | .callf _ xs => xs
  | .take x => [x]
  | .callv x xs => x :: xs
  | .mkf _ xs => xs
  | .mput _ m k v => [m, k, v]
  | .mget _ _ _ m k => [m, k]
  | .held fl ps => fl ++ ps.flatMap fun p => [p.1, p.2]
def Opd.isT (d : Nat) : Opd → Bool
  | .t i => i == d
  | _ => false
def SOper.reads (s : SOper) (d : Nat) : Bool := s.op.opds.any (Opd.isT d) || s.g.any (·.1 == d)
def q27 (ops : Array Oper) (l : List SOper) (n j : Nat) : Bool :=
  match ops[j]?, l[j]? with
  | some o, some s => s.op.headish && o.after.toList.all (fun e => !Region.binds .any e || decide (e.on < j)) &&
      (List.range n).all (fun i => match ops[i]? with
        | some oi => match oi.dst with
          | some d => if s.reads d then decide (i < j) && o.after.toList.any (fun e => Region.binds .any e && e.on == i) else true
          | none => true
        | none => true)
  | _, _ => false
def dsts (l : List SOper) : List Nat := l.filterMap (·.dst)
def qq5 : List Nat → Bool
  | [] => true
  | x :: xs => !xs.contains x && qq5 xs
def qsj (ops : Array Oper) (l : List SOper) (n : Nat) : Bool :=
  decide (n ≤ ops.size) && (List.range n).all (q27 ops l n) && qq5 (dsts (l.take n)) &&
    (n == ops.size || (Region.sinkB .any ops n && Region.chainB .any ops n && Region.seqB .any ops (ops.size - n) n ((Array.range ops.size).map (fun i => decide (i < n)))))
def qog : SOp → Bool
  | .alloc _ => true
  | _ => false
def qh8 : AV → Bool
  | .bool _ | .int .. | .str _ | .nilp | .nilf | .nils => true
  | _ => false
def qb4 (l : List SOper) (n : Nat) : List Nat := (List.range n).filter fun i => match l[i]? with
  | some s => qog s.op
  | none => false
def qnr : SOp → Bool
  | .mv _ | .ext .. | .len true _ | .mm .. | .slcs .. => true
  | _ => false
def faS : SOp → Bool
  | .fa .. => true
  | _ => false
def q0w : Op → Bool
  | .load .. => true
  | _ => false
def ptrS : SOp → Bool
  | .load .. | .fa .. => true
  | _ => false
def valS : SOp → Bool
  | .mv _ | .ext .. => true
  | _ => false
def q77 (ops : Array Oper) (l : List SOper) (i : Nat) : Bool :=
  match ops[i]?, l[i]? with
  | some oi, some s => (qnr s.op || faS s.op || (ptrS s.op && q0w oi.op)) && oi.guard.isNone && s.g.isNone && (List.range ops.size).all fun j => decide (j ≤ i) || Region.waitsFor .any ops j i || match ops[j]? with
    | some oj => oi.apart ops oj
    | none => true
  | _, _ => false
def qbbr (ops : Array Oper) (l : List SOper) (n j : Nat) : Bool :=
  match ops[j]?, l[j]? with
  | some o, some s => (match s.op with
      | .alloc z => z.all qh8
      | _ => false) && s.g.isNone && s.dst.isSome && o.after.toList.all (fun e => !Region.binds .any e || decide (e.on < j)) && Region.waitsFor .any ops n j &&
      (List.range n).all fun i => match l[i]?, s.dst with
        | some s', some d => !s'.reads d
        | _, _ => true
  | _, _ => false
def qy9 (ops : Array Oper) (l : List SOper) (n : Nat) (als : List Nat) (j : Nat) : Bool :=
  if j ∈ als then qbbr ops l n j else q27 ops l n j && (Region.waitsFor .any ops n j || q77 ops l j)
def qix : List Nat → List SOper → Bool
  | _, [] => true
  | Z, s :: r => s.g.isNone && match s.op with
    | .store _ (.t i) _ => Z.contains i && s.dst.isNone && qix Z r
    | .fa _ (.t i) => Z.contains i && match s.dst with
      | some d => qix (d :: Z) r
      | none => qix Z r
    | .mv _ | .ext .. => match s.dst with
      | some d => qix (Z.filter (· != d)) r
      | none => qix Z r
    | _ => false
def qq6 (tl : List SOper) : List Nat := tl.filterMap fun s => match s.op with
  | .store _ (.t i) _ | .fa _ (.t i) => if (dsts tl).contains i then none else some i
  | _ => none
def fls2 (ops : Array Oper) (l : List SOper) (n : Nat) : List Opd :=
  (List.range n).flatMap fun j => if Region.waitsFor .any ops n j then [] else match l[j]? with
    | some s => if ptrS s.op || valS s.op then [] else s.op.opds
    | none => []
def lds2 (ops : Array Oper) (l : List SOper) (n : Nat) : List Opd :=
  (List.range n).flatMap fun j => if Region.waitsFor .any ops n j then [] else match l[j]? with
    | some s => if ptrS s.op then s.op.opds else []
    | none => []
def qbp (l : List SOper) (als : List Nat) : List Nat := als.filterMap fun i => (l[i]?).bind (·.dst)
def qq7 (ops : Array Oper) (l : List SOper) (n : Nat) : Bool :=
  decide (n < ops.size) && Region.noSelect ops && (List.range n).all (qy9 ops l n (qb4 l n)) && qq5 (dsts (l.take n)) &&
    Region.chainB .any ops n && Region.seqB .any ops (ops.size - n) n ((Array.range ops.size).map (fun i => decide (i < n))) &&
    ((lds2 ops l n).isEmpty || qix (qq6 (l.drop n)) (l.drop n))
def hds2 (l : List SOper) (n : Nat) (als : List Nat) : List SOper := (List.range n).filterMap fun j => if j ∈ als then none else l[j]?
def prs2 (ops : Array Oper) (l : List SOper) (n : Nat) (als : List Nat) : List (Opd × Opd) :=
  (lds2 ops l n).flatMap fun p => (.c (.bool true), p) :: ((qq6 (l.drop n)).filter (fun z => !(qbp l als).contains z)).map fun z => (.t z, p)
def hd2 (ops : Array Oper) (l : List SOper) (n : Nat) (als : List Nat) : List SOper := hds2 l n als ++ [⟨none, .held (fls2 ops l n) (prs2 ops l n als), none⟩]
def tl2 (l : List SOper) (n : Nat) (als : List Nat) : List SOper := als.filterMap (l[·]?) ++ l.drop n
def qt (T : Tab) (nt : Nat) : Code → Option SC
  | .skip => some .skip
  | .region _ ops d => do
    let l ← ops.toList.mapM (qbc T nt ops)
    if d then do
      match (List.range (ops.size + 1)).find? (qsj ops l) with
      | some n => some (.draw (l.take n) (l.drop n))
      | none => match (List.range (ops.size + 1)).find? (qq7 ops l) with
        | some n => some (.draw (hd2 ops l n (qb4 l n)) (tl2 l n (qb4 l n)))
        | none => some .stuck
    else some (.reg l)
  | .seq a b => do some (.seq (← qt T nt a) (← qt T nt b))
  | .cond c a b => match cOpd c with
    | some c => do some (.cond c (← qt T nt a) (← qt T nt b))
    | none => some .stuck
  | .block id c => do some (.block id (← qt T nt c))
  | .loop c => do some (.loop (← qt T nt c))
  | .exit id => some (.exit id)
  | .ret => some .ret
  | _ => some .stuck
def cRes (T : Tab) : ResultVar → Option SRes
  | .tmp t => some (.t t)
  | .cell a t => do
    let ti ← T t
    if !ti.agg && ti.sz ≠ 1 then none else
    some (.cell a ti.agg ti.sz)
def cFn (T : Tab) (f : Func) : Option SF := do
  let b ← f.body
  let c ← qt T f.ntmps b
  let r ← f.results.toList.mapM (cRes T)
  some ⟨f.ntmps, r, c⟩
end Go.Pev
/- What operations compute on trees; the predicate transformer; how trees stand to the model's values. -/
namespace Go.Pev
open Go
abbrev Env := Nat → AV
def upd (t : Env) (d : Option Nat) (v : AV) : Env :=
  match d with
  | some d => fun i => if i = d then v else t i
  | none => t
def ev (t : Env) : Opd → AV
  | .t i => t i
  | .c v => v
def evs (t : Env) (l : List Opd) : List AV := l.map (ev t)
def els (m : Mem) : AV → Option (List AV)
  | .nils => some []
  | .sl _ xs => some xs
  | .own r n => match m.s r with
    | some (.arr _ _ xs) => if xs.length = n then some xs else none
    | _ => none
  | _ => none
def esz (m : Mem) (e : Nat) : AV → Bool
  | .nils => true
  | .sl e' _ => e' == e
  | .own r _ => match m.s r with
    | some (.arr _ e' _) => e' == e
    | _ => false
  | _ => false
def qiy (cs : List AV) (agg : Bool) (sz : Nat) : Option AV :=
  if agg then (if sz ≤ cs.length then some (.agg (cs.take sz)) else none) else cs.head?
def rd (m : Mem) (agg : Bool) (sz : Nat) : AV → Option AV
  | .ptr r off => match m.s r with
    | some (.box _ cs) => qiy (cs.drop off) agg sz
    | _ => none
  | .cptr cs => qiy cs agg sz
  | .eptr r n i off => match m.s r with
    | some (.arr _ _ xs) => if xs.length = n then match xs[i]? with
        | some x => qiy (x.cells.drop off) agg sz
        | none => none
      else none
    | _ => none
  | _ => none
def qhs : AV → Bool
  | .cptr _ => true
  | _ => false
def fnC : AV → Bool
  | .func _ caps => caps.all qhs
  | _ => false
def qu (m : Mem) : AV → Option AV
  | .own r n => match m.s r with
    | some (.arr _ e xs) => if xs.length = n then some (.sl e xs) else none
    | _ => none
  | .ptr .. | .eptr .. | .map _ | .fr .. | .any | .undef | .agg _ | .tup _ => none
  | .func f caps => if caps.all qhs then some (.func f caps) else none
  | x => some x
def qck (m : Mem) : List AV → Option (List AV)
  | [] => some []
  | x :: xs => match qu m x, qck m xs with
    | some y, some ys => some (y :: ys)
    | _, _ => none
def snap (m : Mem) : AV → Option AV
  | .agg cs => (qck m cs).map .agg
  | x => qu m x
def qcd (m : Mem) : List AV → Option (List AV)
  | [] => some []
  | x :: xs => match snap m x, qcd m xs with
    | some y, some ys => some (y :: ys)
    | _, _ => none
def qv : AV → List Nat
  | .own r _ => [r]
  | _ => []
def ids : AV → List Nat
  | .agg cs => cs.flatMap qv
  | x => qv x
def idss (l : List AV) : List Nat := l.flatMap ids
def putCells (cs : List AV) (off : Nat) (vs : List AV) : List AV := cs.take off ++ vs ++ cs.drop (off + vs.length)
def wr (m : Mem) (sz : Nat) (p x : AV) : Option Mem :=
  if x.cells.length = sz ∧ x.cells.all AV.leaf then
    match p with
    | .ptr r off => match m.s r with
      | some (.box true cs) => if off + sz ≤ cs.length then some (m.set r (.box true (putCells cs off x.cells))) else none
      | _ => none
    | .eptr r n i off => match m.s r with
      | some (.arr true e xs) => match qck m x.cells with
        | some ys => if xs.length = n ∧ r ∉ x.cells.flatMap qv then match xs[i]? with
            | some (.agg cs) => if off + sz ≤ cs.length then some ((m.frz (x.cells.flatMap qv)).set r (.arr true e (xs.set i (.agg (putCells cs off ys))))) else none
            | some _ => if off = 0 ∧ sz = 1 then some ((m.frz (x.cells.flatMap qv)).set r (.arr true e (xs.set i (ys.headD .undef)))) else none
            | none => none
          else none
        | none => none
      | _ => none
    | _ => none
  else none
def qd9 (op : BinOp) (k : IntKind) (x y : Int) : Int :=
  let a := BitVec.ofInt k.bits x
  let b := BitVec.ofInt k.bits y
  match op with
  | .and => k.wrap (a &&& b).toNat
  | .or => k.wrap (a ||| b).toNat
  | .xor => k.wrap (a ^^^ b).toNat
  | _ => k.wrap (a &&& ~~~b).toNat
def ibin (op : BinOp) (k : IntKind) (a : Int) (k' : IntKind) (b : Int) : Option AV :=
  match op with
  | .shl => if b < 0 then none else some (.int k (k.wrap (a * 2 ^ min b.toNat k.bits)))
  | .shr => if b < 0 then none else some (.int k (a.fdiv (2 ^ min b.toNat k.bits)))
  | .add => if k = k' then some (.int k (k.wrap (a + b))) else none
  | .sub => if k = k' then some (.int k (k.wrap (a - b))) else none
  | .mul => if k = k' then some (.int k (k.wrap (a * b))) else none
  | .quo => if k = k' ∧ b ≠ 0 then some (.int k (k.wrap (a.tdiv b))) else none
  | .rem => if k = k' ∧ b ≠ 0 then some (.int k (a.tmod b)) else none
  | .and | .or | .xor | .andNot => if k = k' then some (.int k (qd9 op k a b)) else none
  | .eql => if k = k' then some (.bool (a == b)) else none
  | .neq => if k = k' then some (.bool (a != b)) else none
  | .lss => if k = k' then some (.bool (decide (a < b))) else none
  | .leq => if k = k' then some (.bool (decide (a ≤ b))) else none
  | .gtr => if k = k' then some (.bool (decide (a > b))) else none
  | .geq => if k = k' then some (.bool (decide (a ≥ b))) else none
def sbin (op : BinOp) (a b : List UInt8) : Option AV :=
  match op with
  | .add => if a.length + b.length ≤ 9223372036854775807 then some (.str (a ++ b)) else none
  | .eql => some (.bool (a == b))
  | .neq => some (.bool (!(a == b)))
  | .lss => some (.bool (Op.bytesLess a b))
  | .leq => some (.bool (Op.bytesLess a b || a == b))
  | .gtr => some (.bool (!(Op.bytesLess a b || a == b)))
  | .geq => some (.bool (!(Op.bytesLess a b)))
  | _ => none
def vbin (op : BinOp) (x y : AV) : Option AV :=
  match x, y with
  | .int k a, .int k' b => ibin op k a k' b
  | .str a, .str b => sbin op a b
  | _, _ => none
def qoh : EK → AV → AV → Option Bool
  | .b, .bool a, .bool b => some (a == b)
  | .i k, .int k1 a, .int k2 b => if k1 = k ∧ k2 = k then some (a == b) else none
  | .s, .str a, .str b => some (a == b)
  | _, _, _ => none
def qbg : List EK → List AV → List AV → Option Bool
  | [], [], [] => some true
  | k :: ks, x :: xs, y :: ys => match qoh k x y, qbg ks xs ys with
    | some a, some b => some (a && b)
    | _, _ => none
  | _, _, _ => none
def eqv (agg : Bool) (ks : List EK) : AV → AV → Option Bool
  | .agg xs, .agg ys => if agg then qbg ks xs ys else none
  | x, y => if agg then none else qbg ks [x] [y]
def vun (op : UnOp) (x : AV) : Option AV :=
  match op, x with
  | .neg, .int k n => some (.int k (k.wrap (0 - n)))
  | .xor, .int k n => some (.int k (qd9 .xor k (if k.signed then -1 else k.max) n))
  | .not, .bool b => some (.bool !b)
  | _, _ => none
def byteOf : AV → Option UInt8
  | .int .u8 n => some (UInt8.ofNat n.toNat)
  | _ => none
def qb2 : List AV → Option (List UInt8)
  | [] => some []
  | x :: xs => match byteOf x, qb2 xs with
    | some b, some bs => some (b :: bs)
    | _, _ => none
def qza (m : Mem) (c : Cv) (x : AV) : Option AV :=
  match c, x with
  | .int k, .int _ n => some (.int k (k.wrap n))
  | .same, .str s => some (.str s)
  | .strOf, x => match els m x with
    | some xs => (qb2 xs).map .str
    | none => none
  | _, _ => none
def bnd (v : Option AV) (d mx : Nat) : Option Nat :=
  match v with
  | none => some d
  | some (.int _ i) => if 0 ≤ i ∧ i ≤ mx then some i.toNat else none
  | _ => none
def cut {α : Type} (l : List α) (lo hi : Option AV) : Option (List α) :=
  match bnd hi l.length l.length with
  | some h => match bnd lo 0 h with
    | some k => some ((l.take h).drop k)
    | none => none
  | none => none
def q28 (m : Mem) (r n : Nat) : Bool :=
  match m.s r with
  | some (.arr _ _ xs) => xs.length == n
  | _ => false
def vfa (m : Mem) (off : Nat) : AV → Option AV
  | .ptr r o => some (.ptr r (o + off))
  | .cptr cs => some (.cptr (cs.drop off))
  | .eptr r n i o => if q28 m r n then some (.eptr r n i (o + off)) else none
  | _ => none
def vfld (agg : Bool) (off sz : Nat) : AV → Option AV
  | .agg cs => if agg then (if off + sz ≤ cs.length then some (.agg ((cs.drop off).take sz)) else none) else cs[off]?
  | _ => none
def via (m : Mem) (e : Nat) (x i : AV) : Option AV :=
  match i with
  | .int _ n => if 0 ≤ n then match x with
      | .sl e' xs => if e' = e then (xs[n.toNat]?).map fun y => .cptr y.cells else none
      | .own r len => match m.s r with
        | some (.arr _ e' xs) => if e' = e ∧ xs.length = len ∧ n < len then some (.eptr r len n.toNat 0) else none
        | _ => none
      | _ => none
    else none
  | _ => none
def viaa (m : Mem) (n e : Nat) (x i : AV) : Option AV :=
  match x, i with
  | .ptr r o, .int _ k => if 0 ≤ k ∧ k < n then some (.ptr r (o + k.toNat * e)) else none
  | .cptr cs, .int _ k => if 0 ≤ k ∧ k < n then some (.cptr (cs.drop (k.toNat * e))) else none
  | .eptr r l j o, .int _ k => if q28 m r l = true ∧ 0 ≤ k ∧ k < n then some (.eptr r l j (o + k.toNat * e)) else none
  | _, _ => none
def vixs (x i : AV) : Option AV :=
  match x, i with
  | .str s, .int _ n => if 0 ≤ n then (s[n.toNat]?).map fun (b : UInt8) => .int .u8 b.toNat else none
  | _, _ => none
def vixa (agg : Bool) (n e : Nat) (x i : AV) : Option AV :=
  match i with
  | .int _ k => if 0 ≤ k ∧ k < n then vfld agg (k.toNat * e) e x else none
  | _ => none
def vext (x : AV) (i : Nat) : Option AV :=
  match x with
  | .tup vs => vs[i]?
  | _ => none
def vlen (str : Bool) : AV → Option AV
  | .str s => if str then some (.int .i64 s.length) else none
  | .nils => if str then none else some (.int .i64 0)
  | .sl _ xs => if str then none else some (.int .i64 xs.length)
  | .own _ n => if str then none else some (.int .i64 n)
  | _ => none
def vmm1 (mx : Bool) : AV → AV → Option AV
  | .int k a, .int k' b => if k = k' then some (.int k (if mx then (if b > a then b else a) else (if b < a then b else a))) else none
  | _, _ => none
def vmm (mx : Bool) : AV → List AV → Option AV
  | x, [] => match x with
    | .int k a => some (.int k a)
    | _ => none
  | x, y :: ys => match vmm1 mx x y with
    | some z => vmm mx z ys
    | none => none
def vnil : AV → Option AV
  | .ptr r o => some (.ptr r o)
  | .cptr cs => some (.cptr cs)
  | .func f cs => some (.func f cs)
  | _ => none
def q29 : AV → Bool
  | .ptr _ _ => true
  | _ => false
def vmkf (f : FuncId) (cs : List AV) : Option AV := if cs.all q29 then some (.func f cs) else if cs.all qhs then some (.fv (.func f cs)) else none
def qsk (cs : List AV) : List (Nat × Nat × AV) → Option (List AV)
  | [] => some cs
  | (off, sz, v) :: r => if v.cells.length = sz ∧ off + sz ≤ cs.length ∧ v.cells.all AV.leaf then qsk (putCells cs off v.cells) r else none
def mvOk : AV → Bool
  | .bool _ | .int .. | .str _ | .nilp | .nilf | .nils => true
  | .func _ cs => cs.isEmpty
  | _ => false
def qd2 : EK → AV → Bool
  | .b, .bool _ => true
  | .i k, .int k1 _ => decide (k1 = k)
  | .s, .str _ => true
  | _, _ => false
def qcb : List EK → List AV → Bool
  | [], [] => true
  | k :: ks, x :: xs => qd2 k x && qcb ks xs
  | _, _ => false
def qfa : KD → AV → Bool
  | .mk agg ks, .agg xs => agg && qcb ks xs
  | .mk agg ks, x => !agg && qcb ks [x]
def keq : KD → AV → AV → Option Bool
  | .mk agg ks, k, p => eqv agg ks k p
def qmb (kd : KD) (k : AV) : List (AV × AV) → Nat → Option (Option (Nat × AV))
  | [], _ => some none
  | p :: r, i => match keq kd k p.1 with
    | some true => some (some (i, p.2))
    | some false => qmb kd k r (i + 1)
    | none => none
def q3a (m : Mem) (kd : KD) (z : AV) (ok : Bool) (x k : AV) : Option AV :=
  match x with
  | .map r => if qfa kd k = true then match m.s r with
      | some (.map es) => match qmb kd k es 0 with
        | some (some (_, v)) => some (if ok then .tup [v, .bool true] else v)
        | some none => some (if ok then .tup [z, .bool false] else z)
        | none => none
      | _ => none
    else none
  | _ => none
def q30 (m : Mem) (kd : KD) (x k v : AV) : Option Mem :=
  match x with
  | .map r => if qfa kd k = true ∧ mvOk v = true then match m.s r with
      | some (.map es) => match qmb kd k es 0 with
        | some (some (i, _)) => some (m.set r (.map (es.modify i fun p => (p.1, v))))
        | some none => some (m.set r (.map (es ++ [(k, v)])))
        | none => none
      | _ => none
    else none
  | _ => none
def qcl : AV → Bool
  | .bool _ | .int .. | .str _ | .nilp | .nilf | .nils | .undef => true
  | _ => false
def qhh : AV → Bool
  | .agg cs => cs.all qcl
  | x => qcl x
def flat : AV → Bool
  | .tup vs => vs.all qhh
  | x => qhh x
def boxQ (m : Mem) (r : Nat) : Bool :=
  match m.s r with
  | some (.box ..) => true
  | _ => false
def q31 (m : Mem) : AV → AV → Bool
  | .ptr r _, .ptr r' _ => boxQ m r && boxQ m r' && !(Nat.beq r r')
  | _, _ => false
def boxP (m : Mem) : AV → Bool
  | .ptr r _ => boxQ m r
  | _ => false
def qns (m : Mem) (t : Env) (p : Opd × Opd) : Bool :=
  match p.1 with
  | .c _ => boxP m (ev t p.2)
  | .t i => q31 m (t i) (ev t p.2)
def qa (t : Env) (m : Mem) : SOp → Option AV
  | .mv x => some (ev t x)
  | .pick c a b => match ev t c with
    | .bool q => some (if q then ev t a else ev t b)
    | _ => none
  | .build z ps => (qsk z (ps.map fun p => (p.1, p.2.1, ev t p.2.2))).map .agg
  | .load agg sz a => rd m agg sz (ev t a)
  | .nilc x => vnil (ev t x)
  | .bin op x y => vbin op (ev t x) (ev t y)
  | .eq neg agg ks x y => (eqv agg ks (ev t x) (ev t y)).map fun b => .bool (if neg then !b else b)
  | .un op x => vun op (ev t x)
  | .conv c x => qza m c (ev t x)
  | .slcs x lo hi => match ev t x with
    | .str s => (cut s (lo.map (ev t)) (hi.map (ev t))).map .str
    | _ => none
  | .fa off x => vfa m off (ev t x)
  | .fld agg off sz x => vfld agg off sz (ev t x)
  | .ia e x i => via m e (ev t x) (ev t i)
  | .iaa n e x i => viaa m n e (ev t x) (ev t i)
  | .ixs x i => vixs (ev t x) (ev t i)
  | .ixa agg n e x i => vixa agg n e (ev t x) (ev t i)
  | .ext x i => vext (ev t x) i
  | .len s x => vlen s (ev t x)
  | .mm mx x xs => vmm mx (ev t x) (evs t xs)
  | .mkf f cs => vmkf f (evs t cs)
  | .mget kd z ok x k => q3a m kd z ok (ev t x) (ev t k)
  | .held fl ps => if (evs t fl).all flat && ps.all (qns m t) then some .undef else none
  | _ => none
def qbr (m : Mem) : AV → Option AV
  | .own r n => match m.s r with
    | some (.arr w e xs) => if xs.length = n then some (.fr w e xs) else none
    | _ => none
  | .ptr .. | .eptr .. | .map _ | .fr .. | .any | .undef | .agg _ | .tup _ => none
  | .func f caps => if caps.isEmpty then some (.func f []) else none
  | x => some x
def qdc (m : Mem) : List AV → Option (List AV)
  | [] => some []
  | x :: xs => match qbr m x, qdc m xs with
    | some y, some ys => some (y :: ys)
    | _, _ => none
def exp1 (m : Mem) : AV → Option AV
  | .agg cs => (qdc m cs).map .agg
  | x => qbr m x
def exps (m : Mem) : List AV → Option (List AV)
  | [] => some []
  | x :: xs => match exp1 m x, exps m xs with
    | some y, some ys => some (y :: ys)
    | _, _ => none
def expo (m : Mem) : AV → Option AV
  | .tup vs => if (vs.flatMap ids).Nodup then (exps m vs).map .tup else none
  | .undef => some .undef
  | x => if (ids x).Nodup then exp1 m x else none
def qeo (x : AV) (m : Mem) : AV × Mem :=
  match x with
  | .fr w e xs => (.own m.n xs.length, m.new (.arr w e xs))
  | x => (x, m)
def qbw : List AV → Mem → List AV × Mem
  | [], m => ([], m)
  | x :: xs, m => ((qeo x m).1 :: (qbw xs (qeo x m).2).1, (qbw xs (qeo x m).2).2)
def imp1 (x : AV) (m : Mem) : AV × Mem :=
  match x with
  | .agg cs => (.agg (qbw cs m).1, (qbw cs m).2)
  | x => qeo x m
def imps : List AV → Mem → List AV × Mem
  | [], m => ([], m)
  | x :: xs, m => ((imp1 x m).1 :: (imps xs (imp1 x m).2).1, (imps xs (imp1 x m).2).2)
def imp (x : AV) (m : Mem) : AV × Mem :=
  match x with
  | .tup vs => (.tup (imps vs m).1, (imps vs m).2)
  | x => imp1 x m
inductive CRel (I : Nat → Nat → Prop) (w : World) : AV → Value → Prop
  | any (v : Value) : CRel I w .any v
  | undef : CRel I w .undef Go.undef
  | bool (b : Bool) : CRel I w (.bool b) (.bool b)
  | int (k : IntKind) (n : Int) : CRel I w (.int k n) (.int k n)
  | str (s : ByteArray) : CRel I w (.str s.data.toList) (.string s)
  | nilp : CRel I w .nilp (.pointer none)
  | nilf : CRel I w .nilf .nilFunc
  | nils : CRel I w .nils (.slice none 0 0)
  | func (f : FuncId) (cs : List AV) (vs : Array Value) (hl : ∀ (x : AV), x ∈ cs → x.leaf = true) (hs : vs.size = cs.length)
      (h : ∀ (k : Nat) (x : AV) (v : Value), cs[k]? = some x → vs[k]? = some v → CRel I w x v) : CRel I w (.func f cs) (.func (.func f) #[] vs)
  | fv (x : AV) (v : Value) (hx : fnC x = true) (h : CRel I w x v) : CRel I w (.fv x) v
  | agg (cs : List AV) (vs : Array Value) (hl : ∀ (x : AV), x ∈ cs → x.leaf = true) (hs : vs.size = cs.length)
      (h : ∀ (k : Nat) (x : AV) (v : Value), cs[k]? = some x → vs[k]? = some v → CRel I w x v) : CRel I w (.agg cs) (.agg vs)
  | tup (cs : List AV) (vs : Array Value) (hs : vs.size = cs.length)
      (h : ∀ (k : Nat) (x : AV) (v : Value), cs[k]? = some x → vs[k]? = some v → CRel I w x v) : CRel I w (.tup cs) (.tuple vs)
  | sl (e : Nat) (xs : List AV) (a : Option Addr) (c b o : Nat) (g : Nat → Value) (hcap : xs.length ≤ c) (ha : xs = [] ∨ a = some ⟨b, o, none⟩)
      (he : ∀ (i : Nat) (x : AV), xs[i]? = some x → x.cells.length = e) (hl : ∀ (i : Nat) (x : AV) (k : Nat) (y : AV), xs[i]? = some x → x.cells[k]? = some y → y.leaf = true)
      (hc : ∀ (i : Nat) (x : AV) (k : Nat) (y : AV), xs[i]? = some x → x.cells[k]? = some y → I b (o + (i * e + k)) ∧ w.cell? ⟨b, o + (i * e + k), none⟩ = some (g (i * e + k)))
      (h : ∀ (i : Nat) (x : AV) (k : Nat) (y : AV), xs[i]? = some x → x.cells[k]? = some y → CRel I w y (g (i * e + k))) : CRel I w (.sl e xs) (.slice a xs.length c)
  | cptr (cs : List AV) (b o : Nat) (g : Nat → Value) (hl : ∀ (x : AV), x ∈ cs → x.leaf = true)
      (hc : ∀ (k : Nat) (y : AV), cs[k]? = some y → I b (o + k) ∧ w.cell? ⟨b, o + k, none⟩ = some (g k))
      (h : ∀ (k : Nat) (y : AV), cs[k]? = some y → CRel I w y (g k)) : CRel I w (.cptr cs) (.pointer (some ⟨b, o, none⟩))
structure Bk where
  b : Nat
  c : Nat
  nil : Bool
def Bk.val (k : Bk) (n : Nat) : Value := if k.nil then .slice none 0 0 else .slice (some ⟨k.b, 0, none⟩) n k.c
structure Gh where
  I : Nat → Nat → Prop
  jb : Nat → Nat
  ja : Nat → Bk
inductive VRel (g : Gh) (m : Mem) (w : World) : AV → Value → Prop
  | c {x : AV} {v : Value} (h : CRel g.I w x v) : VRel g m w x v
  | ptr (r off : Nat) (h : r < m.n) : VRel g m w (.ptr r off) (.pointer (some ⟨g.jb r, off, none⟩))
  | own (r n : Nat) (a : Option Addr) (c : Nat) (hr : r < m.n)
      (h : ∀ wf e xs, m.s r = some (.arr wf e xs) → n ≤ xs.length ∧ (xs.length = n → Value.slice a n c = (g.ja r).val n)) : VRel g m w (.own r n) (.slice a n c)
  | eptr (r n i off : Nat) (v : Value) (hr : r < m.n) (h1 : v.oneCell' = true)
      (h : ∀ wf e xs, m.s r = some (.arr wf e xs) → n ≤ xs.length ∧ (xs.length = n → v = .pointer (some ⟨(g.ja r).b, i * e + off, none⟩) ∧ (g.ja r).nil = false)) : VRel g m w (.eptr r n i off) v
  | func (f : FuncId) (cs : List AV) (vs : Array Value) (hp : ∀ (x : AV), x ∈ cs → q29 x = true) (hs : vs.size = cs.length)
      (h : ∀ (k : Nat) (x : AV) (v : Value), cs[k]? = some x → vs[k]? = some v → VRel g m w x v) : VRel g m w (.func f cs) (.func (.func f) #[] vs)
  | agg (cs : List AV) (vs : Array Value) (hl : ∀ (x : AV), x ∈ cs → x.leaf = true) (hs : vs.size = cs.length)
      (h : ∀ (k : Nat) (x : AV) (v : Value), cs[k]? = some x → vs[k]? = some v → VRel g m w x v) : VRel g m w (.agg cs) (.agg vs)
  | tup (cs : List AV) (vs : Array Value) (hs : vs.size = cs.length)
      (h : ∀ (k : Nat) (x : AV) (v : Value), cs[k]? = some x → vs[k]? = some v → VRel g m w x v) : VRel g m w (.tup cs) (.tuple vs)
  | map (r : Nat) (h : r < m.n) : VRel g m w (.map r) (.map (some (g.jb r)))
def Blk (w : World) (b : Nat) (arr : Array Value) : Prop := ∃ T, w.heap[b]? = some (.cells arr T (0, 0))
def qmc (g : Gh) (m : Mem) (w : World) (r : Nat) : Ob → Prop
  | .box wf cs => ∃ arr, Blk w (g.jb r) arr ∧ arr.size = cs.length ∧ (∀ (x : AV), x ∈ cs → x.leaf = true) ∧
      (∀ (k : Nat) (x : AV) (v : Value), cs[k]? = some x → arr[k]? = some v → VRel g m w x v) ∧ (∀ k, g.I (g.jb r) k ↔ (wf = false ∧ k < arr.size))
  | .arr wf e xs => ((g.ja r).nil = true ∧ xs = []) ∨ ((g.ja r).nil = false ∧ ∃ arr, Blk w (g.ja r).b arr ∧ xs.length ≤ (g.ja r).c ∧ (g.ja r).c * e ≤ arr.size ∧
      (∀ (i : Nat) (x : AV), xs[i]? = some x → x.cells.length = e) ∧ (∀ (i : Nat) (x : AV) (k : Nat) (y : AV), xs[i]? = some x → x.cells[k]? = some y → y.leaf = true) ∧
      (∀ (i : Nat) (x : AV) (k : Nat) (y : AV) (v : Value), xs[i]? = some x → x.cells[k]? = some y → arr[i * e + k]? = some v → CRel g.I w y v) ∧
      (∀ k, g.I (g.ja r).b k ↔ (wf = false ∧ k < xs.length * e)))
  | .map es => ∃ (arr : Array MapEntry) (clock : Nat), w.heap[g.jb r]? = some (.map arr clock) ∧ arr.size = es.length ∧
      ∀ (i : Nat) (p : AV × AV) (e : MapEntry), es[i]? = some p → arr[i]? = some e → CRel g.I w p.1 e.key ∧ mvOk p.2 = true ∧ CRel g.I w p.2 e.val
def Ob.blk (g : Gh) (r : Nat) : Ob → Option Nat
  | .arr .. => if (g.ja r).nil then none else some (g.ja r).b
  | _ => some (g.jb r)
def q69 (w : World) : Prop := ∀ p, p ∈ qy8 → 0 < p.2.size ∧ ∃ T fr, w.heap[p.1]? = some (.cells p.2 T fr)
def qik (g : Gh) (m : Mem) (w : World) : Prop := ∀ p, p ∈ qy8 → (∃ T fr, w.heap[p.1]? = some (.cells p.2 T fr)) ∧ (∀ r ob, m.s r = some ob → ob.blk g r ≠ some p.1) ∧ ∃ k, g.I p.1 k
structure OK (g : Gh) (m : Mem) (w : World) : Prop where
  lt : ∀ r ob, m.s r = some ob → r < m.n
  ob : ∀ r ob, m.s r = some ob → qmc g m w r ob
  ne : ∀ r r' ob ob' b, m.s r = some ob → m.s r' = some ob' → ob.blk g r = some b → ob'.blk g r' = some b → r = r'
  im : ∀ b k, g.I b k → ∃ v, w.cell? ⟨b, k, none⟩ = some v
  tb : qik g m w
structure OK1 (g : Gh) (m : Mem) (w : World) : Prop where
  lt : ∀ r ob, m.s r = some ob → r < m.n
  ob : ∀ r ob, m.s r = some ob → qmc g m w r ob
  ne : ∀ r r' ob ob' b, m.s r = some ob → m.s r' = some ob' → ob.blk g r = some b → ob'.blk g r' = some b → r = r'
  im : ∀ b k, g.I b k → ∃ v, w.cell? ⟨b, k, none⟩ = some v
theorem OK.to1 {g : Gh} {m : Mem} {w : World} (h : OK g m w) : OK1 g m w := ⟨h.lt, h.ob, h.ne, h.im⟩
structure Ext (g : Gh) (m : Mem) (w : World) (g' : Gh) (m' : Mem) (w' : World) : Prop where
  im : ∀ b k, g.I b k → g'.I b k ∧ w'.cell? ⟨b, k, none⟩ = w.cell? ⟨b, k, none⟩
  jb : ∀ r, r < m.n → g'.jb r = g.jb r
  ja : ∀ r, r < m.n → ∀ wf' e' xs', m'.s r = some (.arr wf' e' xs') → ∃ wf e xs, m.s r = some (.arr wf e xs) ∧ e' = e ∧ xs.length ≤ xs'.length ∧ (xs'.length = xs.length → g'.ja r = g.ja r)
  n : m.n ≤ m'.n
  fr : ∀ b, b < w.heap.size → (∀ r ob, m.s r = some ob → ob.blk g r ≠ some b) → w'.heap[b]? = w.heap[b]?
  inew : ∀ b k, g'.I b k → g.I b k ∨ w.heap.size ≤ b ∨ ∃ r ob, m.s r = some ob ∧ ob.blk g r = some b
  onew : ∀ r ob b, m'.s r = some ob → ob.blk g' r = some b → w.heap.size ≤ b ∨ ∃ r0 ob0, m.s r0 = some ob0 ∧ ob0.blk g r0 = some b
  size : w.heap.size ≤ w'.heap.size
  os : w'.os = w.os
  tape : w'.tape = w.tape
  output : w'.output = w.output
theorem qik.lt {g : Gh} {m : Mem} {w : World} (h : qik g m w) {p : Nat × Array Value} (hp : p ∈ qy8) : p.1 < w.heap.size := by
  obtain ⟨T, fr, h1⟩ := (h p hp).1
  exact (Array.getElem?_eq_some_iff.1 h1).1
theorem qik.go {g g' : Gh} {m m' : Mem} {w w' : World} (h : qik g m w) (hi : ∀ b k, g.I b k → g'.I b k)
    (hw : ∀ b, b < w.heap.size → (∀ r ob, m.s r = some ob → ob.blk g r ≠ some b) → w'.heap[b]? = w.heap[b]?)
    (ho : ∀ r ob b, m'.s r = some ob → ob.blk g' r = some b → w.heap.size ≤ b ∨ ∃ r0 ob0, m.s r0 = some ob0 ∧ ob0.blk g r0 = some b) : qik g' m' w' := fun p hp => by
  obtain ⟨⟨T, fr, h1⟩, h2, k, h5⟩ := h p hp
  have hl := h.lt hp
  refine ⟨⟨T, fr, by rw [hw p.1 hl h2]; exact h1⟩, fun r ob hs hb => ?_, k, hi _ _ h5⟩
  rcases ho r ob p.1 hs hb with h3 | ⟨r0, ob0, h3, h4⟩
  · omega
  · exact h2 r0 ob0 h3 h4
theorem qik.obs {g g' : Gh} {m m' : Mem} {w : World} (h : qik g m w) (hi : ∀ b k, g.I b k → g'.I b k) (ho : ∀ r ob b, m'.s r = some ob → ob.blk g' r = some b → (∀ k, ¬ g.I b k) ∨ ∃ r0 ob0, m.s r0 = some ob0 ∧ ob0.blk g r0 = some b) : qik g' m' w := fun p hp => by
  obtain ⟨h1, h2, k, h5⟩ := h p hp
  refine ⟨h1, fun r ob hs hb => ?_, k, hi _ _ h5⟩
  rcases ho r ob p.1 hs hb with h3 | ⟨r0, ob0, h3, h4⟩
  · exact h3 k h5
  · exact h2 r0 ob0 h3 h4
def Ent (P : Program) (f : FuncId) : Prop := ∃ fn, P.funcs[f]? = some fn ∧ fn.body.isNone = false ∧ (fn.name == "runtime.NumGoroutine") = false
def qoi (P : Program) (f : FuncId) (xs : List AV) (m : Mem) (Q : AV → Mem → Prop) : Prop :=
  Ent P f ∧ ∀ (g : Gh) (w : World) (args : Array Value), OK g m w → args.size = xs.length → (∀ (k : Nat) (x : AV) (v : Value), xs[k]? = some x → args[k]? = some v → VRel g m w x v) →
    Calls P f args w fun e w' => ∃ v y g' m', e = .returned v ∧ Q y m' ∧ OK g' m' w' ∧ VRel g' m' w' y v ∧ Ext g m w g' m' w'
def qbdj (P : Program) (f : FuncId) (xs : List AV) (m : Mem) (Q : AV → Mem → Prop) : Prop :=
  ∀ (g : Gh) (w : World) (args : Array Value), OK g m w → args.size = xs.length → (∀ (k : Nat) (x : AV) (v : Value), xs[k]? = some x → args[k]? = some v → VRel g m w x v) →
    ∃ v y, (callFunc f args).run P w = .ok (.value v) w ∧ Q y m ∧ VRel g m w y v
def q7a (P : Program) (f : FuncId) (xs : List AV) (m : Mem) (Q : AV → Mem → Prop) : Prop := qoi P f xs m Q ∨ qbdj P f xs m Q
def qq8 (P : Program) (f : FuncId) (xs : List AV) (Q : AV → Prop) : Prop :=
  qoi P f xs Mem.none fun y m => ∃ z, expo m y = some z ∧ Q z
def qmr (P : Program) (f : FuncId) (xs : List AV) (Q : AV → Prop) : Prop :=
  q7a P f xs Mem.none fun y m => ∃ z, expo m y = some z ∧ Q z
def qq9 (P : Program) (f : FuncId) (vs : List AV) (m : Mem) (K : AV → Mem → Prop) : Prop :=
  (∃ as_ Q, qcd m vs = some as_ ∧ qmr P f as_ Q ∧ ∀ y, Q y → K (imp y (if flat y then m else m.frz (idss vs))).1 (imp y (if flat y then m else m.frz (idss vs))).2) ∨
  (vs.all (fun v => match v with | .undef | .fr .. => false | _ => true) = true ∧ ∃ Q, q7a P f vs m Q ∧ ∀ y m', Q y m' → K y m')
def oP {α : Type} (o : Option α) (K : α → Prop) : Prop :=
  match o with
  | some a => K a
  | none => False
def qn3 (m : Mem) (e : Nat) (x : AV) : Option (List AV) :=
  match x with
  | .str b => if e = 1 then some (b.map fun (c : UInt8) => AV.int .u8 c.toNat) else none
  | x => if esz m e x then els m x else none
def q3b (m : Mem) (e by_ : Nat) (s x : AV) : Option (AV × Mem) :=
  match els m s, qn3 m e x with
  | some xs, some ys =>
    if esz m e s ∧ (xs.length + ys.length) * by_ ≤ 140737488355328 then
      match s with
      | .nils => some (.own m.n ys.length, m.new (.arr true e ys))
      | .own r _ => match m.s r with
        | some (.arr w _ _) => some (.own r (xs.length + ys.length), m.set r (.arr w e (xs ++ ys)))
        | _ => none
      | _ => none
    else none
  | _, _ => none
def mkOf (m : Mem) (e by_ : Nat) (z l c : AV) : Option (AV × Mem) :=
  match l, c with
  | .int .i64 n, .int .i64 k => if 0 ≤ n ∧ n ≤ k ∧ k * by_ ≤ 281474976710656 then some (.own m.n n.toNat, m.new (.arr true e (List.replicate n.toNat z))) else none
  | _, _ => none
def qd (t : Env) (m : Mem) : SOp → Option (AV × Mem)
  | .alloc z => if z.all AV.leaf then some (.ptr m.n 0, m.new (.box true z)) else none
  | .box x => if (ev t x).cells.all AV.leaf then some (.ptr m.n 0, m.new (.box true (ev t x).cells)) else none
  | .bsl e ps => match qcd m (evs t ps) with
    | some xs => if xs.all fun x => x.cells.length == e then some (.own m.n xs.length, (m.frz (idss (evs t ps))).new (.arr true e xs)) else none
    | none => none
  | .store sz a x => (wr m sz (ev t a) (ev t x)).map fun m' => (.undef, m')
  | .slc e x lo hi => if esz m e (ev t x) then match els m (ev t x) with
      | some xs => (cut xs (lo.map (ev t)) (hi.map (ev t))).map fun ys => (.sl e ys, m.frz (ids (ev t x)))
      | none => none
    else none
  | .slca n e x lo hi => match ev t x with
    | .ptr r 0 => match m.s r with
      | some (.box _ cs) => if e = 1 ∧ cs.length = n then match qck m cs with
          | some ys => if (cs.flatMap qv).isEmpty then (cut ys (lo.map (ev t)) (hi.map (ev t))).map fun zs => (.sl 1 zs, m.set r (.box false cs)) else none
          | none => none
        else none
      | _ => none
    | _ => none
  | .mksl e by_ z l c => mkOf m e by_ z (ev t l) (ev t c)
  | .app e by_ s x => q3b m e by_ (ev t s) (ev t x)
  | .mkmap => some (.map m.n, m.new (.map []))
  | .take x => match ev t x with
    | .sl e xs => some (.own m.n xs.length, m.new (.arr true e xs))
    | _ => none
  | .mput kd x k v => (q30 m kd (ev t x) (ev t k) (ev t v)).map fun m' => (.undef, m')
  | _ => none
def WpOp (P : Program) (t : Env) (m : Mem) (K : AV → Mem → Prop) : SOp → Prop
  | .call f xs => qq9 P f (evs t xs) m K
  | .callv x xs => match ev t x with
    | .func f caps => qq9 P f (evs t xs ++ caps) m K
    | .fv (.func f caps) => qq9 P f (evs t xs ++ caps) m K
    | _ => False
  | so => if so.quiet then oP (qa t m so) fun v => K v m else oP (qd t m so) fun p => K p.1 p.2
def qff : AV → AV
  | .fr _ e xs => .sl e xs
  | x => x
def clo1 : AV → AV
  | .agg cs => .agg (cs.map qff)
  | x => qff x
def clo : AV → AV
  | .tup vs => .tup (vs.map clo1)
  | x => clo1 x
def qbq (P : Program) (F : List Nat) (t : Env) (m : Mem) (K : AV → Prop) : SOp → Prop
  | .call f xs => ∃ as_ y, qcd m (evs t xs) = some as_ ∧ qmr P f as_ (fun z => clo z = y) ∧ (flat y = true ∨ (idss (evs t xs)).all (fun r => F.contains r) = true) ∧ K y
  | .callv x xs => ∃ f caps, (ev t x = .func f [] ∧ caps = [] ∨ ev t x = .fv (.func f caps)) ∧ ∃ as_ y, qcd m (evs t xs ++ caps) = some as_ ∧ qmr P f as_ (fun z => clo z = y) ∧ (flat y = true ∨ (idss (evs t xs ++ caps)).all (fun r => F.contains r) = true) ∧ K y
  | .callf f xs => ∃ as_ e ys, qcd m (evs t xs) = some as_ ∧ qmr P f as_ (· = .fr true e ys) ∧ (idss (evs t xs)).all (fun r => F.contains r) = true ∧ K (.sl e ys)
  | .slc e x lo hi => (ids (ev t x)).all (fun r => F.contains r) = true ∧ esz m e (ev t x) = true ∧ oP (els m (ev t x)) fun xs => oP (cut xs (lo.map (ev t)) (hi.map (ev t))) fun ys => K (.sl e ys)
  | .bsl e ps => (idss (evs t ps)).all (fun r => F.contains r) = true ∧ oP (qcd m (evs t ps)) fun xs => xs.all (fun x => x.cells.length == e) = true ∧ K (.sl e xs)
  | so => if so.quiet then oP (qa t m so) K else False
def WpQs (P : Program) (F : List Nat) (m : Mem) : List SOper → Env → (Env → Prop) → Prop
  | [], t, Q => Q t
  | o :: r, t, Q => match o.g with
    | none => qbq P F t m (fun v => WpQs P F m r (upd t o.dst v) Q) o.op
    | some (d, want) => match t d with
      | .bool b => (b = want → qbq P F t m (fun v => WpQs P F m r (upd t o.dst v) Q) o.op) ∧ (b = !want → WpQs P F m r (upd t o.dst .undef) Q)
      | .undef => WpQs P F m r (upd t o.dst .undef) Q
      | _ => False
inductive Ex where
  | norm
  | exit (id : Nat)
  | ret
def q3c (t : Env) (m : Mem) : SRes → Option AV
  | .t i => some (t i)
  | .cell i agg sz => rd m agg sz (t i)
def ress (t : Env) (m : Mem) : List SRes → Option (List AV)
  | [] => some []
  | x :: xs => match q3c t m x, ress t m xs with
    | some y, some ys => some (y :: ys)
    | _, _ => none
def retv (s : SF) (t : Env) (m : Mem) : Option AV :=
  match ress t m s.res with
  | some [x] => some x
  | some l => some (.tup l)
  | none => none
def qdm (xs : List AV) : Env := fun i => (xs[i]?).getD .undef
end Go.Pev
/- Trees and values: how relations last, and what an object's change does. -/
namespace Go.Pev
open Go
theorem CRel.mono {I I' : Nat → Nat → Prop} {w w' : World} (hI : ∀ b k, I b k → I' b k ∧ w'.cell? ⟨b, k, none⟩ = w.cell? ⟨b, k, none⟩) {x : AV} {v : Value} (h : CRel I w x v) : CRel I' w' x v := by
  induction h with
  | any v => exact .any v
  | undef => exact .undef
  | bool _ => exact .bool _
  | int k n => exact .int k n
  | str s => exact .str s
  | nilp => exact .nilp
  | nilf => exact .nilf
  | nils => exact .nils
  | func f cs vs hl hs _ ih => exact .func f cs vs hl hs ih
  | fv x v hx _ ih => exact .fv x v hx ih
  | agg cs vs hl hs _ ih => exact .agg cs vs hl hs ih
  | tup cs vs hs _ ih => exact .tup cs vs hs ih
  | sl e xs a c b o g hcap ha he hl hc _ ih =>
    refine .sl e xs a c b o g hcap ha he hl (fun i x k y hx hy => ?_) ih
    obtain ⟨h1, h2⟩ := hc i x k y hx hy
    exact ⟨(hI _ _ h1).1, (hI _ _ h1).2.trans h2⟩
  | cptr cs b o g hl hc _ ih =>
    refine .cptr cs b o g hl (fun k y hy => ?_) ih
    obtain ⟨h1, h2⟩ := hc k y hy
    exact ⟨(hI _ _ h1).1, (hI _ _ h1).2.trans h2⟩
structure VExt (g : Gh) (m : Mem) (w : World) (g' : Gh) (m' : Mem) (w' : World) : Prop where
  im : ∀ b k, g.I b k → g'.I b k ∧ w'.cell? ⟨b, k, none⟩ = w.cell? ⟨b, k, none⟩
  jb : ∀ r, r < m.n → g'.jb r = g.jb r
  ja : ∀ r, r < m.n → ∀ wf' e' xs', m'.s r = some (.arr wf' e' xs') → ∃ wf e xs, m.s r = some (.arr wf e xs) ∧ e' = e ∧ xs.length ≤ xs'.length ∧ (xs'.length = xs.length → g'.ja r = g.ja r)
  n : m.n ≤ m'.n
theorem Ext.vext {g m w g' m' w'} (h : Ext g m w g' m' w') : VExt g m w g' m' w' := ⟨h.im, h.jb, h.ja, h.n⟩
theorem VRel.mono {g m w g' m' w'} (h : VExt g m w g' m' w') {x : AV} {v : Value} (hv : VRel g m w x v) : VRel g' m' w' x v := by
  induction hv with
  | c hc => exact .c (hc.mono h.im)
  | ptr r off hr => rw [← h.jb r hr]; exact .ptr r off (Nat.lt_of_lt_of_le hr h.n)
  | own r n a c hr hh =>
    refine .own r n a c (Nat.lt_of_lt_of_le hr h.n) fun wf' e' xs' hs => ?_
    obtain ⟨wf, e, xs, hs0, rfl, hle, hj⟩ := h.ja r hr wf' e' xs' hs
    obtain ⟨h1, h2⟩ := hh wf e' xs hs0
    refine ⟨Nat.le_trans h1 hle, fun hn => ?_⟩
    have hx : xs.length = n := by omega
    rw [hj (by omega)]
    exact h2 hx
  | eptr r n i off v hr h1 hh =>
    refine .eptr r n i off v (Nat.lt_of_lt_of_le hr h.n) h1 fun wf' e' xs' hs => ?_
    obtain ⟨wf, e, xs, hs0, rfl, hle, hj⟩ := h.ja r hr wf' e' xs' hs
    obtain ⟨h1, h2⟩ := hh wf e' xs hs0
    refine ⟨Nat.le_trans h1 hle, fun hn => ?_⟩
    have hx : xs.length = n := by omega
    rw [hj (by omega)]
    exact h2 hx
  | func f cs vs hp hs _ ih => exact .func f cs vs hp hs ih
  | agg cs vs hl hs _ ih => exact .agg cs vs hl hs ih
  | tup cs vs hs _ ih => exact .tup cs vs hs ih
  | map r hr => rw [← h.jb r hr]; exact .map r (Nat.lt_of_lt_of_le hr h.n)
theorem VRel.ext {g m w g' m' w'} (h : Ext g m w g' m' w') {x : AV} {v : Value} (hv : VRel g m w x v) : VRel g' m' w' x v := hv.mono h.vext
theorem Ext.refl (g : Gh) (m : Mem) (w : World) : Ext g m w g m w where
  im := fun _ _ h => ⟨h, rfl⟩
  jb := fun _ _ => rfl
  ja := fun _ _ wf e xs h => ⟨wf, e, xs, h, rfl, Nat.le_refl _, fun _ => rfl⟩
  n := Nat.le_refl _
  fr := fun _ _ _ => rfl
  inew := fun _ _ h => .inl h
  onew := fun r ob b h hb => .inr ⟨r, ob, h, hb⟩
  size := Nat.le_refl _
  os := rfl
  tape := rfl
  output := rfl
theorem Ext.trans {g0 m0 w0 g1 m1 w1 g2 m2 w2} (h : Ext g0 m0 w0 g1 m1 w1) (k : Ext g1 m1 w1 g2 m2 w2) : Ext g0 m0 w0 g2 m2 w2 where
  im := fun b i hb => ⟨(k.im b i (h.im b i hb).1).1, (k.im b i (h.im b i hb).1).2.trans (h.im b i hb).2⟩
  jb := fun r hr => (k.jb r (Nat.lt_of_lt_of_le hr h.n)).trans (h.jb r hr)
  ja := fun r hr wf' e' xs' hs => by
    obtain ⟨wf, e, xs, hs1, rfl, hl1, hj1⟩ := k.ja r (Nat.lt_of_lt_of_le hr h.n) wf' e' xs' hs
    obtain ⟨wf0, e0, xs0, hs0, rfl, hl0, hj0⟩ := h.ja r hr wf e' xs hs1
    exact ⟨wf0, e', xs0, hs0, rfl, Nat.le_trans hl0 hl1, fun hn => (hj1 (by omega)).trans (hj0 (by omega))⟩
  n := Nat.le_trans h.n k.n
  fr := fun b hb hno => by
    rw [k.fr b (Nat.lt_of_lt_of_le hb h.size) (fun r ob hs hbk => ?_), h.fr b hb hno]
    rcases h.onew r ob b hs hbk with h1 | ⟨r0, ob0, h2, h3⟩
    · omega
    · exact hno r0 ob0 h2 h3
  inew := fun b i hi => by
    rcases k.inew b i hi with h1 | h1 | ⟨r, ob, h1, h2⟩
    · exact h.inew b i h1
    · exact .inr (.inl (Nat.le_trans h.size h1))
    · exact .inr (h.onew r ob b h1 h2)
  onew := fun r ob b hs hb => by
    rcases k.onew r ob b hs hb with h1 | ⟨r0, ob0, h1, h2⟩
    · exact .inl (Nat.le_trans h.size h1)
    · exact h.onew r0 ob0 b h1 h2
  size := Nat.le_trans h.size k.size
  os := k.os.trans h.os
  tape := k.tape.trans h.tape
  output := k.output.trans h.output
theorem q6i {x : AV} (hx : fnC x = true) : ∃ f caps, x = .func f caps ∧ caps.all qhs = true := by
  unfold fnC at hx
  split at hx
  · exact ⟨_, _, rfl, hx⟩
  · cases hx
theorem CRel.fnC_one {I w x v} (h : CRel I w x v) (hx : fnC x = true) : v.oneCell' = true := by
  obtain ⟨f, caps, rfl, _⟩ := q6i hx
  cases h; rfl
theorem CRel.oneCell {I w x v} (h : CRel I w x v) (hx : x.leaf = true) : v.oneCell' = true := by
  cases h <;> first | rfl | (simp [AV.leaf] at hx; done) | exact CRel.fnC_one ‹_› ‹_›
theorem VRel.oneCell {g m w x v} (h : VRel g m w x v) (hx : x.leaf = true) : v.oneCell' = true := by
  cases h with
  | c h => exact h.oneCell hx
  | eptr r n i off v hr h1 _ => exact h1
  | agg => simp [AV.leaf] at hx
  | tup => simp [AV.leaf] at hx
  | _ => rfl
theorem qoj {v : Value} (h : v.oneCell' = true) : v.cells = #[v] := by
  cases v <;> first | rfl | (simp [Value.oneCell'] at h)
theorem VRel.cells {g m w x v} (h : VRel g m w x v) (hx : ∀ y, y ∈ x.cells → y.leaf = true) :
    v.cells.size = x.cells.length ∧ ∀ (k : Nat) (y : AV) (u : Value), x.cells[k]? = some y → v.cells[k]? = some u → VRel g m w y u := by
  by_cases hagg : ∃ cs, x = .agg cs
  · obtain ⟨cs, rfl⟩ := hagg
    cases h with
    | c h => cases h with
      | agg _ vs hl hs hh => exact ⟨hs, fun k y u hy hu => .c (hh k y u hy hu)⟩
    | agg _ vs hl hs hh => exact ⟨hs, hh⟩
  · have e : x.cells = [x] := by cases x <;> first | rfl | (exact absurd ⟨_, rfl⟩ hagg)
    rw [e] at hx ⊢
    have hl := hx x (by simp)
    rw [qoj (h.oneCell hl)]
    refine ⟨rfl, fun k y u hy hu => ?_⟩
    cases k with
    | zero => simp at hy hu; subst hy; subst hu; exact h
    | succ k => simp at hy
theorem qil {g m w x v} (h : VRel g m w x v) {y : AV} (hs : qu m x = some y) (hn : qv x = []) : CRel g.I w x v ∧ y = x := by
  cases h with
  | c hc =>
    refine ⟨hc, ?_⟩
    cases hc <;> simp_all [qu]
  | own => simp [qv] at hn
  | func f cs vs hp hs' h =>
    simp only [qu] at hs
    split at hs
    · rename_i he
      simp at hs
      refine ⟨.func f cs vs (fun x hx => ?_) hs' (fun k x v hx hv => ?_), hs.symm⟩
      · have := List.all_eq_true.1 he x hx
        cases x <;> first | rfl | (cases this)
      · have hc := List.all_eq_true.1 he x (List.mem_of_getElem? hx)
        have hv' := h k x v hx hv
        cases x <;> first | (cases hc; done) | skip
        cases hv' with
        | c h => exact h
    · simp at hs
  | _ => simp [qu] at hs
theorem qr {w : World} {b : Nat} {arr : Array Value} (h : Blk w b arr) (k : Nat) : w.cell? ⟨b, k, none⟩ = arr[k]? := by
  obtain ⟨T, h⟩ := h
  simp [World.cell?, h]
theorem qf9 {w : World} {b : Nat} {arr : Array Value} (h : Blk w b arr) : b < w.heap.size := by
  obtain ⟨T, h⟩ := h
  exact (Array.getElem?_eq_some_iff.1 h).1
theorem qmd {w w' : World} {b : Nat} {arr : Array Value} (h : Blk w b arr) (e : w'.heap[b]? = w.heap[b]?) : Blk w' b arr := by
  obtain ⟨T, h⟩ := h
  exact ⟨T, e.trans h⟩
theorem qbj {w w' : World} {b : Nat} (e : w'.heap[b]? = w.heap[b]?) (k : Nat) : w'.cell? ⟨b, k, none⟩ = w.cell? ⟨b, k, none⟩ := by
  simp [World.cell?, e]
theorem qmc.keep {g m w g' m' w' r ob} (h : qmc g m w r ob) (hv : VExt g m w g' m' w') (hb : ∀ b, ob.blk g r = some b → w'.heap[b]? = w.heap[b]?)
    (hjb : g'.jb r = g.jb r) (hja : g'.ja r = g.ja r) (hI : ∀ b, ob.blk g r = some b → ∀ k, g'.I b k ↔ g.I b k) : qmc g' m' w' r ob := by
  cases ob with
  | box wf cs =>
    obtain ⟨arr, h1, h2, h3, h4, h5⟩ := h
    refine ⟨arr, by rw [hjb]; exact qmd h1 (hb _ rfl), h2, h3, fun k x v hx hvv => (h4 k x v hx hvv).mono hv, fun k => ?_⟩
    rw [hjb, hI _ rfl]; exact h5 k
  | arr wf e xs =>
    rcases h with ⟨h1, h2⟩ | ⟨h0, arr, h1, h2, h3, h4, h5, h6, h7⟩
    · exact .inl ⟨by rw [hja]; exact h1, h2⟩
    · have hbk : Ob.blk g r (.arr wf e xs) = some (g.ja r).b := by simp [Ob.blk, h0]
      refine .inr ⟨by rw [hja]; exact h0, arr, by rw [hja]; exact qmd h1 (hb _ hbk), by rw [hja]; exact h2, by rw [hja]; exact h3, h4, h5, fun i x k y v hx hy hv' => (h6 i x k y v hx hy hv').mono hv.im, fun k => ?_⟩
      rw [hja, hI _ hbk]; exact h7 k
  | map es =>
    obtain ⟨arr, clock, h1, h2, h3⟩ := h
    exact ⟨arr, clock, by rw [hjb, hb _ rfl]; exact h1, h2, fun i p e hp he => ⟨(h3 i p e hp he).1.mono hv.im, (h3 i p e hp he).2.1, (h3 i p e hp he).2.2.mono hv.im⟩⟩
end Go.Pev
/- What one object's change does to all that is told of a world. -/
namespace Go.Pev
open Go
set_option linter.unusedVariables false
set_option linter.unusedSimpArgs false
theorem qfb {g m w} (h : OK g m w) {r ob b} (hs : m.s r = some ob) (hb : ob.blk g r = some b) : b < w.heap.size := by
  have ho := h.ob r ob hs
  cases ob with
  | box wf cs => obtain ⟨arr, h1, _⟩ := ho; simp [Ob.blk] at hb; subst hb; exact qf9 h1
  | arr wf e xs =>
    rcases ho with ⟨h1, _⟩ | ⟨h0, arr, h1, _⟩
    · simp [Ob.blk, h1] at hb
    · simp [Ob.blk, h0] at hb; subst hb; exact qf9 h1
  | map es =>
    obtain ⟨arr, clock, h1, _⟩ := ho
    simp [Ob.blk] at hb; subst hb
    exact (Array.getElem?_eq_some_iff.1 h1).1
theorem OK.one {g : Gh} {m : Mem} {w : World} {g1 : Gh} {w1 : World} {m1 : Mem} (r : Nat) (ob1 : Ob) (h : OK g m w)
    (hm : m1.s = fun i => if i = r then some ob1 else m.s i) (hn : m.n ≤ m1.n) (hrn : r < m1.n)
    (hj : ∀ i, i ≠ r → g1.jb i = g.jb i ∧ g1.ja i = g.ja i) (hjr : r < m.n → g1.jb r = g.jb r)
    (har : r < m.n → ∀ wf' e' xs', ob1 = .arr wf' e' xs' → ∃ wf e xs, m.s r = some (.arr wf e xs) ∧ e' = e ∧ xs.length ≤ xs'.length ∧ (xs'.length = xs.length → g1.ja r = g.ja r))
    (hold : ∀ b, b < w.heap.size → (∀ ob, m.s r = some ob → ob.blk g r ≠ some b) → w1.heap[b]? = w.heap[b]?)
    (hsz : w.heap.size ≤ w1.heap.size) (hos : w1.os = w.os) (htape : w1.tape = w.tape) (hout : w1.output = w.output)
    (hI : ∀ b k, g.I b k → g1.I b k) (hI1 : ∀ b k, g1.I b k → g.I b k ∨ w.heap.size ≤ b ∨ ∃ ob, m.s r = some ob ∧ ob.blk g r = some b)
    (him : ∀ b k, g.I b k → w1.cell? ⟨b, k, none⟩ = w.cell? ⟨b, k, none⟩) (him1 : ∀ b k, g1.I b k → ∃ v, w1.cell? ⟨b, k, none⟩ = some v)
    (hob : VExt g m w g1 m1 w1 → qmc g1 m1 w1 r ob1)
    (hbk : ∀ b, ob1.blk g1 r = some b → w.heap.size ≤ b ∨ ∃ ob, m.s r = some ob ∧ ob.blk g r = some b) :
    OK g1 m1 w1 ∧ Ext g m w g1 m1 w1 := by
  have hv : VExt g m w g1 m1 w1 := by
    refine ⟨fun b k hk => ⟨hI b k hk, him b k hk⟩, fun i hi => ?_, fun i hi wf' e' xs' hs => ?_, hn⟩
    · by_cases e : i = r
      · subst e; exact hjr hi
      · exact (hj i e).1
    · rw [hm] at hs
      by_cases e : i = r
      · subst e
        simp only [if_true, Option.some.injEq] at hs
        exact har hi wf' e' xs' hs
      · simp only [if_neg e] at hs
        exact ⟨wf', e', xs', hs, rfl, Nat.le_refl _, fun _ => (hj i e).2⟩
  have hblk : ∀ (i : Nat) (ob : Ob), i ≠ r → ob.blk g1 i = ob.blk g i := by
    intro i ob e
    cases ob <;> simp [Ob.blk, (hj i e).1, (hj i e).2]
  have hother : ∀ (i : Nat) (ob : Ob) (b : Nat), i ≠ r → m.s i = some ob → ob.blk g i = some b → ∀ ob' : Ob, m.s r = some ob' → ob'.blk g r ≠ some b := by
    intro i ob b e hs hb ob' hs' hb'
    exact e (h.ne i r ob ob' b hs hs' hb hb')
  have honew : ∀ (i : Nat) (ob : Ob) (b : Nat), m1.s i = some ob → ob.blk g1 i = some b → w.heap.size ≤ b ∨ ∃ r0 ob0, m.s r0 = some ob0 ∧ ob0.blk g r0 = some b := fun i ob b hs hb => by
    rw [hm] at hs
    by_cases e : i = r
    · subst e
      simp only [if_true, Option.some.injEq] at hs
      subst hs
      rcases hbk b hb with h1 | ⟨ob0, h1, h2⟩
      · exact .inl h1
      · exact .inr ⟨i, ob0, h1, h2⟩
    · simp only [if_neg e] at hs
      rw [hblk i ob e] at hb
      exact .inr ⟨i, ob, hs, hb⟩
  refine ⟨⟨fun i ob hs => ?_, fun i ob hs => ?_, fun i i' ob ob' b hs hs' hb hb' => ?_, him1, h.tb.go (fun b k hk => (hv.im b k hk).1) (fun b hb hno => hold b hb (fun ob hs => hno r ob hs)) honew⟩, ⟨hv.im, hv.jb, hv.ja, hn, fun b hb hno => ?_, fun b k hk => ?_, honew, hsz, hos, htape, hout⟩⟩
  · rw [hm] at hs
    by_cases e : i = r
    · omega
    · simp only [if_neg e] at hs
      exact Nat.lt_of_lt_of_le (h.lt i ob hs) hn
  · rw [hm] at hs
    by_cases e : i = r
    · subst e
      simp only [if_true, Option.some.injEq] at hs
      subst hs
      exact hob hv
    · simp only [if_neg e] at hs
      refine (h.ob i ob hs).keep hv (fun b hb => hold b (qfb h hs hb) (hother i ob b e hs hb)) (hj i e).1 (hj i e).2 (fun b hb k => ⟨fun hk => ?_, hI b k⟩)
      rcases hI1 b k hk with h1 | h1 | ⟨ob', h1, h2⟩
      · exact h1
      · have := qfb h hs hb; omega
      · exact absurd h2 (hother i ob b e hs hb ob' h1)
  · rw [hm] at hs hs'
    by_cases e : i = r <;> by_cases e' : i' = r
    · omega
    · subst e
      simp only [if_true, Option.some.injEq] at hs
      simp only [if_neg e'] at hs'
      subst hs
      rw [hblk i' ob' e'] at hb'
      rcases hbk b hb with h1 | ⟨ob0, h1, h2⟩
      · have := qfb h hs' hb'; omega
      · exact h.ne i i' ob0 ob' b h1 hs' h2 hb'
    · subst e'
      simp only [if_true, Option.some.injEq] at hs'
      simp only [if_neg e] at hs
      subst hs'
      rw [hblk i ob e] at hb
      rcases hbk b hb' with h1 | ⟨ob0, h1, h2⟩
      · have := qfb h hs hb; omega
      · exact h.ne i i' ob ob0 b hs h1 hb h2
    · simp only [if_neg e] at hs
      simp only [if_neg e'] at hs'
      rw [hblk i ob e] at hb
      rw [hblk i' ob' e'] at hb'
      exact h.ne i i' ob ob' b hs hs' hb hb'
  · exact hold b hb (fun ob hs => hno r ob hs)
  · rcases hI1 b k hk with h1 | h1 | ⟨ob, h1, h2⟩
    · exact .inl h1
    · exact .inr (.inl h1)
    · exact .inr (.inr ⟨r, ob, h1, h2⟩)
theorem qe3 (w : World) (o : Obj) {b : Nat} (h : b < w.heap.size) : (w.alloc o).heap[b]? = w.heap[b]? := RowKit.Below.heap_alloc w o b h
theorem qpq (w : World) (arr : Array Value) (T : TypeId) : Blk (w.alloc (.cells arr T)) w.heap.size arr := ⟨T, by show (w.heap.push _)[w.heap.size]? = _; simp⟩
theorem qfz {w : World} {b k : Nat} {v : Value} (o : Obj) (h : w.cell? ⟨b, k, none⟩ = some v) : (w.alloc o).cell? ⟨b, k, none⟩ = w.cell? ⟨b, k, none⟩ :=
  qbj (qe3 w o (World.block_lt_of_cell? w ⟨b, k, none⟩ h)) k
theorem OK.lt_of_I {g m w} (h : OK g m w) {b k : Nat} (hi : g.I b k) : b < w.heap.size := by
  obtain ⟨v, hv⟩ := h.im b k hi
  exact World.block_lt_of_cell? w ⟨b, k, none⟩ hv
def Gh.addb (g : Gh) (r b : Nat) : Gh := { g with jb := fun i => if i = r then b else g.jb i }
def Gh.adda (g : Gh) (r : Nat) (k : Bk) : Gh := { g with ja := fun i => if i = r then k else g.ja i }
theorem OK.newBox {g m w} (h : OK g m w) (cs : List AV) (arr : Array Value) (T : TypeId) (hs : arr.size = cs.length) (hl : ∀ x, x ∈ cs → x.leaf = true)
    (hv : ∀ (k : Nat) (x : AV) (v : Value), cs[k]? = some x → arr[k]? = some v → VRel g m w x v) :
    OK (g.addb m.n w.heap.size) (m.new (.box true cs)) (w.alloc (.cells arr T)) ∧ Ext g m w (g.addb m.n w.heap.size) (m.new (.box true cs)) (w.alloc (.cells arr T)) := by
  have hnoI : ∀ k, ¬ g.I w.heap.size k := fun k hk => by have := h.lt_of_I hk; omega
  have hnone : ∀ ob, m.s m.n = some ob → False := fun ob hs => by have := h.lt _ _ hs; omega
  refine OK.one m.n (.box true cs) h rfl (by simp [Mem.new]) (by simp [Mem.new]) (fun i hi => by simp [Gh.addb, hi]) (fun hr => by omega) (fun hr => by omega)
    (fun b hb _ => qe3 w _ hb) (by simp) rfl rfl rfl (fun b k hk => hk) (fun b k hk => .inl hk) (fun b k hk => ?_) (fun b k hk => ?_) (fun hx => ?_) (fun b hb => ?_)
  · obtain ⟨v, hv⟩ := h.im b k hk
    exact qfz _ hv
  · obtain ⟨v, hv⟩ := h.im b k hk
    exact ⟨v, (qfz _ hv).trans hv⟩
  · refine ⟨arr, by simpa [Gh.addb] using qpq w arr T, hs, hl, fun k x v hxx hvv => (hv k x v hxx hvv).mono hx, fun k => ?_⟩
    simp only [Gh.addb, if_true]
    exact ⟨fun hk => absurd hk (hnoI k), fun hk => by simp at hk⟩
  · simp [Ob.blk, Gh.addb] at hb
    exact .inl (by omega)
theorem OK.newArr {g m w} (h : OK g m w) (e c : Nat) (xs : List AV) (arr : Array Value) (T : TypeId) (hc : xs.length ≤ c) (hs : c * e ≤ arr.size)
    (he : ∀ (i : Nat) (x : AV), xs[i]? = some x → x.cells.length = e) (hl : ∀ (i : Nat) (x : AV) (k : Nat) (y : AV), xs[i]? = some x → x.cells[k]? = some y → y.leaf = true)
    (hv : ∀ (i : Nat) (x : AV) (k : Nat) (y : AV) (v : Value), xs[i]? = some x → x.cells[k]? = some y → arr[i * e + k]? = some v → CRel g.I w y v) :
    OK (g.adda m.n ⟨w.heap.size, c, false⟩) (m.new (.arr true e xs)) (w.alloc (.cells arr T)) ∧ Ext g m w (g.adda m.n ⟨w.heap.size, c, false⟩) (m.new (.arr true e xs)) (w.alloc (.cells arr T)) := by
  have hnoI : ∀ k, ¬ g.I w.heap.size k := fun k hk => by have := h.lt_of_I hk; omega
  refine OK.one m.n (.arr true e xs) h rfl (by simp [Mem.new]) (by simp [Mem.new]) (fun i hi => by simp [Gh.adda, hi]) (fun hr => by omega) (fun hr => by omega)
    (fun b hb _ => qe3 w _ hb) (by simp) rfl rfl rfl (fun b k hk => hk) (fun b k hk => .inl hk) (fun b k hk => ?_) (fun b k hk => ?_) (fun hx => ?_) (fun b hb => ?_)
  · obtain ⟨v, hv⟩ := h.im b k hk
    exact qfz _ hv
  · obtain ⟨v, hv⟩ := h.im b k hk
    exact ⟨v, (qfz _ hv).trans hv⟩
  · refine .inr ⟨by simp [Gh.adda], arr, by simpa [Gh.adda] using qpq w arr T, by simpa [Gh.adda] using hc, by simpa [Gh.adda] using hs, he, hl, fun i x k y v hxx hy hvv => (hv i x k y v hxx hy hvv).mono hx.im, fun k => ?_⟩
    simp only [Gh.adda, if_true]
    exact ⟨fun hk => absurd hk (hnoI k), fun hk => by simp at hk⟩
  · simp [Ob.blk, Gh.adda] at hb
    exact .inl (by omega)
theorem OK.newNil {g m w} (h : OK g m w) (e : Nat) :
    OK (g.adda m.n ⟨0, 0, true⟩) (m.new (.arr true e [])) w ∧ Ext g m w (g.adda m.n ⟨0, 0, true⟩) (m.new (.arr true e [])) w := by
  refine OK.one m.n (.arr true e []) h rfl (by simp [Mem.new]) (by simp [Mem.new]) (fun i hi => by simp [Gh.adda, hi]) (fun hr => by omega) (fun hr => by omega)
    (fun b hb _ => rfl) (Nat.le_refl _) rfl rfl rfl (fun b k hk => hk) (fun b k hk => .inl hk) (fun b k hk => rfl) (fun b k hk => h.im b k hk) (fun hx => ?_) (fun b hb => ?_)
  · exact .inl ⟨by simp [Gh.adda], rfl⟩
  · simp [Ob.blk, Gh.adda] at hb
def qbdk (g : Gh) (m : Mem) (l : List Nat) (b k : Nat) : Prop :=
  ∃ r, r ∈ l ∧ ∃ wf e xs, m.s r = some (.arr wf e xs) ∧ (g.ja r).nil = false ∧ (g.ja r).b = b ∧ k < xs.length * e
def Gh.shut (g : Gh) (m : Mem) (l : List Nat) : Gh := { g with I := fun b k => g.I b k ∨ qbdk g m l b k }
theorem qj3 {m : Mem} {l : List Nat} {r : Nat} {ob : Ob} (h : (m.frz l).s r = some ob) : ∃ ob0, m.s r = some ob0 ∧ ob = if r ∈ l then ob0.frz else ob0 := by
  simp only [Mem.frz] at h
  by_cases e : r ∈ l
  · simp only [if_pos e] at h ⊢
    obtain ⟨ob0, h1, h2⟩ := Option.map_eq_some_iff.1 h
    exact ⟨ob0, h1, h2.symm⟩
  · simp only [if_neg e] at h ⊢
    exact ⟨ob, h, rfl⟩
theorem q0x (g : Gh) (r : Nat) (ob : Ob) : ob.frz.blk g r = ob.blk g r := by cases ob <;> rfl
theorem q5t {g m w} (h : OK g m w) {r wf e xs} (hs : m.s r = some (.arr wf e xs)) (hn : (g.ja r).nil = false) {k : Nat} (hk : k < xs.length * e) : ∃ v, w.cell? ⟨(g.ja r).b, k, none⟩ = some v := by
  rcases h.ob r _ hs with ⟨h1, _⟩ | ⟨_, arr, h1, h2, h3, _⟩
  · rw [h1] at hn; cases hn
  · have hlt : k < arr.size := by
      have := Nat.mul_le_mul_right e h2
      omega
    exact ⟨arr[k], by rw [qr h1, Array.getElem?_eq_getElem hlt]⟩
theorem OK.frz {g m w} (h : OK g m w) (l : List Nat) : OK (g.shut m l) (m.frz l) w ∧ VExt g m w (g.shut m l) (m.frz l) w := by
  have hv : VExt g m w (g.shut m l) (m.frz l) w := by
    refine ⟨fun b k hk => ⟨.inl hk, rfl⟩, fun r hr => rfl, fun r hr wf' e' xs' hs => ?_, Nat.le_refl _⟩
    obtain ⟨ob0, h1, h2⟩ := qj3 hs
    split at h2
    · cases ob0 <;> simp [Ob.frz] at h2
      obtain ⟨rfl, rfl, rfl⟩ := h2
      exact ⟨_, _, _, h1, rfl, Nat.le_refl _, fun _ => rfl⟩
    · subst h2
      exact ⟨_, _, _, h1, rfl, Nat.le_refl _, fun _ => rfl⟩
  have him : ∀ b k, (g.shut m l).I b k → ∃ v, w.cell? ⟨b, k, none⟩ = some v := by
    rintro b k (hk | ⟨r, hr, wf, e, xs, hs, hn, rfl, hk⟩)
    · exact h.im b k hk
    · exact q5t h hs hn hk
  have honew : ∀ (r : Nat) (ob : Ob) (b : Nat), (m.frz l).s r = some ob → ob.blk (g.shut m l) r = some b → w.heap.size ≤ b ∨ ∃ r0 ob0, m.s r0 = some ob0 ∧ ob0.blk g r0 = some b := fun r ob b hs hb => by
    obtain ⟨ob0, h1, h2⟩ := qj3 hs
    refine .inr ⟨r, ob0, h1, ?_⟩
    rw [← hb, h2]; split <;> cases ob0 <;> rfl
  refine ⟨⟨fun r ob hs => ?_, fun r ob hs => ?_, fun r r' ob ob' b hs hs' hb hb' => ?_, him, h.tb.go (fun b k hk => (hv.im b k hk).1) (fun _ _ _ => rfl) honew⟩, hv⟩
  · obtain ⟨ob0, h1, _⟩ := qj3 hs
    exact h.lt r ob0 h1
  · obtain ⟨ob0, h1, h2⟩ := qj3 hs
    have ho := h.ob r ob0 h1
    cases ob0 with
    | box wf cs =>
      have : ob = .box wf cs := by split at h2 <;> exact h2
      subst this
      refine ho.keep hv (fun _ _ => rfl) rfl rfl (fun b hb k => ⟨fun hk => ?_, .inl⟩)
      rcases hk with hk | ⟨r', hr', wf', e', xs', hs', hn', hb', hk'⟩
      · exact hk
      · have := h.ne r r' _ _ b h1 hs' hb (by simp [Ob.blk, hn', hb'])
        subst this
        rw [h1] at hs'
        cases hs'
    | map es =>
      have : ob = .map es := by split at h2 <;> exact h2
      subst this
      obtain ⟨arr, clock, b1, b2, b3⟩ := ho
      exact ⟨arr, clock, b1, b2, fun i p e hp he => ⟨(b3 i p e hp he).1.mono hv.im, (b3 i p e hp he).2.1, (b3 i p e hp he).2.2.mono hv.im⟩⟩
    | arr wf e xs =>
      have hob : ob = .arr (if r ∈ l then false else wf) e xs := by
        split at h2 <;> rename_i hm <;> simp [hm, h2, Ob.frz]
      subst hob
      rcases ho with ⟨h3, h4⟩ | ⟨h0, arr, h3, h4, h5, h6, h7, h8, h9⟩
      · exact .inl ⟨h3, h4⟩
      · refine .inr ⟨h0, arr, h3, h4, h5, h6, h7, fun i x k y v hx hy hvv => (h8 i x k y v hx hy hvv).mono hv.im, fun k => ⟨fun hk => ?_, fun hk => ?_⟩⟩
        · rcases hk with hk | ⟨r', hr', wf', e', xs', hs', hn', hb', hk'⟩
          · have := (h9 k).1 hk
            refine ⟨?_, this.2⟩
            split
            · rfl
            · exact this.1
          · have hrr := h.ne r r' _ _ (g.ja r).b h1 hs' (by simp [Ob.blk, h0]) (by simp only [Ob.blk, hn', hb']; rfl)
            subst hrr
            rw [h1] at hs'
            cases hs'
            exact ⟨by simp [hr'], hk'⟩
        · obtain ⟨hk1, hk2⟩ := hk
          by_cases hm : r ∈ l
          · exact .inr ⟨r, hm, wf, e, xs, h1, h0, rfl, hk2⟩
          · simp only [if_neg hm] at hk1
            exact .inl ((h9 k).2 ⟨hk1, hk2⟩)
  · obtain ⟨ob0, h1, h2⟩ := qj3 hs
    obtain ⟨ob0', h1', h2'⟩ := qj3 hs'
    refine h.ne r r' ob0 ob0' b h1 h1' ?_ ?_
    · rw [← hb, h2]; split <;> simp [q0x, Ob.blk, Gh.shut] <;> cases ob0 <;> rfl
    · rw [← hb', h2']; split <;> simp [q0x, Ob.blk, Gh.shut] <;> cases ob0' <;> rfl
theorem Ext.frz {g m w} (h : OK g m w) (l : List Nat) : Ext g m w (g.shut m l) (m.frz l) w := by
  have hv := (h.frz l).2
  refine ⟨hv.im, hv.jb, hv.ja, hv.n, fun b hb _ => rfl, fun b k hk => ?_, fun r ob b hs hb => ?_, Nat.le_refl _, rfl, rfl, rfl⟩
  · rcases hk with hk | ⟨r, hr, wf, e, xs, hs, hn, hb, hk⟩
    · exact .inl hk
    · exact .inr (.inr ⟨r, _, hs, by simp [Ob.blk, hn, hb]⟩)
  · obtain ⟨ob0, h1, h2⟩ := qj3 hs
    refine .inr ⟨r, ob0, h1, ?_⟩
    rw [← hb, h2]; split <;> simp [q0x, Ob.blk, Gh.shut] <;> cases ob0 <;> rfl
end Go.Pev
/- Operations that read and compute alone: what they come to in the model. -/
namespace Go.Pev
open Go
set_option linter.unusedVariables false
set_option linter.unusedSimpArgs false
def Old (w w' : World) : Prop := ∀ b, b < w.heap.size → w'.heap[b]? = w.heap[b]?
theorem Old.refl (w : World) : Old w w := fun _ _ => rfl
theorem Old.cell {w w' : World} (h : Old w w') {b k : Nat} {v : Value} (hc : w.cell? ⟨b, k, none⟩ = some v) : w'.cell? ⟨b, k, none⟩ = some v := by
  rw [qbj (h b (World.block_lt_of_cell? w ⟨b, k, none⟩ hc)) k]; exact hc
def ERel (g : Gh) (m : Mem) (w : World) (t : Env) (a : Act) : Prop := ∀ i, VRel g m w (t i) (a.tmps.getD i undef)
theorem qsl {I : Nat → Nat → Prop} {w : World} {v : Value} {x : AV} (h : cLit v = some x) : CRel I w x v ∧ x.leaf = true := by
  unfold cLit at h
  split at h <;> simp at h <;> subst h <;> first | exact ⟨.bool _, rfl⟩ | exact ⟨.int _ _, rfl⟩ | exact ⟨.str _, rfl⟩ | exact ⟨.nilp, rfl⟩ | exact ⟨.nils, rfl⟩ | exact ⟨.nilf, rfl⟩
theorem qbx {α β : Type} (f : α → Option β) : ∀ (l : List α) (r : List β), l.mapM f = some r → r.length = l.length ∧ ∀ (k : Nat) (a : α) (b : β), l[k]? = some a → r[k]? = some b → f a = some b
  | [], r, h => by simp at h; subst h; simp
  | a :: l, r, h => by
    simp only [List.mapM_cons, Option.bind_eq_bind, Option.pure_def] at h
    cases hf : f a with
    | none => simp [hf] at h
    | some b =>
      cases hr : l.mapM f with
      | none => simp [hf, hr] at h
      | some rest =>
        simp [hf, hr] at h
        subst h
        obtain ⟨h1, h2⟩ := qbx f l rest hr
        refine ⟨by simp [h1], fun k x y hx hy => ?_⟩
        cases k with
        | zero => simp at hx hy; subst hx; subst hy; exact hf
        | succ k => simp at hx hy; exact h2 k x y hx hy
theorem qkd {I : Nat → Nat → Prop} {w : World} {vs : Array Value} {cs : List AV} (h : vs.toList.mapM cLit = some cs) : vs.size = cs.length ∧ (∀ x, x ∈ cs → x.leaf = true) ∧ ∀ (k : Nat) (x : AV) (v : Value), cs[k]? = some x → vs[k]? = some v → CRel I w x v := by
  obtain ⟨h1, h2⟩ := qbx cLit _ _ h
  have hs : vs.size = cs.length := by rw [h1]; simp
  refine ⟨hs, fun x hx => ?_, fun k x v hx hv => (qsl (h2 k v x (by simpa using hv) hx)).1⟩
  obtain ⟨k, hk, rfl⟩ := List.getElem_of_mem hx
  have hk' : k < vs.size := by omega
  exact (qsl (I := fun _ _ => False) (w := w) (h2 k vs[k] cs[k] (by simp [hk']) (by simp [hk]))).2
theorem qbaa {I : Nat → Nat → Prop} {w : World} {v : Value} {x : AV} (h : cVal v = some x) : CRel I w x v := by
  unfold cVal at h
  split at h
  · rename_i cs
    obtain ⟨l, h1, rfl⟩ := Option.map_eq_some_iff.1 h
    obtain ⟨h2, h3, h4⟩ := qkd (I := I) (w := w) h1
    exact .agg l cs h3 h2 h4
  · rename_i vs
    split at h
    · rename_i he
      simp at h
      subst h
      have : vs = #[] := by simpa using he
      subst this
      exact .undef
    · cases h
  · exact (qsl h).1
section
variable {g : Gh} {m : Mem} {w : World} {t : Env} {a : Act}
theorem qe (hr : ERel g m w t a) {x : Operand} {y : Opd} (h : cOpd x = some y) : VRel g m w (ev t y) (a.eval x) := by
  cases x with
  | tmp i => simp [cOpd] at h; subst h; exact hr i
  | const v => simp only [cOpd] at h; obtain ⟨z, h1, rfl⟩ := Option.map_eq_some_iff.1 h; exact .c (qbaa h1)
  | func f => simp [cOpd] at h; subst h; exact .c (.func f [] #[] (by simp) rfl (by simp))
  | global n => simp [cOpd] at h
theorem VRel.bool_inv {b v} (h : VRel g m w (.bool b) v) : v = .bool b := by cases h; rename_i h; cases h; rfl
theorem VRel.int_inv {k n v} (h : VRel g m w (.int k n) v) : v = .int k n := by cases h; rename_i h; cases h; rfl
theorem VRel.str_inv {s v} (h : VRel g m w (.str s) v) : ∃ b : ByteArray, v = .string b ∧ b.data.toList = s := by cases h; rename_i h; cases h; exact ⟨_, rfl, rfl⟩
theorem VRel.undef_inv {v} (h : VRel g m w .undef v) : v = Go.undef := by cases h; rename_i h; cases h; rfl
def qke (g : Gh) (m : Mem) (w : World) (b o : Nat) (cs : List AV) : Prop :=
  ∀ (k : Nat) (y : AV), cs[k]? = some y → y.leaf = true ∧ ∃ v, w.cell? ⟨b, o + k, none⟩ = some v ∧ VRel g m w y v
theorem qke.drop {b o : Nat} {cs : List AV} (h : qke g m w b o cs) (n : Nat) : qke g m w b (o + n) (cs.drop n) := by
  intro k y hy
  rw [List.getElem?_drop] at hy
  obtain ⟨h1, v, h2, h3⟩ := h (n + k) y hy
  exact ⟨h1, v, by rw [show o + n + k = o + (n + k) by omega]; exact h2, h3⟩
def qu2 (m : Mem) : AV → Option (List AV)
  | .ptr r off => match m.s r with
    | some (.box _ cs) => some (cs.drop off)
    | _ => none
  | .cptr cs => some cs
  | .eptr r n i off => match m.s r with
    | some (.arr _ _ xs) => if xs.length = n then (xs[i]?).map fun x => x.cells.drop off else none
    | _ => none
  | _ => none
theorem q0y {agg sz p v} (h : rd m agg sz p = some v) : ∃ cs, qu2 m p = some cs ∧ qiy cs agg sz = some v := by
  unfold rd at h
  split at h
  · split at h
    · rename_i hs; exact ⟨_, by simp [qu2, hs], h⟩
    · cases h
  · exact ⟨_, rfl, h⟩
  · split at h
    · rename_i hs
      split at h
      · rename_i hn
        split at h
        · rename_i x hx; exact ⟨_, by simp [qu2, hs, hn, hx], h⟩
        · cases h
      · cases h
    · cases h
  · cases h
theorem qu3 (hok : OK1 g m w) {p : AV} {pv : Value} (hp : VRel g m w p pv) {cs : List AV} (h : qu2 m p = some cs) : ∃ b o, pv = .pointer (some ⟨b, o, none⟩) ∧ qke g m w b o cs := by
  unfold qu2 at h
  split at h
  · rename_i r off
    split at h
    · rename_i wf cs0 hs
      simp at h
      subst h
      cases hp with
      | c h => cases h
      | ptr _ _ hr =>
        obtain ⟨arr, h1, h2, h3, h4, h5⟩ := hok.ob r _ hs
        refine ⟨_, _, rfl, ?_⟩
        have hbase : qke g m w (g.jb r) 0 cs0 := by
          intro k y hy
          have hk : k < arr.size := by rw [h2]; exact (List.getElem?_eq_some_iff.1 hy).1
          refine ⟨h3 y (List.mem_of_getElem? hy), arr[k], by rw [qr h1]; simp [hk], h4 k y _ hy (by simp [hk])⟩
        simpa using hbase.drop off
    · cases h
  · simp at h
    subst h
    cases hp with
    | c h => cases h with
      | cptr _ b o gf hl hc hh =>
        exact ⟨b, o, rfl, fun k y hy => ⟨hl y (List.mem_of_getElem? hy), _, (hc k y hy).2, .c (hh k y hy)⟩⟩
  · rename_i r n i off
    split at h
    · rename_i wf e xs hs
      split at h
      · rename_i hn
        obtain ⟨x, hx, rfl⟩ := Option.map_eq_some_iff.1 h
        cases hp with
        | c h => cases h
        | eptr _ _ _ _ _ hr h1 hh =>
          obtain ⟨_, h2⟩ := hh wf e xs hs
          obtain ⟨rfl, hnil⟩ := h2 hn
          rcases hok.ob r _ hs with ⟨h3, _⟩ | ⟨_, arr, h3, h4, h5, h6, h7, h8, h9⟩
          · rw [h3] at hnil; cases hnil
          · refine ⟨_, _, rfl, ?_⟩
            have hi : i < xs.length := (List.getElem?_eq_some_iff.1 hx).1
            have hbase : qke g m w (g.ja r).b (i * e) x.cells := by
              intro k y hy
              have hk : k < e := by rw [← h6 i x hx]; exact (List.getElem?_eq_some_iff.1 hy).1
              have hle : (i + 1) * e ≤ (g.ja r).c * e := Nat.mul_le_mul_right e (by omega)
              have hlt : i * e + k < arr.size := by rw [Nat.add_mul] at hle; omega
              exact ⟨h7 i x k y hx hy, arr[i * e + k], by rw [qr h3]; simp [hlt], .c (h8 i x k y _ hx hy (by simp [hlt]))⟩
            exact hbase.drop off
      · cases h
    · cases h
  · cases h
theorem qqg {P : Nat → Value → Prop} : ∀ (n : Nat), (∀ k, k < n → ∃ v, P k v) → ∃ vs : List Value, vs.length = n ∧ ∀ (k : Nat) (v : Value), vs[k]? = some v → P k v
  | 0, _ => ⟨[], rfl, by simp⟩
  | n + 1, h => by
    obtain ⟨vs, h1, h2⟩ := qqg n (fun k hk => h k (by omega))
    obtain ⟨v, hv⟩ := h n (by omega)
    refine ⟨vs ++ [v], by simp [h1], fun k u hu => ?_⟩
    by_cases hk : k < n
    · rw [List.getElem?_append_left (by omega)] at hu
      exact h2 k u hu
    · have hlt : k < (vs ++ [v]).length := (List.getElem?_eq_some_iff.1 hu).1
      have : k = n := by simp [h1] at hlt; omega
      subst this
      rw [List.getElem?_append_right (by omega)] at hu
      simp [h1] at hu
      subst hu
      exact hv
variable {P : Program} {T : Tab}
structure TIs (P : Program) (t : TypeId) (ti : TI) (i : TypeInfo) (d : TypeDesc) : Prop where
  info : P.info? t = some i
  und : P.underlying t = some d
  sz : ti.sz = i.size
  bytes : ti.bytes = i.bytes
  agg : ti.agg = qma d
  zero : ti.zero = q3z i.zero
  z1 : ti.z1 = (i.zero.map Value.oneCell').getD false
  held : ti.held = P.stoodInHeld t
  eqg : ti.eqg = P.eqGuardType P.depth t
  td : ti.td = TDof d
theorem Tab.ok.facts (hT : T.ok P) {t : TypeId} {ti : TI} (h : T t = some ti) : ∃ i d, TIs P t ti i d := by
  have h1 := hT t ti h
  unfold TIof at h1
  split at h1
  · rename_i i d hi hd
    simp at h1
    subst h1
    exact ⟨i, d, hi, hd, rfl, rfl, rfl, rfl, rfl, rfl, rfl, rfl⟩
  · cases h1
theorem TIs.sizeOf {t ti i d} (h : TIs P t ti i d) (w : World) : (Go.sizeOf t).run P w = .ok ti.sz w := by
  simp [Go.sizeOf, typeInfo, h.info, h.sz]
theorem TIs.isAgg {t ti i d} (h : TIs P t ti i d) (w : World) : (Go.isAgg t).run P w = .ok ti.agg w := by
  unfold Go.isAgg
  rw [Sem.run_bind, run_underlying h.und w, h.agg]
  cases d <;> simp [qma]
theorem TIs.typeInfo {t ti i d} (h : TIs P t ti i d) (w : World) : (Go.typeInfo t).run P w = .ok i w := by
  simp [Go.typeInfo, h.info]
theorem TIs.zeroValue {t ti i d} (h : TIs P t ti i d) {z : List AV} (hz : ti.zero = some z) : ∃ zv, i.zero = some zv ∧ zv.cells.toList.mapM cLit = some z ∧ ∀ w, (Go.zeroValue t).run P w = .ok zv w := by
  rw [h.zero] at hz
  unfold q3z at hz
  split at hz
  · rename_i zv hi
    exact ⟨zv, hi, hz, fun w => by simp [Go.zeroValue, Go.typeInfo, h.info, hi]⟩
  · cases hz
theorem q6j {b o : Nat} {cs : List AV} (hc : qke g m w b o cs) {ty : TypeId} {ti i d} (ht : TIs P ty ti i d) (h1 : ti.agg = false → ti.sz = 1) {v : AV} (h : qiy cs ti.agg ti.sz = some v) :
    ∃ cv, VRel g m w v cv ∧ ∀ w', (∀ k v, w.cell? ⟨b, k, none⟩ = some v → w'.cell? ⟨b, k, none⟩ = some v) → (loadVar ty ⟨b, o, none⟩).run P w' = .ok cv w' := by
  unfold qiy at h
  cases hagg : ti.agg with
  | true =>
    simp only [hagg, if_true] at h
    split at h
    · rename_i hle
      simp at h
      subst h
      obtain ⟨vs, hl, hv⟩ := qqg (P := fun k v => w.cell? ⟨b, o + k, none⟩ = some v ∧ ∀ y, cs[k]? = some y → VRel g m w y v) ti.sz (fun k hk => by
        have hk' : k < cs.length := by omega
        obtain ⟨_, v, h2, h3⟩ := hc k cs[k] (by simp [hk'])
        exact ⟨v, h2, fun y hy => by simp [hk'] at hy; subst hy; exact h3⟩)
      refine ⟨.agg vs.toArray, .agg _ _ (fun x hx => ?_) (by simp [hl]; omega) (fun k x v hx hvv => ?_), fun w' ho => ?_⟩
      · obtain ⟨k, hk, rfl⟩ := List.getElem_of_mem hx
        have hk' : k < cs.length := by simp at hk; omega
        rw [List.getElem_take]
        exact (hc k cs[k] (by simp [hk'])).1
      · have hks : k < ti.sz := by have := (List.getElem?_eq_some_iff.1 hx).1; simp at this; omega
        rw [List.getElem?_take_of_lt hks] at hx
        exact (hv k v (by simpa using hvv)).2 x hx
      · have hl2 := run_loadCells_list (P := P) w' ⟨b, o, none⟩ vs (fun j v hj => by
          have : (⟨b, o, none⟩ : Addr).add j = ⟨b, o + j, none⟩ := by unfold Addr.add; split <;> simp_all
          rw [this]; exact ho _ _ (hv j v hj).1)
        rw [hl] at hl2
        simp [loadVar, Sem.run_bind, ht.isAgg w', hagg, ht.sizeOf w', hl2]
    · cases h
  | false =>
    simp only [hagg, Bool.false_eq_true, if_false] at h
    rw [List.head?_eq_getElem?] at h
    obtain ⟨_, cv, h2, h3⟩ := hc 0 v h
    refine ⟨cv, h3, fun w' ho => ?_⟩
    have := ho _ _ h2
    simp only [Nat.add_zero] at this
    simp [loadVar, Sem.run_bind, ht.isAgg w', hagg, this]
theorem qzb {b o : Nat} {cs : List AV} (hc : qke g m w b o cs) {ty : TypeId} {ti i d} (ht : TIs P ty ti i d) (h1 : ti.agg = false → ti.sz = 1) {v : AV} (h : qiy cs ti.agg ti.sz = some v) :
    ∃ cv, VRel g m w v cv ∧ ∀ w', Old w w' → (loadVar ty ⟨b, o, none⟩).run P w' = .ok cv w' := by
  obtain ⟨cv, h2, h3⟩ := q6j hc ht h1 h
  exact ⟨cv, h2, fun w' ho => h3 w' fun k v hk => ho.cell hk⟩
def q0z (g : Gh) (w : World) (b o e : Nat) (xs : List AV) : Prop :=
  (∀ (i : Nat) (x : AV), xs[i]? = some x → x.cells.length = e) ∧ (∀ (i : Nat) (x : AV) (k : Nat) (y : AV), xs[i]? = some x → x.cells[k]? = some y → y.leaf = true) ∧
  ∀ (i : Nat) (x : AV) (k : Nat) (y : AV), xs[i]? = some x → x.cells[k]? = some y → ∃ v, w.cell? ⟨b, o + (i * e + k), none⟩ = some v ∧ CRel g.I w y v
theorem q78 (hok : OK1 g m w) {x : AV} {v : Value} (hx : VRel g m w x v) {xs : List AV} (h : els m x = some xs) :
    ∃ a c e b o, v = .slice a xs.length c ∧ xs.length ≤ c ∧ (xs = [] ∨ a = some ⟨b, o, none⟩) ∧ q0z g w b o e xs ∧ (esz m e x = true ∨ xs = []) := by
  unfold els at h
  split at h
  · simp at h; subst h
    cases hx with
    | c h => cases h; exact ⟨none, 0, 0, 0, 0, rfl, by simp, .inl rfl, ⟨by simp, by simp, by simp⟩, .inr rfl⟩
  · simp at h; subst h
    cases hx with
    | c h => cases h with
      | sl _ _ a c b o gf hcap ha he hl hc hh =>
        exact ⟨a, c, _, b, o, rfl, hcap, ha, ⟨he, hl, fun i x k y hx hy => ⟨_, (hc i x k y hx hy).2, hh i x k y hx hy⟩⟩, .inl (by simp [esz])⟩
  · rename_i r n
    split at h
    · rename_i wf e xs0 hs
      split at h
      · rename_i hn
        simp at h; subst h
        cases hx with
        | c h => cases h
        | own _ _ a c hr hh =>
          obtain ⟨_, h2⟩ := hh wf e xs0 hs
          have h3 := h2 hn
          rcases hok.ob r _ hs with ⟨h4, rfl⟩ | ⟨h0, arr, h4, h5, h6, h7, h8, h9, h10⟩
          · simp [Bk.val, h4] at h3
            obtain ⟨rfl, rfl, rfl⟩ := h3
            exact ⟨none, 0, e, 0, 0, rfl, by simp, .inl rfl, ⟨by simp, by simp, by simp⟩, .inr rfl⟩
          · simp [Bk.val, h0] at h3
            obtain ⟨rfl, rfl⟩ := h3
            subst hn
            refine ⟨_, _, e, (g.ja r).b, 0, rfl, h5, .inr rfl, ⟨h7, h8, fun i x k y hx hy => ?_⟩, .inl (by simp [esz, hs])⟩
            have hi : i < xs0.length := (List.getElem?_eq_some_iff.1 hx).1
            have hk : k < e := by rw [← h7 i x hx]; exact (List.getElem?_eq_some_iff.1 hy).1
            have hle : (i + 1) * e ≤ (g.ja r).c * e := Nat.mul_le_mul_right e (by omega)
            have hlt : i * e + k < arr.size := by rw [Nat.add_mul] at hle; omega
            exact ⟨arr[i * e + k], by rw [qr h4]; simp [hlt], h9 i x k y _ hx hy (by simp [hlt])⟩
      · cases h
    · cases h
  · cases h
end
end Go.Pev
/- Operations that read and compute alone, one by one. -/
namespace Go.Pev
open Go
set_option linter.unusedVariables false
set_option linter.unusedSimpArgs false
theorem qu4 (off : Nat) : ∀ (l : List Value) (n : Nat) (cells : Array Value), off + n + l.length ≤ cells.size →
    ((l.zipIdx n).foldl (fun cs (p : Value × Nat) => cs.setIfInBounds (off + p.2) p.1) cells).size = cells.size ∧
    ∀ k, ((l.zipIdx n).foldl (fun cs (p : Value × Nat) => cs.setIfInBounds (off + p.2) p.1) cells)[k]? = if off + n ≤ k ∧ k < off + n + l.length then l[k - (off + n)]? else cells[k]?
  | [], n, cells, h => by
    refine ⟨rfl, fun k => ?_⟩
    have : ¬ (off + n ≤ k ∧ k < off + n + ([] : List Value).length) := by intro hh; simp at hh; omega
    rw [if_neg this]
    rfl
  | v :: l, n, cells, h => by
    simp only [List.length_cons] at h
    obtain ⟨h1, h2⟩ := qu4 off l (n + 1) (cells.setIfInBounds (off + n) v) (by rw [Array.size_setIfInBounds]; omega)
    simp only [List.zipIdx_cons, List.foldl_cons]
    refine ⟨by rw [h1]; simp, fun k => ?_⟩
    rw [h2 k]
    by_cases hk : k = off + n
    · subst hk
      have hlt : off + n < cells.size := by omega
      rw [if_neg (by omega), if_pos (by simp)]
      simp [hlt]
    · by_cases hk2 : off + (n + 1) ≤ k ∧ k < off + (n + 1) + l.length
      · rw [if_pos hk2, if_pos (by simp; omega)]
        have : k - (off + n) = (k - (off + (n + 1))) + 1 := by omega
        rw [this, List.getElem?_cons_succ]
      · rw [if_neg hk2, if_neg (by simp; omega), Array.getElem?_setIfInBounds_ne (Ne.symm hk)]
theorem qv6 (cs vs : List AV) (off k : Nat) (h : off + vs.length ≤ cs.length) : (putCells cs off vs)[k]? = if off ≤ k ∧ k < off + vs.length then vs[k - off]? else cs[k]? := by
  unfold putCells
  by_cases h1 : k < off
  · rw [if_neg (by omega), List.append_assoc, List.getElem?_append_left (by simp; omega), List.getElem?_take_of_lt h1]
  · by_cases h2 : k < off + vs.length
    · rw [if_pos ⟨by omega, h2⟩, List.append_assoc, List.getElem?_append_right (by simp; omega), List.getElem?_append_left (by simp; omega)]
      congr 1
      simp; omega
    · rw [if_neg (by omega), List.getElem?_append_right (by simp; omega), List.getElem?_drop]
      congr 1
      simp; omega
theorem qsm (cs vs : List AV) (off : Nat) (h : off + vs.length ≤ cs.length) : (putCells cs off vs).length = cs.length := by
  unfold putCells; simp; omega
def Cells (R : AV → Value → Prop) (cs : List AV) (arr : Array Value) : Prop :=
  arr.size = cs.length ∧ (∀ x, x ∈ cs → x.leaf = true) ∧ ∀ (k : Nat) (x : AV) (v : Value), cs[k]? = some x → arr[k]? = some v → R x v
theorem Cells.put {R : AV → Value → Prop} {cs vs : List AV} {arr ar : Array Value} (h : Cells R cs arr) (hv : Cells R vs ar) (off : Nat) (hle : off + vs.length ≤ cs.length) (r : Array Value) (hs : r.size = arr.size)
    (hr : ∀ k, r[k]? = if off ≤ k ∧ k < off + ar.size then ar[k - off]? else arr[k]?) : Cells R (putCells cs off vs) r := by
  refine ⟨by rw [hs, h.1, qsm _ _ _ hle], fun x hx => ?_, fun k x v hx hvv => ?_⟩
  · obtain ⟨k, hk, rfl⟩ := List.getElem_of_mem hx
    have hg := qv6 cs vs off k hle
    rw [List.getElem?_eq_getElem hk] at hg
    split at hg
    · exact hv.2.1 _ (List.mem_of_getElem? hg.symm)
    · exact h.2.1 _ (List.mem_of_getElem? hg.symm)
  · rw [qv6 cs vs off k hle] at hx
    rw [hr k, hv.1] at hvv
    split at hx <;> rename_i hc
    · rw [if_pos hc] at hvv; exact hv.2.2 _ x v hx hvv
    · rw [if_neg hc] at hvv; exact h.2.2 k x v hx hvv
section
variable {g : Gh} {m : Mem} {w : World} {t : Env} {a : Act} {P : Program} {T : Tab}
theorem VRel.cellsR {x v} (h : VRel g m w x v) (hx : x.cells.all AV.leaf = true) : Cells (VRel g m w) x.cells v.cells := by
  have hl : ∀ y, y ∈ x.cells → y.leaf = true := fun y hy => List.all_eq_true.1 hx y hy
  obtain ⟨h1, h2⟩ := h.cells hl
  exact ⟨h1, hl, h2⟩
theorem qzc (place : Nat → Option (Nat × Nat)) : ∀ (ps : List (Nat × Value)) (qs : List (Nat × Nat × AV)) (cs : List AV) (arr : Array Value) (r : List AV), ps.length = qs.length →
    (∀ (k : Nat) (p : Nat × Value) (q : Nat × Nat × AV), ps[k]? = some p → qs[k]? = some q → place p.1 = some (q.1, q.2.1) ∧ VRel g m w q.2.2 p.2) →
    Cells (VRel g m w) cs arr → qsk cs qs = some r → ∃ out, Instr.fill place arr ps = some out ∧ Cells (VRel g m w) r out
  | [], [], cs, arr, r, _, _, hc, h => by simp [qsk] at h; subst h; exact ⟨arr, rfl, hc⟩
  | [], q :: qs, cs, arr, r, hl, _, _, _ => by simp at hl
  | p :: ps, [], cs, arr, r, hl, _, _, _ => by simp at hl
  | (i, v) :: ps, (off, sz, x) :: qs, cs, arr, r, hl, hp, hc, h => by
    obtain ⟨hpl, hv⟩ := hp 0 (i, v) (off, sz, x) rfl rfl
    simp only at hpl hv
    simp only [qsk] at h
    split at h
    · rename_i hcond
      obtain ⟨h1, h2, h3⟩ := hcond
      have hx := hv.cellsR h3
      have hs : v.cells.size = sz := by rw [hx.1, h1]
      obtain ⟨hf1, hf2⟩ := qu4 off v.cells.toList 0 arr (by simp; rw [hs, hc.1]; exact h2)
      have hput := Cells.put hc hx off (by rw [h1]; exact h2) _ hf1 (fun k => by rw [hf2 k]; simp)
      obtain ⟨out, ho1, ho2⟩ := qzc place ps qs _ _ r (by simpa using hl) (fun k p q hp' hq' => hp (k + 1) p q hp' hq') hput h
      refine ⟨out, ?_, ho2⟩
      unfold Instr.fill
      simp only [hpl]
      have hno : ¬ ((decide (v.cells.size ≠ sz) || decide (off + v.cells.size > arr.size)) = true) := by
        simp [hs, hc.1]; omega
      rw [if_neg hno, ← ho1]
      congr 1
      rw [← Array.foldl_toList, Array.toList_zipIdx]
    · cases h
theorem q00 (hr : ERel g m w t a) {xs : Array Operand} {ys : List Opd} (h : qpp xs = some ys) :
    (xs.map a.eval).size = (evs t ys).length ∧ ∀ (k : Nat) (y : AV) (v : Value), (evs t ys)[k]? = some y → (xs.map a.eval)[k]? = some v → VRel g m w y v := by
  obtain ⟨h1, h2⟩ := qbx cOpd _ _ h
  refine ⟨by simp [evs, h1], fun k y v hy hv => ?_⟩
  simp only [evs, List.getElem?_map, Option.map_eq_some_iff] at hy
  simp only [Array.getElem?_map, Option.map_eq_some_iff] at hv
  obtain ⟨o, ho, rfl⟩ := hy
  obtain ⟨x, hx, rfl⟩ := hv
  exact qe hr (h2 k x o (by simpa using hx) ho)
def qc4 (P : Program) (g : Gh) (m : Mem) (w : World) (a : Act) (o : Oper) (v : AV) : Prop :=
  ∃ cv, VRel g m w v cv ∧ ∀ w', Old w w' → (execOp a.eval o).run P w' = .ok (.value cv) w'
theorem q5u {o : Oper} {v : AV} {cv : Value} (s : Sem Value) (he : execOp a.eval o = (do pure (.value (← s)))) (hv : VRel g m w v cv) (hs : ∀ w', Old w w' → s.run P w' = .ok cv w') : qc4 P g m w a o v :=
  ⟨cv, hv, fun w' ho => by rw [he]; simp [hs w' ho]⟩
theorem qok (hT : T.ok P) {s : TypeId} {f off : Nat} {fi : TI} (h : qn2 T s f = some (off, fi)) :
    ∃ si i fs fd ft j e, T s = some si ∧ TIs P s si i (.struct fs) ∧ fs[f]? = some fd ∧ fd.offset = off ∧ fd.type = ft ∧ TIs P ft fi j e := by
  unfold qn2 at h
  split at h
  · rename_i si hs
    split at h
    · rename_i l hl
      split at h
      · rename_i o ft b hf
        obtain ⟨x, h1, h2⟩ := Option.map_eq_some_iff.1 h
        simp at h2
        obtain ⟨rfl, rfl⟩ := h2
        obtain ⟨i, d, hd⟩ := hT.facts hs
        obtain ⟨j, e, hj⟩ := hT.facts h1
        have htd := hd.td
        rw [hl] at htd
        cases d <;> simp [TDof] at htd
        rename_i fs
        subst htd
        simp only [List.getElem?_map, Option.map_eq_some_iff] at hf
        obtain ⟨fd, h3, h4⟩ := hf
        simp at h4
        obtain ⟨rfl, rfl, rfl⟩ := h4
        exact ⟨si, i, fs, fd, _, j, e, hs, hd, by simpa using h3, rfl, rfl, hj⟩
      · cases h
    · cases h
  · cases h
theorem qbb7 (hT : T.ok P) (hr : ERel g m w t a) {o : Oper} {ty ps so v} (ho : o.op = .build ty ps) (hc : cOp T o.op = some so) (hv : qa t m so = some v) : qc4 P g m w a o v := by
  rw [ho] at hc
  simp only [cOp, Option.bind_eq_bind, Option.bind_eq_some_iff] at hc
  obtain ⟨ti, hti, z, hz, hc⟩ := hc
  split at hc
  · cases hc
  rename_i hzl
  obtain ⟨i, d, hd⟩ := hT.facts hti
  obtain ⟨zv, hz1, hz2, hz3⟩ := hd.zeroValue hz
  have hzc : Cells (VRel g m w) z zv.cells := by
    obtain ⟨h1, h2, h3⟩ := qkd (I := g.I) (w := w) hz2
    exact ⟨h1, h2, fun k x v hx hv => .c (h3 k x v hx hv)⟩
  have key : ∀ (l : List (Nat × Nat × Opd)) (place : Nat → Option (Nat × Nat)), l.length = ps.size →
      (∀ (k : Nat) (p : Nat × Operand) (q : Nat × Nat × Opd), ps[k]? = some p → l[k]? = some q → place p.1 = some (q.1, q.2.1) ∧ cOpd p.2 = some q.2.2) →
      (qsk z (l.map fun p => (p.1, p.2.1, ev t p.2.2))).map AV.agg = some v →
      ∃ out, Instr.fill place zv.cells ((ps.map fun (i, x) => (i, a.eval x)).toList) = some out ∧ VRel g m w v (.agg out) := by
    intro l place hl hp hf
    obtain ⟨r, h1, rfl⟩ := Option.map_eq_some_iff.1 hf
    obtain ⟨out, h2, h3⟩ := qzc (g := g) (m := m) (w := w) place ((ps.map fun (i, x) => (i, a.eval x)).toList) (l.map fun p => (p.1, p.2.1, ev t p.2.2)) z zv.cells r (by simp [hl])
      (fun k p q hp' hq' => by
        simp only [List.getElem?_map, Option.map_eq_some_iff] at hq'
        obtain ⟨q0, hq0, rfl⟩ := hq'
        simp only [Array.toList_map, List.getElem?_map, Option.map_eq_some_iff] at hp'
        obtain ⟨p0, hp0, rfl⟩ := hp'
        obtain ⟨h4, h5⟩ := hp k p0 q0 (by simpa using hp0) hq0
        exact ⟨h4, qe hr h5⟩) hzc h1
    exact ⟨out, h2, .agg _ _ h3.2.1 h3.1 h3.2.2⟩
  split at hc
  · rename_i fsl htd
    split at hc
    · cases hc
    rename_i hall
    simp only [Option.bind_eq_some_iff, Option.some.injEq] at hc
    obtain ⟨l, hl, rfl⟩ := hc
    simp only [qa] at hv
    have htd' := hd.td
    rw [htd] at htd'
    cases d <;> simp [TDof] at htd'
    rename_i fs
    subst htd'
    -- the places
    have hpl : ∃ places, fs.toList.mapM (fun f => (P.info? f.type).map fun i => (f.offset, i.size)) = some places ∧ ∀ (k : Nat) (f : Field) (fi : TI), fs[k]? = some f → T f.type = some fi → places[k]? = some (f.offset, fi.sz) := by
      have hall' : ∀ f, f ∈ fs.toList → (T f.type).isSome = true := by
        intro f hf
        simp only [Bool.not_eq_true', Bool.not_eq_false, List.all_map, List.all_eq_true, Function.comp] at hall
        exact hall f hf
      have gen : ∀ (l : List Field), (∀ f, f ∈ l → (T f.type).isSome = true) → ∃ places, l.mapM (fun f => (P.info? f.type).map fun i => (f.offset, i.size)) = some places ∧ ∀ (k : Nat) (f : Field) (fi : TI), l[k]? = some f → T f.type = some fi → places[k]? = some (f.offset, fi.sz) := by
        intro l
        induction l with
        | nil => intro _; exact ⟨[], rfl, by simp⟩
        | cons f l ih =>
          intro h
          obtain ⟨places, h1, h2⟩ := ih (fun f hf => h f (by simp [hf]))
          obtain ⟨fi, hfi⟩ := Option.isSome_iff_exists.1 (h f (by simp))
          obtain ⟨j, e, hj⟩ := hT.facts hfi
          refine ⟨(f.offset, j.size) :: places, by simp [hj.info, h1], fun k f' fi' hf' hfi' => ?_⟩
          cases k with
          | zero =>
            simp at hf'
            subst hf'
            rw [hfi] at hfi'
            cases hfi'
            simp [hj.sz]
          | succ k => simp at hf'; simpa using h2 k f' fi' hf' hfi'
      obtain ⟨places, h1, h2⟩ := gen fs.toList hall'
      exact ⟨places, h1, fun k f fi hf hfi => h2 k f fi (by simpa using hf) hfi⟩
    obtain ⟨places, hp1, hp2⟩ := hpl
    obtain ⟨hl1, hl2⟩ := qbx _ _ _ hl
    obtain ⟨out, h1, h2⟩ := key l (places.toArray[·]?) (by simpa using hl1) (fun k p q hp hq => by
      have := hl2 k p q (by simpa using hp) hq
      simp only [Option.bind_eq_some_iff] at this
      obtain ⟨⟨off, fi⟩, h3, y, h4, h5⟩ := this
      simp at h5
      subst h5
      obtain ⟨si, i', fs', fd, ft, j, e, hs1, hs2, hs3, rfl, rfl, hs4⟩ := qok hT h3
      rw [hti] at hs1
      cases hs1
      have := hs2.und.symm.trans hd.und
      simp at this
      subst this
      refine ⟨?_, h4⟩
      have hfi : T fd.type = some fi := by
        unfold qn2 at h3
        rw [hti] at h3
        simp only [htd] at h3
        simp only [List.getElem?_map] at h3
        have : fs'.toList[p.1]? = some fd := by simpa using hs3
        rw [this] at h3
        simp at h3
        exact h3
      simpa using hp2 p.1 fd fi hs3 hfi) hv
    refine ⟨_, h2, fun w' ho' => ?_⟩
    have hb : P.built ty ((ps.map fun (i, x) => (i, a.eval x)).toList) = some out := by
      simp only [Program.built, hd.info, hd.und, hz1, hp1]
      exact h1
    have hrun := run_build (P := P) w' ty (ps.map fun (i, x) => (i, a.eval x)) out hb
    unfold execOp
    simp only [ho]
    simp [hrun]
  · rename_i n e htd
    simp only [Option.bind_eq_some_iff, Option.some.injEq] at hc
    obtain ⟨ei, hei, l, hl, rfl⟩ := hc
    simp only [qa] at hv
    have htd' := hd.td
    rw [htd] at htd'
    cases d <;> simp [TDof] at htd'
    obtain ⟨rfl, rfl⟩ := htd'
    obtain ⟨j, de, hj⟩ := hT.facts hei
    obtain ⟨hl1, hl2⟩ := qbx _ _ _ hl
    obtain ⟨out, h1, h2⟩ := key l (fun i => some (i * j.size, j.size)) (by simpa using hl1) (fun k p q hp hq => by
      have := hl2 k p q (by simpa using hp) hq
      simp only [Option.bind_eq_some_iff] at this
      obtain ⟨y, h4, h5⟩ := this
      simp at h5
      subst h5
      exact ⟨by simp [hj.sz], h4⟩) hv
    refine ⟨_, h2, fun w' ho' => ?_⟩
    have hb : P.built ty ((ps.map fun (i, x) => (i, a.eval x)).toList) = some out := by
      simp only [Program.built, hd.info, hd.und, hz1, hj.info]
      exact h1
    have hrun := run_build (P := P) w' ty (ps.map fun (i, x) => (i, a.eval x)) out hb
    unfold execOp
    simp only [ho]
    simp [hrun]
  · cases hc
end
end Go.Pev
/- Operations that read and compute alone, one by one (2). -/
namespace Go.Pev
open Go
set_option linter.unusedVariables false
set_option linter.unusedSimpArgs false
section
variable {g : Gh} {m : Mem} {w : World} {t : Env} {a : Act} {P : Program} {T : Tab}
theorem p_mv (hr : ERel g m w t a) {o : Oper} {v : AV} (x : Operand) (ho : execOp a.eval o = pure (.value (a.eval x))) (y : Opd) (hc : cOpd x = some y) (hv : qa t m (.mv y) = some v) : qc4 P g m w a o v := by
  simp [qa] at hv
  subst hv
  exact ⟨_, qe hr hc, fun w' _ => by rw [ho]; simp⟩
theorem qbdl (hr : ERel g m w t a) {o : Oper} {c x y : Operand} {so v} (ho : o.op = .pick c x y) (hc : cOp T o.op = some so) (hv : qa t m so = some v) : qc4 P g m w a o v := by
  rw [ho] at hc
  simp only [cOp, Option.bind_eq_bind, Option.bind_eq_some_iff, Option.some.injEq] at hc
  obtain ⟨c', h1, x', h2, y', h3, rfl⟩ := hc
  simp only [qa] at hv
  split at hv
  · rename_i q hq
    simp at hv
    have hb := qe hr h1
    rw [hq] at hb
    have hb' := hb.bool_inv
    refine ⟨if q then a.eval x else a.eval y, ?_, fun w' _ => ?_⟩
    · subst hv
      cases q
      · exact qe hr h3
      · exact qe hr h2
    · unfold execOp
      simp only [ho]
      simp [asBool, hb']
  · cases hv
theorem qbdm (hT : T.ok P) (hok : OK1 g m w) (hr : ERel g m w t a) {o : Oper} {ty : TypeId} {x : Operand} {so v} (ho : o.op = .load ty x) (hc : cOp T o.op = some so) (hv : qa t m so = some v) : qc4 P g m w a o v := by
  rw [ho] at hc
  simp only [cOp, Option.bind_eq_bind, Option.bind_eq_some_iff] at hc
  obtain ⟨ti, hti, hc⟩ := hc
  split at hc
  · cases hc
  rename_i hagg
  simp only [Option.bind_eq_some_iff, Option.some.injEq] at hc
  obtain ⟨x', h1, rfl⟩ := hc
  simp only [qa] at hv
  obtain ⟨i, d, hd⟩ := hT.facts hti
  obtain ⟨cs, h2, h3⟩ := q0y hv
  obtain ⟨b, off, h4, h5⟩ := qu3 hok (qe hr h1) h2
  obtain ⟨cv, h6, h7⟩ := qzb (P := P) h5 hd (fun h => by simp [h] at hagg; exact hagg) h3
  refine q5u (Instr.loadAt ty (a.eval x)) (by unfold execOp; simp only [ho]) h6 (fun w' hw => ?_)
  rw [h4]
  simp [Instr.loadAt, Instr.sureAddr, h7 w' hw]
theorem q79 (hT : T.ok P) (hok : OK1 g m w) (hr : ERel g m w t a) {o : Oper} {ty : TypeId} {x : Operand} {agg sz y v} (ho : o.op = .load ty x) (hc : cOp T o.op = some (.load agg sz y)) {r off : Nat} (hy : ev t y = .ptr r off) (hv : qa t m (.load agg sz y) = some v) :
    ∃ cv, VRel g m w v cv ∧ ∀ w' : World, w'.heap[g.jb r]? = w.heap[g.jb r]? → (execOp a.eval o).run P w' = .ok (.value cv) w' := by
  rw [ho] at hc
  simp only [cOp, Option.bind_eq_bind, Option.bind_eq_some_iff] at hc
  obtain ⟨ti, hti, hc⟩ := hc
  split at hc
  · cases hc
  rename_i hagg
  simp only [Option.bind_eq_some_iff, Option.some.injEq, SOp.load.injEq] at hc
  obtain ⟨x', h1, rfl, rfl, rfl⟩ := hc
  simp only [qa] at hv
  obtain ⟨i, d, hd⟩ := hT.facts hti
  obtain ⟨cs, h2, h3⟩ := q0y hv
  have hx := qe hr h1
  obtain ⟨b, off', h4, h5⟩ := qu3 hok hx h2
  have hb : b = g.jb r := by
    rw [hy, h4] at hx
    cases hx with
    | c h => cases h
    | ptr _ _ _ => rfl
  subst hb
  obtain ⟨cv, h6, h7⟩ := q6j (P := P) h5 hd (fun h => by simp [h] at hagg; exact hagg) h3
  refine ⟨cv, h6, fun w' hw => ?_⟩
  have := h7 w' (fun k v hk => by rw [qbj hw k]; exact hk)
  unfold execOp
  simp only [ho]
  rw [h4]
  simp [Instr.loadAt, Instr.sureAddr, this]
theorem qbdn (hr : ERel g m w t a) {o : Oper} {x : Operand} {so v} (ho : o.op = .nilCheck x) (hc : cOp T o.op = some so) (hv : qa t m so = some v) : qc4 P g m w a o v := by
  rw [ho] at hc
  simp only [cOp, Option.bind_eq_bind, Option.bind_eq_some_iff, Option.some.injEq] at hc
  obtain ⟨x', h1, rfl⟩ := hc
  simp only [qa] at hv
  have hx := qe hr h1
  have key : ∀ pv, a.eval x = pv → VRel g m w v pv → (match pv with | .pointer (some _) => True | .func (.func _) .. => True | _ => False) → qc4 P g m w a o v := by
    intro pv he hp hm
    refine ⟨pv, hp, fun w' _ => ?_⟩
    unfold execOp
    simp only [ho, he]
    split at hm
    · simp
    · simp
    · exact hm.elim
  unfold vnil at hv
  generalize hpv : a.eval x = pv at hx
  split at hv
  · rename_i r off he
    simp at hv; subst hv
    rw [he] at hx
    refine key pv hpv hx ?_
    cases hx with
    | c h => cases h
    | ptr => trivial
  · rename_i cs he
    simp at hv; subst hv
    rw [he] at hx
    refine key pv hpv hx ?_
    cases hx with
    | c h => cases h with
      | cptr => trivial
  · rename_i f cs he
    simp at hv; subst hv
    rw [he] at hx
    refine key pv hpv hx ?_
    cases hx with
    | c h => cases h with
      | func => trivial
    | func => trivial
  · cases hv
theorem qbab {k k' : IntKind} {x y : Int} {op : BinOp} {v : AV} (h : ibin op k x k' y = some v) (ty : TypeId) (w : World) : ∃ cv, CRel g.I w v cv ∧ ∀ w', (binOp op ty (.int k x) (.int k' y)).run P w' = .ok cv w' := by
  cases op <;> simp only [ibin] at h
  case shl =>
    split at h
    · cases h
    · rename_i hb; simp at h; subst h; exact ⟨_, .int _ _, fun w' => by simp [binOp, Op.shift, hb]⟩
  case shr =>
    split at h
    · cases h
    · rename_i hb; simp at h; subst h; exact ⟨_, .int _ _, fun w' => by simp [binOp, Op.shift, hb]⟩
  case quo =>
    split at h
    · rename_i hb; simp at h; subst h; exact ⟨_, .int _ _, fun w' => by simp [binOp, Op.intDiv, hb.1, hb.2]⟩
    · cases h
  case rem =>
    split at h
    · rename_i hb; simp at h; subst h; exact ⟨_, .int _ _, fun w' => by simp [binOp, Op.intDiv, hb.1, hb.2]⟩
    · cases h
  case add => split at h <;> simp at h; rename_i hb; subst h; exact ⟨_, .int _ _, fun w' => by simp [binOp, Op.intArith, hb]⟩
  case sub => split at h <;> simp at h; rename_i hb; subst h; exact ⟨_, .int _ _, fun w' => by simp [binOp, Op.intArith, hb]⟩
  case mul => split at h <;> simp at h; rename_i hb; subst h; exact ⟨_, .int _ _, fun w' => by simp [binOp, Op.intArith, hb]⟩
  case and => split at h <;> simp at h; rename_i hb; subst h; exact ⟨_, .int _ _, fun w' => by simp [binOp, Op.intBits, hb, qd9]⟩
  case or => split at h <;> simp at h; rename_i hb; subst h; exact ⟨_, .int _ _, fun w' => by simp [binOp, Op.intBits, hb, qd9]⟩
  case xor => split at h <;> simp at h; rename_i hb; subst h; exact ⟨_, .int _ _, fun w' => by simp [binOp, Op.intBits, hb, qd9]⟩
  case andNot => split at h <;> simp at h; rename_i hb; subst h; exact ⟨_, .int _ _, fun w' => by simp [binOp, Op.intBits, hb, qd9]⟩
  all_goals (split at h <;> simp at h; rename_i hb; subst h; exact ⟨_, .bool _, fun w' => by simp [binOp, Op.intCmp, hb]⟩)
theorem qme (b : ByteArray) : b.toList = b.data.toList := by rw [ByteArray.toList_eq]
theorem qbac {x y : ByteArray} {op : BinOp} {v : AV} (h : sbin op x.data.toList y.data.toList = some v) (ty : TypeId) (w : World) : ∃ cv, CRel g.I w v cv ∧ ∀ w', (binOp op ty (.string x) (.string y)).run P w' = .ok cv w' := by
  have hsx : x.data.toList.length = x.size := by simp
  have hsy : y.data.toList.length = y.size := by simp
  cases op <;> simp only [sbin] at h
  case add =>
    split at h <;> simp at h
    rename_i hb
    subst h
    have hd : (x ++ y).data.toList = x.data.toList ++ y.data.toList := by simp
    refine ⟨.string (x ++ y), by rw [← hd]; exact .str _, fun w' => ?_⟩
    have hno : ¬ (9223372036854775807 < (x.size : Int) + (y.size : Int)) := by rw [hsx, hsy] at hb; omega
    simp [binOp, Op.stringOp, IntKind.max, IntKind.bits, IntKind.signed]
    omega
  all_goals first
    | (simp at h; done)
    | (simp at h; subst h; exact ⟨_, .bool _, fun w' => by simp [binOp, Op.stringOp, qme]⟩)
theorem qbbs (hr : ERel g m w t a) {o : Oper} {op : BinOp} {ty ty' : TypeId} {x y : Operand} {x' y' : Opd} {v} (ho : o.op = .binOp op ty x y ty') (hx : cOpd x = some x') (hy : cOpd y = some y') (hv : qa t m (.bin op x' y') = some v) : qc4 P g m w a o v := by
  simp only [qa] at hv
  have h1 := qe hr hx
  have h2 := qe hr hy
  unfold vbin at hv
  split at hv
  · rename_i k x1 k' y1 he1 he2
    rw [he1] at h1
    rw [he2] at h2
    obtain ⟨cv, h3, h4⟩ := qbab (P := P) (g := g) hv ty w
    refine ⟨cv, .c h3, fun w' _ => ?_⟩
    unfold execOp
    simp only [ho]
    rw [h1.int_inv, h2.int_inv]
    have hg : (eqGuard op ty x y (.int k x1) (.int k' y1)).run P w' = .ok () w' := by cases op <;> simp [eqGuard]
    simp [hg, h4 w']
  · rename_i s1 s2 he1 he2
    rw [he1] at h1
    rw [he2] at h2
    obtain ⟨b1, hb1, rfl⟩ := h1.str_inv
    obtain ⟨b2, hb2, rfl⟩ := h2.str_inv
    obtain ⟨cv, h3, h4⟩ := qbac (P := P) (g := g) hv ty w
    refine ⟨cv, .c h3, fun w' _ => ?_⟩
    unfold execOp
    simp only [ho]
    rw [hb1, hb2]
    have hg : (eqGuard op ty x y (.string b1) (.string b2)).run P w' = .ok () w' := by cases op <;> simp [eqGuard]
    simp [hg, h4 w']
  · cases hv
theorem p_un (hr : ERel g m w t a) {o : Oper} {op : UnOp} {ty : TypeId} {x : Operand} {so v} (ho : o.op = .unOp op ty x) (hc : cOp T o.op = some so) (hv : qa t m so = some v) : qc4 P g m w a o v := by
  rw [ho] at hc
  simp only [cOp, Option.bind_eq_bind, Option.bind_eq_some_iff, Option.some.injEq] at hc
  obtain ⟨x', h1, rfl⟩ := hc
  simp only [qa] at hv
  have hx := qe hr h1
  unfold vun at hv
  split at hv
  · rename_i k n he
    simp at hv; subst hv
    rw [he] at hx
    refine ⟨_, .c (.int _ _), fun w' _ => ?_⟩
    unfold execOp; simp only [ho]; rw [hx.int_inv]
    simp [Op.unary, Op.intArith]
  · rename_i k n he
    simp at hv; subst hv
    rw [he] at hx
    refine ⟨_, .c (.int _ _), fun w' _ => ?_⟩
    unfold execOp; simp only [ho]; rw [hx.int_inv]
    simp [Op.unary, Op.intBits, qd9]
  · rename_i b he
    simp at hv; subst hv
    rw [he] at hx
    refine ⟨_, .c (.bool _), fun w' _ => ?_⟩
    unfold execOp; simp only [ho]; rw [hx.bool_inv]
    simp [Op.unary]
  · cases hv
end
end Go.Pev
/- Operations that read and compute alone, one by one (3). -/
namespace Go.Pev
open Go
set_option linter.unusedVariables false
set_option linter.unusedSimpArgs false
section
variable {g : Gh} {m : Mem} {w : World} {t : Env} {a : Act} {P : Program} {T : Tab}
theorem qhi (b o n : Nat) : (⟨b, o, none⟩ : Addr).add n = ⟨b, o + n, none⟩ := by unfold Addr.add; split <;> simp_all
theorem q32 {x : AV} {pv : Value} (hx : VRel g m w x pv) {off : Nat} {v : AV} (hv : vfa m off x = some v) :
    ∃ b o, pv = .pointer (some ⟨b, o, none⟩) ∧ VRel g m w v (.pointer (some ⟨b, o + off, none⟩)) := by
  unfold vfa at hv
  split at hv
  · rename_i r of
    simp at hv; subst hv
    cases hx with
    | c h => cases h
    | ptr _ _ hr' => exact ⟨_, _, rfl, .ptr r _ hr'⟩
  · rename_i cs
    simp at hv; subst hv
    cases hx with
    | c h => cases h with
      | cptr _ b of gf hl hcc hh =>
        refine ⟨b, of, rfl, .c (.cptr _ b (of + off) (fun k => gf (off + k)) (fun y hy => hl y (List.mem_of_mem_drop hy)) (fun k y hy => ?_) (fun k y hy => ?_))⟩
        · rw [List.getElem?_drop] at hy
          rw [Nat.add_assoc]
          exact hcc _ y hy
        · rw [List.getElem?_drop] at hy
          exact hh _ y hy
  · rename_i r n i2 of
    split at hv
    · rename_i hal
      simp at hv; subst hv
      unfold q28 at hal
      split at hal
      · rename_i wf e xs h3
        have h4 : xs.length = n := by simpa using hal
        cases hx with
        | c h => cases h
        | eptr _ _ _ _ pv hr' h2 hh =>
          obtain ⟨rfl, hnil⟩ := (hh wf e xs h3).2 h4
          refine ⟨_, _, rfl, .eptr r n i2 (of + off) _ hr' rfl (fun wf' e' xs' hs' => ⟨(hh wf' e' xs' hs').1, fun hn => ?_⟩)⟩
          rw [h3] at hs'
          simp at hs'
          obtain ⟨rfl, rfl, rfl⟩ := hs'
          exact ⟨by rw [Nat.add_assoc], hnil⟩
      · cases hal
    · cases hv
  · cases hv
theorem p_fa (hT : T.ok P) (hr : ERel g m w t a) {o : Oper} {s : TypeId} {x : Operand} {f : Nat} {so v} (ho : o.op = .fieldAddr s x f) (hc : cOp T o.op = some so) (hv : qa t m so = some v) : qc4 P g m w a o v := by
  rw [ho] at hc
  simp only [cOp, Option.bind_eq_bind, Option.bind_eq_some_iff] at hc
  obtain ⟨⟨off, fi⟩, h0, hc⟩ := hc
  split at hc
  · cases hc
  rename_i hsz
  simp only [Option.bind_eq_some_iff, Option.some.injEq] at hc
  obtain ⟨x', h1, rfl⟩ := hc
  simp only [qa] at hv
  obtain ⟨si, i, fs, fd, ft, j, e, hs1, hs2, hs3, rfl, rfl, hs4⟩ := qok hT h0
  obtain ⟨b, of, hp, hvr⟩ := q32 (qe hr h1) hv
  refine ⟨_, hvr, fun w' _ => ?_⟩
  unfold execOp
  simp only [ho, hp]
  have hszr := hs4.sizeOf (P := P) w'
  simp [Instr.fieldAt, run_underlying hs2.und, hs3, Instr.sureAddr, fieldPlace, hszr, hsz, qhi]
theorem qzd {x : AV} {pv : Value} (hx : VRel g m w x pv) {agg : Bool} {off sz : Nat} {v : AV} (hv : vfld agg off sz x = some v) {ty : TypeId} {ti i d} (ht : TIs P ty ti i d) (ha : agg = ti.agg) (hs : sz = ti.sz) :
    ∃ cs cv, pv = .agg cs ∧ VRel g m w v cv ∧ ∀ w', (part ty cs off).run P w' = .ok cv w' := by
  unfold vfld at hv
  split at hv
  · rename_i l
    obtain ⟨cs, rfl, hl, hsz, hh⟩ : ∃ cs, pv = .agg cs ∧ (∀ x, x ∈ l → x.leaf = true) ∧ cs.size = l.length ∧ ∀ (k : Nat) (x : AV) (v : Value), l[k]? = some x → cs[k]? = some v → VRel g m w x v := by
      cases hx with
      | c h => cases h with
        | agg _ vs hl hs hh => exact ⟨vs, rfl, hl, hs, fun k x v h1 h2 => .c (hh k x v h1 h2)⟩
      | agg _ vs hl hs hh => exact ⟨vs, rfl, hl, hs, hh⟩
    refine ⟨cs, ?_⟩
    split at hv
    · rename_i hagg
      split at hv
      · rename_i hle
        simp at hv; subst hv
        refine ⟨.agg (cs.extract off (off + sz)), rfl, .agg _ _ (fun y hy => hl y (List.mem_of_mem_drop (List.mem_of_mem_take hy))) (by simp [hsz]; omega) (fun k x v h1 h2 => ?_), fun w' => ?_⟩
        · rw [List.getElem?_take] at h1
          split at h1
          · rw [List.getElem?_drop] at h1
            rw [Array.getElem?_extract] at h2
            split at h2
            · exact hh _ x v h1 h2
            · cases h2
          · cases h1
        · simp [part, ht.isAgg w', ← ha, hagg, ht.sizeOf w', hs]
      · cases hv
    · rename_i hagg
      have hlt : off < cs.size := by rw [hsz]; exact (List.getElem?_eq_some_iff.1 hv).1
      refine ⟨cs[off], rfl, hh off v _ hv (by simp [hlt]), fun w' => ?_⟩
      have : ti.agg = false := by rw [← ha]; simpa using hagg
      simp [part, ht.isAgg w', this, hlt]
  · cases hv
theorem qbet (hT : T.ok P) (hr : ERel g m w t a) {o : Oper} {s : TypeId} {x : Operand} {f : Nat} {so v} (ho : o.op = .field s x f) (hc : cOp T o.op = some so) (hv : qa t m so = some v) : qc4 P g m w a o v := by
  rw [ho] at hc
  simp only [cOp, Option.bind_eq_bind, Option.bind_eq_some_iff, Option.some.injEq] at hc
  obtain ⟨⟨off, fi⟩, h0, x', h1, rfl⟩ := hc
  simp only [qa] at hv
  obtain ⟨si, i, fs, fd, ft, j, e, hs1, hs2, hs3, rfl, rfl, hs4⟩ := qok hT h0
  obtain ⟨cs, cv, h2, h3, h4⟩ := qzd (P := P) (qe hr h1) hv hs4 rfl rfl
  refine ⟨cv, h3, fun w' _ => ?_⟩
  unfold execOp
  simp only [ho, h2]
  simp [Instr.field, run_underlying hs2.und, hs3, asAgg, h4 w']
theorem p_ia (hT : T.ok P) (hok : OK1 g m w) (hr : ERel g m w t a) {o : Oper} {s : TypeId} {x ix : Operand} {x' i' : Opd} {v : AV} (ho : o.op = .indexAddr s x ix) {si : TI} {se : TypeId} {ei : TI} (hsi : T s = some si) (htd : si.td = .slice se) (hei : T se = some ei) (hx : cOpd x = some x') (hi : cOpd ix = some i')
    (hv : qa t m (.ia ei.sz x' i') = some v) : qc4 P g m w a o v := by
  obtain ⟨i, d, hd⟩ := hT.facts hsi
  obtain ⟨j, d2, hd2⟩ := hT.facts hei
  have htd' := hd.td
  rw [htd] at htd'
  cases d <;> simp [TDof] at htd'
  subst htd'
  simp only [qa, via] at hv
  split at hv
  · rename_i k n he
    split at hv
    · rename_i h0
      have hi1 := qe hr hi
      rw [he] at hi1
      have hiv := hi1.int_inv
      have hx1 := qe hr hx
      have run : ∀ b of len cap w', a.eval x = .slice (some ⟨b, of, none⟩) len cap → n < len → (execOp a.eval o).run P w' = .ok (.value (.pointer (some ⟨b, of + n.toNat * ei.sz, none⟩))) w' := by
        intro b of len cap w' hxe hlt
        unfold execOp
        simp only [ho, hxe, hiv]
        have hsz := hd2.sizeOf (P := P) w'
        simp [Instr.indexAt, asIntOf, run_underlying hd.und, h0, hlt, hsz, qhi]
      split at hv
      · rename_i e' xs hxe
        split at hv
        · rename_i hee
          obtain ⟨y, hy, rfl⟩ := Option.map_eq_some_iff.1 hv
          have hlt : n.toNat < xs.length := (List.getElem?_eq_some_iff.1 hy).1
          rw [hxe] at hx1
          generalize hpv : a.eval x = pv at hx1
          cases hx1 with
          | c h => cases h with
            | sl _ _ sa c b of gf hcap ha hee2 hl hcc hh =>
              have ha' : sa = some ⟨b, of, none⟩ := by
                rcases ha with ha | ha
                · subst ha; simp at hlt
                · exact ha
              subst ha'
              subst hee
              refine ⟨_, .c (.cptr _ b (of + n.toNat * ei.sz) (fun k => gf (n.toNat * ei.sz + k)) (fun z hz => ?_) (fun k z hz => ?_) (fun k z hz => ?_)), fun w' _ => run b of _ c w' hpv (by omega)⟩
              · obtain ⟨k, hk, rfl⟩ := List.getElem_of_mem hz
                exact hl _ y k _ hy (by simp [hk])
              · have := hcc _ y k z hy hz
                rw [Nat.add_assoc]
                exact this
              · exact hh _ y k z hy hz
        · cases hv
      · rename_i r len hxe
        split at hv
        · rename_i wf e' xs hs
          split at hv
          · rename_i hcond
            obtain ⟨hee, hlen, hlt⟩ := hcond
            simp at hv
            subst hv
            rw [hxe] at hx1
            generalize hpv : a.eval x = pv at hx1
            cases hx1 with
            | c h => cases h
            | own _ _ sa c hr' hh =>
              have h2 := (hh wf e' xs hs).2 hlen
              have hnn : (g.ja r).nil = false := by
                rcases hok.ob r _ hs with ⟨_, h4⟩ | ⟨h4, _⟩
                · subst h4; simp at hlen; subst hlen; omega
                · exact h4
              simp [Bk.val, hnn] at h2
              obtain ⟨rfl, rfl⟩ := h2
              refine ⟨_, .eptr r len n.toNat 0 _ hr' rfl (fun wf2 e2 xs2 hs2 => ?_), fun w' _ => run _ 0 _ _ w' hpv hlt⟩
              rw [hs] at hs2
              simp at hs2
              obtain ⟨rfl, rfl, rfl⟩ := hs2
              exact ⟨by omega, fun _ => ⟨by simp [hee], hnn⟩⟩
          · cases hv
        · cases hv
      · cases hv
    · cases hv
  · cases hv
end
end Go.Pev
/- Operations that read and compute alone, one by one (4). -/
namespace Go.Pev
open Go
set_option linter.unusedVariables false
set_option linter.unusedSimpArgs false
section
variable {g : Gh} {m : Mem} {w : World} {t : Env} {a : Act} {P : Program} {T : Tab}
theorem qbeu (hT : T.ok P) (hr : ERel g m w t a) {o : Oper} {s : TypeId} {x ix : Operand} {x' i' : Opd} {v : AV} (ho : o.op = .indexAddr s x ix) {si : TI} {n se : Nat} {ei : TI} (hsi : T s = some si) (htd : si.td = .arr n se) (hei : T se = some ei) (hx : cOpd x = some x') (hi : cOpd ix = some i')
    (hv : qa t m (.iaa n ei.sz x' i') = some v) : qc4 P g m w a o v := by
  obtain ⟨i, d, hd⟩ := hT.facts hsi
  obtain ⟨j, d2, hd2⟩ := hT.facts hei
  have htd' := hd.td
  rw [htd] at htd'
  cases d <;> simp [TDof] at htd'
  obtain ⟨rfl, rfl⟩ := htd'
  simp only [qa] at hv
  have hx1 := qe hr hx
  have hi1 := qe hr hi
  obtain ⟨kk, k, hek, h0, hlt, hmv⟩ : ∃ kk k, ev t i' = .int kk k ∧ 0 ≤ k ∧ k < n ∧ vfa m (k.toNat * ei.sz) (ev t x') = some v := by
    unfold viaa at hv
    split at hv
    · rename_i r o kk k he1 he2
      split at hv
      · rename_i hc; simp at hv; exact ⟨kk, k, he2, hc.1, hc.2, by rw [he1]; simp [vfa, hv]⟩
      · cases hv
    · rename_i cs kk k he1 he2
      split at hv
      · rename_i hc; simp at hv; exact ⟨kk, k, he2, hc.1, hc.2, by rw [he1]; simp [vfa, hv]⟩
      · cases hv
    · rename_i r l jj o kk k he1 he2
      split at hv
      · rename_i hc; simp at hv; exact ⟨kk, k, he2, hc.2.1, hc.2.2, by rw [he1]; simp [vfa, hc.1, hv]⟩
      · cases hv
    · cases hv
  rw [hek] at hi1
  have hiv := hi1.int_inv
  obtain ⟨b, of, hp, hvr⟩ := q32 hx1 hmv
  refine ⟨_, hvr, fun w' _ => ?_⟩
  unfold execOp
  simp only [ho, hp, hiv]
  have hsz := hd2.sizeOf (P := P) w'
  simp [Instr.indexAt, asIntOf, run_underlying hd.und, Instr.sureAddr, h0, hlt, hsz, qhi]
theorem qbev (hT : T.ok P) (hr : ERel g m w t a) {o : Oper} {s : TypeId} {x ix : Operand} {x' i' : Opd} {v : AV} (ho : o.op = .index s x ix) {si : TI} (hsi : T s = some si) (htd : si.td = .str) (hx : cOpd x = some x') (hi : cOpd ix = some i')
    (hv : qa t m (.ixs x' i') = some v) : qc4 P g m w a o v := by
  obtain ⟨i, d, hd⟩ := hT.facts hsi
  have htd' := hd.td
  rw [htd] at htd'
  cases d <;> simp [TDof] at htd'
  simp only [qa, vixs] at hv
  have hx1 := qe hr hx
  have hi1 := qe hr hi
  split at hv
  · rename_i l kk n he1 he2
    rw [he1] at hx1
    rw [he2] at hi1
    split at hv
    · rename_i h0
      obtain ⟨c, hc, rfl⟩ := Option.map_eq_some_iff.1 hv
      obtain ⟨bs, hb, rfl⟩ := hx1.str_inv
      refine ⟨.int .u8 c.toNat, .c (.int _ _), fun w' _ => ?_⟩
      have hlt : n.toNat < bs.size := by have := (List.getElem?_eq_some_iff.1 hc).1; simpa using this
      have hg : bs[n.toNat]'hlt = c := by
        have h2 := (List.getElem?_eq_some_iff.1 hc).2
        rw [← h2]
        simp
        rfl
      unfold execOp
      simp only [ho, hb, hi1.int_inv]
      have hq : bs[n.toNat]? = some c := by rw [getElem?_pos bs n.toNat hlt, hg]
      simp [Instr.index, asIntOf, run_underlying hd.und, h0, hq]
    · cases hv
  · cases hv
theorem qbew (hT : T.ok P) (hr : ERel g m w t a) {o : Oper} {s : TypeId} {x ix : Operand} {x' i' : Opd} {v : AV} (ho : o.op = .index s x ix) {si : TI} {n se : Nat} {ei : TI} (hsi : T s = some si) (htd : si.td = .arr n se) (hei : T se = some ei) (hx : cOpd x = some x') (hi : cOpd ix = some i')
    (hv : qa t m (.ixa ei.agg n ei.sz x' i') = some v) : qc4 P g m w a o v := by
  obtain ⟨i, d, hd⟩ := hT.facts hsi
  obtain ⟨j, d2, hd2⟩ := hT.facts hei
  have htd' := hd.td
  rw [htd] at htd'
  cases d <;> simp [TDof] at htd'
  obtain ⟨rfl, rfl⟩ := htd'
  simp only [qa, vixa] at hv
  have hi1 := qe hr hi
  split at hv
  · rename_i kk k he
    split at hv
    · rename_i hcond
      rw [he] at hi1
      obtain ⟨cs, cv, h2, h3, h4⟩ := qzd (P := P) (qe hr hx) hv hd2 rfl rfl
      refine ⟨cv, h3, fun w' _ => ?_⟩
      unfold execOp
      simp only [ho, h2, hi1.int_inv]
      have hsz := hd2.sizeOf (P := P) w'
      simp [Instr.index, asIntOf, run_underlying hd.und, hcond.1, hcond.2, hsz, h4 w']
    · cases hv
  · cases hv
theorem qbex (hr : ERel g m w t a) {o : Oper} {x : Operand} {i : Nat} {so v} (ho : o.op = .extract x i) (hc : cOp T o.op = some so) (hv : qa t m so = some v) : qc4 P g m w a o v := by
  rw [ho] at hc
  simp only [cOp, Option.bind_eq_bind, Option.bind_eq_some_iff, Option.some.injEq] at hc
  obtain ⟨x', h1, rfl⟩ := hc
  simp only [qa, vext] at hv
  have hx := qe hr h1
  split at hv
  · rename_i l he
    rw [he] at hx
    obtain ⟨vs, hpv, hs, hh⟩ : ∃ vs, a.eval x = .tuple vs ∧ vs.size = l.length ∧ ∀ (k : Nat) (x : AV) (v : Value), l[k]? = some x → vs[k]? = some v → VRel g m w x v := by
      generalize hpv : a.eval x = pv at hx
      cases hx with
      | c h => cases h with
        | tup _ vs hs hh => exact ⟨vs, rfl, hs, fun k x v h1 h2 => .c (hh k x v h1 h2)⟩
      | tup _ vs hs hh => exact ⟨vs, rfl, hs, hh⟩
    have hlt : i < vs.size := by rw [hs]; exact (List.getElem?_eq_some_iff.1 hv).1
    refine ⟨vs[i], hh i v _ hv (by simp [hlt]), fun w' _ => ?_⟩
    unfold execOp
    simp only [ho, hpv]
    simp [Instr.extract, hlt]
  · cases hv
theorem qbbt (hT : T.ok P) (hr : ERel g m w t a) {o : Oper} {x : Operand} {xt : TypeId} {x' : Opd} {v : AV} {c : Call} (ho : o.op = .call c) (hb : c.callee = .builtin .len) (hargs : c.args.toList = [x]) (hty : c.argTypes.toList = [xt]) {xi : TI} (hxi : T xt = some xi) (str : Bool) (htd : if str then xi.td = .str else ∃ e, xi.td = .slice e) (hx : cOpd x = some x')
    (hv : qa t m (.len str x') = some v) : qc4 P g m w a o v := by
  obtain ⟨i, d, hd⟩ := hT.facts hxi
  have htd' := hd.td
  have hargs' : c.args = #[x] := by rw [← Array.toList_inj]; exact hargs
  have hty' : c.argTypes = #[xt] := by rw [← Array.toList_inj]; exact hty
  simp only [qa] at hv
  have hx1 := qe hr hx
  have run : ∀ pv n, a.eval x = pv → (if str then ∃ b : ByteArray, pv = .string b ∧ b.size = n else ∃ sa cc, pv = .slice sa n cc) → ∀ w', (execOp a.eval o).run P w' = .ok (.value (.int .i64 n)) w' := by
    intro pv n hpv hc w'
    unfold execOp
    simp only [ho]
    cases str
    · simp only [Bool.false_eq_true, if_false] at hc htd
      obtain ⟨sa, cc, rfl⟩ := hc
      obtain ⟨e, htd⟩ := htd
      rw [htd] at htd'
      cases d <;> simp [TDof] at htd'
      simp [resolve, hb, hargs', hty', invoke, builtin, Builtin.len_, run_underlying hd.und, hpv, goInt]
    · simp only [if_true] at hc htd
      obtain ⟨b, rfl, rfl⟩ := hc
      rw [htd] at htd'
      cases d <;> simp [TDof] at htd'
      simp [resolve, hb, hargs', hty', invoke, builtin, Builtin.len_, run_underlying hd.und, hpv, goInt]
  generalize hpv : a.eval x = pv at hx1
  unfold vlen at hv
  split at hv <;> first | (cases hv; done) | (split at hv <;> first | (cases hv; done) | skip)
  · rename_i l he hs
    simp at hv; subst hv
    rw [he] at hx1
    obtain ⟨b, rfl, rfl⟩ := hx1.str_inv
    exact ⟨_, .c (.int _ _), fun w' _ => run _ _ hpv (by simp [hs]) w'⟩
  · rename_i he hs
    simp at hv; subst hv
    rw [he] at hx1
    cases hx1 with
    | c h => cases h; exact ⟨_, .c (.int _ _), fun w' _ => by simpa using run _ 0 hpv (by simp [hs]) w'⟩
  · rename_i e xs he hs
    simp at hv; subst hv
    rw [he] at hx1
    cases hx1 with
    | c h => cases h; exact ⟨_, .c (.int _ _), fun w' _ => run _ _ hpv (by simp [hs]) w'⟩
  · rename_i r n he hs
    simp at hv; subst hv
    rw [he] at hx1
    cases hx1 with
    | c h => cases h
    | own => exact ⟨_, .c (.int _ _), fun w' _ => run _ _ hpv (by simp [hs]) w'⟩
theorem q33 (mx : Bool) (w' : World) : ∀ (ys : List AV) (vs : List Value) (x : AV) (v : Value) (y : AV), VRel g m w x v → vs.length = ys.length → (∀ (k : Nat) (y : AV) (v : Value), ys[k]? = some y → vs[k]? = some v → VRel g m w y v) → vmm mx x ys = some y →
    ∃ cv, VRel g m w y cv ∧ (vs.foldlM (if mx then Builtin.max2 else Builtin.min2) v).run P w' = .ok cv w'
  | [], [], x, v, y, hx, _, _, h => by
    simp only [vmm] at h
    split at h
    · simp at h; subst h
      exact ⟨v, hx, by simp⟩
    · cases h
  | y1 :: ys, [], _, _, _, _, hl, _, _ => by simp at hl
  | [], v1 :: vs, _, _, _, _, hl, _, _ => by simp at hl
  | y1 :: ys, v1 :: vs, x, v, y, hx, hl, hh, h => by
    simp only [vmm] at h
    split at h
    · rename_i z hz
      have hv1 := hh 0 y1 v1 rfl rfl
      have hstep : ∃ u, VRel g m w z u ∧ ((if mx then Builtin.max2 else Builtin.min2) v v1).run P w' = .ok u w' := by
        unfold vmm1 at hz
        split at hz
        · rename_i k p k' q
          split at hz
          · simp at hz; subst hz
            rw [hx.int_inv, hv1.int_inv]
            cases mx
            · exact ⟨_, .c (.int _ _), by simp [Builtin.min2]⟩
            · exact ⟨_, .c (.int _ _), by simp [Builtin.max2]⟩
          · cases hz
        · cases hz
      obtain ⟨u, hu, hrun⟩ := hstep
      obtain ⟨cv, h1, h2⟩ := q33 mx w' ys vs z u y hu (by simpa using hl) (fun k y v hy hv => hh (k + 1) y v hy hv) h
      exact ⟨cv, h1, by simp [List.foldlM_cons, hrun, h2]⟩
    · cases h
theorem p_mm (hr : ERel g m w t a) {o : Oper} {x : Operand} {xs : List Operand} {x' : Opd} {xs' : List Opd} {v : AV} {c : Call} (mx : Bool) (ho : o.op = .call c) (hb : c.callee = .builtin (if mx then .max else .min)) (hargs : c.args.toList = x :: xs) (hx : cOpd x = some x') (hxs : xs.mapM cOpd = some xs')
    (hv : qa t m (.mm mx x' xs') = some v) : qc4 P g m w a o v := by
  simp only [qa] at hv
  obtain ⟨h1, h2⟩ := qbx cOpd _ _ hxs
  have hall := fun w' => q33 (P := P) (g := g) (m := m) (w := w) mx w' (evs t xs') (xs.map a.eval) (ev t x') (a.eval x) v (qe hr hx) (by simp [evs, h1]) (fun k y v hy hv => by
    simp only [evs, List.getElem?_map, Option.map_eq_some_iff] at hy hv
    obtain ⟨o1, ho1, rfl⟩ := hy
    obtain ⟨x1, hx1, rfl⟩ := hv
    exact qe hr (h2 k x1 o1 hx1 ho1)) hv
  obtain ⟨cv, hcv, _⟩ := hall w
  have hint : ∃ k n, v = .int k n := by
    have gen : ∀ (ys : List AV) (x : AV), vmm mx x ys = some v → ∃ k n, v = .int k n := by
      intro ys
      induction ys with
      | nil => intro x h; simp only [vmm] at h; split at h <;> simp at h; exact ⟨_, _, h.symm⟩
      | cons y ys ih => intro x h; simp only [vmm] at h; split at h; exact ih _ h; cases h
    exact gen _ _ hv
  obtain ⟨k, n, rfl⟩ := hint
  refine ⟨.int k n, .c (.int _ _), fun w' _ => ?_⟩
  obtain ⟨cv', hcv', hrun⟩ := hall w'
  rw [hcv'.int_inv] at hrun
  have hargs2 : c.args.map a.eval = (a.eval x :: xs.map a.eval).toArray := by
    rw [← Array.toList_inj]; simp [hargs]
  unfold execOp
  simp only [ho]
  cases mx
  · simp only [Bool.false_eq_true, if_false] at hb hrun
    simp [resolve, hb, invoke, builtin, Builtin.min_, hargs2, hrun]
  · simp only [if_true] at hb hrun
    simp [resolve, hb, invoke, builtin, Builtin.max_, hargs2, hrun]
theorem qbey (hr : ERel g m w t a) {o : Oper} {f : FuncId} {first caps : Array Operand} {so v} (ho : o.op = .makeFunc (.func f) first caps) (hc : cOp T o.op = some so) (hv : qa t m so = some v) : qc4 P g m w a o v := by
  rw [ho] at hc
  simp only [cOp] at hc
  split at hc
  · rename_i hf
    simp only [Option.bind_eq_bind, Option.bind_eq_some_iff, Option.some.injEq] at hc
    obtain ⟨cs, h1, rfl⟩ := hc
    simp only [qa, vmkf] at hv
    split at hv
    · rename_i hall
      simp at hv; subst hv
      obtain ⟨h2, h3⟩ := q00 hr h1
      refine ⟨.func (.func f) #[] (caps.map a.eval), .func f _ _ (fun x hx => List.all_eq_true.1 hall x hx) h2 h3, fun w' _ => ?_⟩
      have hfe : first = #[] := by simpa using hf
      unfold execOp
      simp only [ho]
      simp [Instr.makeFunc, hfe]
    · split at hv
      · rename_i hall
        simp at hv; subst hv
        obtain ⟨h2, h3⟩ := q00 hr h1
        refine ⟨.func (.func f) #[] (caps.map a.eval), .c (.fv _ _ hall (.func f _ _ (fun x hx => ?_) h2 (fun k x v hx hv => ?_))), fun w' _ => ?_⟩
        · have := List.all_eq_true.1 hall x hx
          cases x <;> first | rfl | (cases this)
        · have hc := List.all_eq_true.1 hall x (List.mem_of_getElem? hx)
          have hv' := h3 k x v hx hv
          cases x <;> first | (cases hc; done) | skip
          cases hv' with
          | c h => exact h
        · have hfe : first = #[] := by simpa using hf
          unfold execOp
          simp only [ho]
          simp [Instr.makeFunc, hfe]
      · cases hv
  · cases hc
theorem q1j {x : AV} {v : Value} {d mx n : Nat} (hx : VRel g m w x v) (h : bnd (some x) d mx = some n) :
    n ≤ mx ∧ ∀ cap, mx ≤ cap → ∀ code w', (Instr.sliceBound v cap code).run P w' = .ok n w' := by
  simp only [bnd] at h
  split at h
  · rename_i he; cases he
  · rename_i k i he
    simp at he; subst he
    split at h
    · rename_i hc
      simp at h; subst h
      have := hx.int_inv
      subst this
      refine ⟨by omega, fun cap hcap code w' => ?_⟩
      have h1 : i ≤ cap := by omega
      simp [Instr.sliceBound, asIntOf, hc.1, h1]
    · cases h
  · cases h
theorem qly (hr : ERel g m w t a) {x : Option Operand} {y : Option Opd} (h : cOpt x = some y) : (y.map (ev t)).isSome = (x.map a.eval).isSome ∧ ∀ u v, y.map (ev t) = some u → x.map a.eval = some v → VRel g m w u v := by
  cases x with
  | none => simp [cOpt] at h; subst h; simp
  | some x =>
    simp only [cOpt] at h
    obtain ⟨z, h1, rfl⟩ := Option.map_eq_some_iff.1 h
    refine ⟨rfl, fun u v hu hv => ?_⟩
    simp at hu hv
    subst hu; subst hv
    exact qe hr h1
theorem qol {α : Type} {l r : List α} {lo hi : Option AV} {clo chi : Option Value} (hlo : lo.isSome = clo.isSome) (hlor : ∀ x v, lo = some x → clo = some v → VRel g m w x v) (hhi : hi.isSome = chi.isSome) (hhir : ∀ x v, hi = some x → chi = some v → VRel g m w x v)
    (h : cut l lo hi = some r) (isSlice : Bool) (cap : Nat) (hcap : isSlice = false → cap = l.length) (hcl : l.length ≤ cap) :
    ∃ k n, k ≤ n ∧ n ≤ l.length ∧ r = (l.take n).drop k ∧ ∀ w', (Instr.sliceBounds isSlice l.length cap clo chi none).run P w' = .ok (k, n, cap) w' := by
  unfold cut at h
  split at h
  · rename_i n hn
    split at h
    · rename_i k hk
      simp at h; subst h
      have hnle : n ≤ l.length := by
        unfold bnd at hn
        split at hn
        · simp at hn; omega
        · split at hn <;> simp at hn; omega
        · cases hn
      have hkn : k ≤ n := by
        unfold bnd at hk
        split at hk
        · simp at hk; omega
        · split at hk <;> simp at hk; omega
        · cases hk
      refine ⟨k, n, hkn, hnle, rfl, fun w' => ?_⟩
      have hH : (∃ v, chi = some v ∧ ∀ code, (Instr.sliceBound v cap code).run P w' = .ok n w') ∨ (chi = none ∧ n = l.length) := by
        cases hi with
        | none => cases chi with
          | none => simp [bnd] at hn; exact .inr ⟨rfl, hn.symm⟩
          | some v => simp at hhi
        | some x => cases chi with
          | none => simp at hhi
          | some v => exact .inl ⟨v, rfl, fun code => (q1j (P := P) (hhir x v rfl rfl) hn).2 cap hcl code w'⟩
      have hL : (∃ v, clo = some v ∧ ∀ code, (Instr.sliceBound v n code).run P w' = .ok k w') ∨ (clo = none ∧ k = 0) := by
        cases lo with
        | none => cases clo with
          | none => simp [bnd] at hk; exact .inr ⟨rfl, hk.symm⟩
          | some v => simp at hlo
        | some x => cases clo with
          | none => simp at hlo
          | some v => exact .inl ⟨v, rfl, fun code => (q1j (P := P) (hlor x v rfl rfl) hk).2 n (Nat.le_refl _) code w'⟩
      rcases hH with ⟨v, rfl, hv⟩ | ⟨rfl, rfl⟩ <;> rcases hL with ⟨u, rfl, hu⟩ | ⟨rfl, rfl⟩ <;> simp [Instr.sliceBounds, *]
    · cases h
  · cases h
theorem qbdo (hT : T.ok P) (hr : ERel g m w t a) {o : Oper} {s : TypeId} {x : Operand} {lo hi : Option Operand} {x' : Opd} {lo' hi' : Option Opd} {v : AV} (ho : o.op = .slice s x lo hi none) {si : TI} (hsi : T s = some si) (htd : si.td = .str) (hx : cOpd x = some x') (hlo : cOpt lo = some lo') (hhi : cOpt hi = some hi')
    (hv : qa t m (.slcs x' lo' hi') = some v) : qc4 P g m w a o v := by
  obtain ⟨i, d, hd⟩ := hT.facts hsi
  have htd' := hd.td
  rw [htd] at htd'
  cases d <;> simp [TDof] at htd'
  simp only [qa] at hv
  have hx1 := qe hr hx
  split at hv
  · rename_i l he
    obtain ⟨r, hc, rfl⟩ := Option.map_eq_some_iff.1 hv
    rw [he] at hx1
    obtain ⟨b, hb, rfl⟩ := hx1.str_inv
    obtain ⟨h1, h2⟩ := qly hr hlo
    obtain ⟨h3, h4⟩ := qly hr hhi
    obtain ⟨k, n, hkn, hnl, rfl, hrun⟩ := qol (P := P) h1 h2 h3 h4 hc false b.size (fun _ => by simp) (by simp)
    have hd2 : (b.extract k n).data.toList = (b.data.toList.take n).drop k := by
      simp [ByteArray.data_extract, List.extract_eq_take_drop, List.drop_take]
    refine ⟨.string (b.extract k n), by rw [← hd2]; exact .c (.str _), fun w' _ => ?_⟩
    have hl : b.data.toList.length = b.size := by simp
    have hrun' := hrun w'
    rw [hl] at hrun'
    unfold execOp
    simp only [ho, hb]
    simp [Instr.sliceAt, Instr.slice, run_underlying hd.und, hrun']
  · cases hv
end
end Go.Pev
/- Conversions and '=='; all operations that read and compute alone, together. -/
namespace Go.Pev
open Go
set_option linter.unusedVariables false
set_option linter.unusedSimpArgs false
section
variable {g : Gh} {m : Mem} {w : World} {t : Env} {a : Act} {P : Program} {T : Tab}
theorem qu5 : ∀ (xs : List AV) (bs : List UInt8), qb2 xs = some bs → ∃ ns : List Int, xs = ns.map (AV.int .u8) ∧ bs = ns.map fun n => UInt8.ofNat n.toNat
  | [], bs, h => by simp [qb2] at h; exact ⟨[], rfl, by simp [h]⟩
  | x :: xs, bs, h => by
    simp only [qb2] at h
    split at h
    · rename_i b r hb hr
      simp at h; subst h
      unfold byteOf at hb
      split at hb
      · rename_i n
        simp at hb; subst hb
        obtain ⟨ns, rfl, rfl⟩ := qu5 xs r hr
        exact ⟨n :: ns, rfl, rfl⟩
      · cases hb
    · cases h
theorem qbdp (hT : T.ok P) (hok : OK1 g m w) (hr : ERel g m w t a) {o : Oper} {sT dT : TypeId} {x : Operand} {so v} (ho : o.op = .convert sT dT x) (hc : cOp T o.op = some so) (hv : qa t m so = some v) : qc4 P g m w a o v := by
  rw [ho] at hc
  simp only [cOp, Option.bind_eq_bind, Option.bind_eq_some_iff] at hc
  obtain ⟨si, hsi, di, hdi, hc⟩ := hc
  obtain ⟨i, d, hd⟩ := hT.facts hsi
  obtain ⟨j, d2, hd2⟩ := hT.facts hdi
  have htd := hd.td
  have htd2 := hd2.td
  split at hc
  · rename_i k1 k he1 he2
    simp only [Option.bind_eq_some_iff, Option.some.injEq] at hc
    obtain ⟨x', h1, rfl⟩ := hc
    rw [he1] at htd
    rw [he2] at htd2
    cases d <;> simp [TDof] at htd
    cases d2 <;> simp [TDof] at htd2
    subst htd2
    simp only [qa, qza] at hv
    have hx := qe hr h1
    split at hv <;> simp_all
    rename_i k2 n _ _
    subst hv
    have := hx.int_inv
    refine ⟨.int _ _, .c (.int _ _), fun w' _ => ?_⟩
    unfold execOp
    simp only [ho, this]
    simp [convert, run_underlying hd.und, run_underlying hd2.und, Conv.intToInt]
  · rename_i he1 he2
    simp only [Option.bind_eq_some_iff, Option.some.injEq] at hc
    obtain ⟨x', h1, rfl⟩ := hc
    rw [he1] at htd
    rw [he2] at htd2
    cases d <;> simp [TDof] at htd
    cases d2 <;> simp [TDof] at htd2
    simp only [qa, qza] at hv
    have hx := qe hr h1
    split at hv <;> simp_all
    rename_i s _ _
    subst hv
    obtain ⟨b, hb, rfl⟩ := hx.str_inv
    refine ⟨.string b, .c (.str _), fun w' _ => ?_⟩
    unfold execOp
    simp only [ho, hb]
    simp [convert, run_underlying hd.und, run_underlying hd2.und]
  · rename_i e he1 he2
    simp only [Option.bind_eq_some_iff] at hc
    obtain ⟨ei, hei, hc⟩ := hc
    split at hc
    · rename_i hu8
      simp only [Option.bind_eq_some_iff, Option.some.injEq] at hc
      obtain ⟨x', h1, rfl⟩ := hc
      obtain ⟨j3, d3, hd3⟩ := hT.facts hei
      have htd3 := hd3.td
      rw [he1] at htd
      rw [he2] at htd2
      rw [hu8] at htd3
      cases d <;> simp [TDof] at htd
      cases d2 <;> simp [TDof] at htd2
      cases d3 <;> simp [TDof] at htd3
      subst htd
      subst htd3
      simp only [qa, qza] at hv
      have hx := qe hr h1
      · split at hv
        · rename_i xs hxs
          obtain ⟨bs, hbs, rfl⟩ := Option.map_eq_some_iff.1 hv
          obtain ⟨ns, rfl, rfl⟩ := qu5 xs bs hbs
          obtain ⟨sa, c, e', b, of, hp, _, ha, hel, _⟩ := q78 hok hx hxs
          rcases ha with ha | ha
          · have : ns = [] := by simpa using ha
            subst this
            refine ⟨.string ByteArray.empty, ?_, fun w' _ => ?_⟩
            · exact .c (CRel.str ByteArray.empty)
            · unfold execOp
              simp only [ho, hp]
              cases sa with
              | none => simp [convert, run_underlying hd.und, run_underlying hd2.und, run_underlying hd3.und, Conv.bytesToString]
              | some ad =>
                simp [convert, run_underlying hd.und, run_underlying hd2.und, run_underlying hd3.und, Conv.bytesToString, loadCells, loadCellsFrom]
          · subst ha
            have hcell : ∀ i, i < ns.length → w.cell? ⟨b, of + i, none⟩ = some (.int .u8 (ns.getD i 0)) := by
              intro i hi
              have hxi : (ns.map (AV.int .u8))[i]? = some (.int .u8 ns[i]) := by simp [hi]
              obtain ⟨h5, h6, h7⟩ := hel
              have he1' : e' = 1 := by have := h5 i _ hxi; simp [AV.cells] at this; omega
              obtain ⟨v, hv1, hv2⟩ := h7 i _ 0 (.int .u8 ns[i]) hxi rfl
              subst he1'
              cases hv2
              simp only [Nat.mul_one, Nat.add_zero] at hv1
              rw [hv1]
              simp [List.getD, hi]
            refine ⟨.string (strOfNums ns), ?_, fun w' hw => ?_⟩
            · rw [← strOfNums_data]; exact .c (.str _)
            · unfold execOp
              simp only [ho, hp]
              have := run_convert_bytes_arg (P := P) w' sT e hd.und hd3.und b of (ns.map (AV.int .u8)).length c ns (by simp) (fun i hi => hw.cell (hcell i (by simpa using hi))) dT hd2.und
              simp only [List.length_map] at this
              simp [this]
        · cases hv
    · cases hc
  · cases hc
theorem qra : ∀ (k1 k2 : List EK) (xs ys : List AV) (r : Bool), qbg (k1 ++ k2) xs ys = some r →
    ∃ r1 r2, qbg k1 (xs.take k1.length) (ys.take k1.length) = some r1 ∧ qbg k2 (xs.drop k1.length) (ys.drop k1.length) = some r2 ∧ r = (r1 && r2) ∧ k1.length ≤ xs.length ∧ k1.length ≤ ys.length
  | [], k2, xs, ys, r, h => ⟨true, r, by simp [qbg], by simpa using h, by simp, by simp, by simp⟩
  | k :: k1, k2, [], ys, r, h => by simp [qbg] at h
  | k :: k1, k2, x :: xs, [], r, h => by simp [qbg] at h
  | k :: k1, k2, x :: xs, y :: ys, r, h => by
    simp only [List.cons_append, qbg] at h
    split at h
    · rename_i p q h1 h2
      simp at h; subst h
      obtain ⟨r1, r2, h3, h4, rfl, h5, h6⟩ := qra k1 k2 xs ys q h2
      exact ⟨p && r1, r2, by simp [qbg, h1, h3], by simpa using h4, by simp [Bool.and_assoc], by simp; omega, by simp; omega⟩
    · cases h
def VT (g : Gh) (m : Mem) (w : World) (agg : Bool) (X : List AV) (A : Value) : Prop :=
  if agg then ∃ arr, A = .agg arr ∧ arr.size = X.length ∧ ∀ (k : Nat) (x : AV) (v : Value), X[k]? = some x → arr[k]? = some v → VRel g m w x v
  else ∃ x, X = [x] ∧ VRel g m w x A
def EKd (k : EK) (d : TypeDesc) : Prop :=
  match k with
  | .b => d = .bool
  | .i kk => d = .int kk
  | .s => d = .string
theorem q7b {k : EK} {x y : AV} {A B : Value} {r : Bool} (hA : VRel g m w x A) (hB : VRel g m w y B) (h : qoh k x y = some r) {ty : TypeId} {d : TypeDesc} (hu : P.underlying ty = some d)
    (hk : EKd k d) (n : Nat) (w' : World) : (Op.equalIn (n + 1) ty A B).run P w' = .ok r w' := by
  unfold qoh at h
  split at h
  · simp at h; subst h
    rw [hA.bool_inv, hB.bool_inv]
    obtain rfl : d = .bool := hk
    exact run_equalIn_bool' (P := P) w' n ty _ _ hu
  · split at h
    · rename_i hkk
      simp at h; subst h
      rw [hA.int_inv, hB.int_inv]
      obtain rfl : d = .int _ := hk
      rw [hkk.1, hkk.2]
      exact run_equalIn_int (P := P) w' n ty _ _ _ _ hu
    · cases h
  · simp at h; subst h
    obtain ⟨b1, rfl, rfl⟩ := hA.str_inv
    obtain ⟨b2, rfl, rfl⟩ := hB.str_inv
    obtain rfl : d = .string := hk
    rw [run_equalIn_string (P := P) w' n ty b1 b2 hu]
    simp [qme]
  · cases h
theorem qsn (hT : T.ok P) : ∀ (n : Nat) (ty : TypeId) (ks : List EK) (ti : TI), qbu T n ty = some ks → T ty = some ti → ks.length = ti.sz ∧
    ∀ d, n ≤ d → ∀ (X Y : List AV) (A B : Value) (r : Bool), VT g m w ti.agg X A → VT g m w ti.agg Y B → qbg ks X Y = some r → ∀ w', (Op.equalIn d ty A B).run P w' = .ok r w'
  | 0, ty, ks, ti, h, _ => by simp [qbu] at h
  | n + 1, ty, ks, ti, h, hti => by
    simp only [qbu, hti] at h
    obtain ⟨i, dd, hd⟩ := hT.facts hti
    have htd := hd.td
    have leafcase : ∀ k : EK, ti.agg = false → ti.sz = 1 → EKd k dd → ks = [k] →
        ks.length = ti.sz ∧ ∀ d, n + 1 ≤ d → ∀ (X Y : List AV) (A B : Value) (r : Bool), VT g m w ti.agg X A → VT g m w ti.agg Y B → qbg ks X Y = some r → ∀ w', (Op.equalIn d ty A B).run P w' = .ok r w' := by
      intro k hagg hsz hk hks
      subst hks
      refine ⟨by simp [hsz], fun d hdn X Y A B r hA hB he w' => ?_⟩
      obtain ⟨d, rfl⟩ : ∃ d', d = d' + 1 := ⟨d - 1, by omega⟩
      simp only [hagg, VT, Bool.false_eq_true, if_false] at hA hB
      obtain ⟨x, rfl, hA⟩ := hA
      obtain ⟨y, rfl, hB⟩ := hB
      simp only [qbg] at he
      split at he
      · rename_i p q h1 h2
        simp at h2; subst h2
        simp at he; subst he
        exact q7b hA hB h1 hd.und hk d w'
      · cases he
    split at h
    · rename_i hb
      split at h
      · cases h
      · rename_i hc
        simp at hc h
        rw [hb] at htd
        cases dd <;> simp [TDof] at htd
        exact leafcase .b hc.1 hc.2 rfl h.symm
    · rename_i k hb
      split at h
      · cases h
      · rename_i hc
        simp at hc h
        rw [hb] at htd
        cases dd <;> simp [TDof] at htd
        subst htd
        exact leafcase (.i k) hc.1 hc.2 rfl h.symm
    · rename_i hb
      split at h
      · cases h
      · rename_i hc
        simp at hc h
        rw [hb] at htd
        cases dd <;> simp [TDof] at htd
        exact leafcase .s hc.1 hc.2 rfl h.symm
    · rename_i fsl hb
      split at h
      · cases h
      · rename_i hc
        split at h
        · rename_i l hl
          split at h
          · rename_i hlen
            simp at h; subst h
            rw [hb] at htd
            cases dd <;> simp [TDof] at htd
            rename_i fs
            subst htd
            refine ⟨hlen, fun d hdn X Y A B r hA hB he w' => ?_⟩
            obtain ⟨d, rfl⟩ : ∃ d', d = d' + 1 := ⟨d - 1, by omega⟩
            have hagg : ti.agg = true := by rw [hd.agg]; rfl
            simp only [hagg, VT, if_true] at hA hB
            obtain ⟨arr, rfl, hsA, hA⟩ := hA
            obtain ⟨brr, rfl, hsB, hB⟩ := hB
            have hfo : P.fieldsOf ty = fs := by simp [Program.fieldsOf, hd.und]
            have hheld : P.stoodInHeld ty = false := by rw [← hd.held]; simp at hc; exact hc.1
            rw [run_equalIn_struct (P := P) w' d ty arr brr (by rw [hfo]; exact hd.und) hheld, hfo]
            -- field by field
            have gen : ∀ (l : List Field) (off : Nat) (ks : List EK) (r : Bool), qj2 (qbu T n) off (l.map fun f => (f.offset, f.type, f.name == "_")) = some ks → qbg ks (X.drop off) (Y.drop off) = some r →
                (Op.eqFields d arr brr l).run P w' = .ok r w' := by
              intro l
              induction l with
              | nil =>
                intro off ks r hk he
                simp [qj2] at hk
                subst hk
                have : r = true := by
                  generalize X.drop off = p at he
                  generalize Y.drop off = q at he
                  cases p <;> cases q <;> simp [qbg] at he
                  first | exact he | exact he.symm
                subst this
                simp [Op.eqFields]
              | cons f l ih =>
                intro off ks r hk he
                simp only [List.map_cons, qj2] at hk
                split at hk
                · cases hk
                · rename_i hno
                  have hno1 : f.name ≠ "_" := by intro hh; exact hno (.inl (by simp [hh]))
                  have hno2 : f.offset = off := Decidable.byContradiction fun hh => hno (.inr hh)
                  split at hk
                  · rename_i kt hkt
                    split at hk
                    · rename_i kr hkr
                      simp at hk; subst hk
                      obtain ⟨r1, r2, he1, he2, rfl, hle1, hle2⟩ := qra kt kr _ _ _ he
                      obtain ⟨fi, hfi⟩ : ∃ fi, T f.type = some fi := by
                        cases n with
                        | zero => simp [qbu] at hkt
                        | succ n =>
                          simp only [qbu] at hkt
                          split at hkt
                          · rename_i fi hfi; exact ⟨fi, hfi⟩
                          · cases hkt
                      obtain ⟨hktl, hrec⟩ := qsn hT n f.type kt fi hkt hfi
                      obtain ⟨j, df, hdf⟩ := hT.facts hfi
                      have hpart : ∀ (Z : List AV) (zr : Array Value), zr.size = Z.length → (∀ (k : Nat) (x : AV) (v : Value), Z[k]? = some x → zr[k]? = some v → VRel g m w x v) → kt.length ≤ (Z.drop off).length → (fi.agg = false → kt.length = 1) →
                          ∃ C, (part f.type zr off).run P w' = .ok C w' ∧ VT g m w fi.agg ((Z.drop off).take kt.length) C := by
                        intro Z zr hs hz hle h1
                        cases hfa : fi.agg with
                        | true =>
                          refine ⟨.agg (zr.extract off (off + fi.sz)), by simp [part, hdf.isAgg w', hfa, hdf.sizeOf w'], ?_⟩
                          simp only [VT, if_true]
                          refine ⟨_, rfl, ?_, fun k x v hx hv => ?_⟩
                          · simp at hle ⊢; omega
                          · rw [List.getElem?_take] at hx
                            split at hx
                            · rw [List.getElem?_drop] at hx
                              rw [Array.getElem?_extract] at hv
                              split at hv
                              · exact hz _ x v hx hv
                              · cases hv
                            · cases hx
                        | false =>
                          have hone := h1 hfa
                          have hlt : off < zr.size := by simp at hle; omega
                          have hltZ : off < Z.length := by omega
                          refine ⟨zr[off], by simp [part, hdf.isAgg w', hfa, hlt], ?_⟩
                          simp only [VT, Bool.false_eq_true, if_false]
                          refine ⟨Z[off], ?_, hz off _ _ (by simp [hltZ]) (by simp [hlt])⟩
                          rw [hone, List.drop_eq_getElem_cons hltZ]
                          rfl
                      have hone : fi.agg = false → kt.length = 1 := by
                        intro hfa
                        cases n with
                        | zero => simp [qbu] at hkt
                        | succ n =>
                          simp only [qbu, hfi] at hkt
                          have hdfa := hdf.agg
                          have hdft := hdf.td
                          split at hkt
                          · split at hkt <;> simp at hkt; subst hkt; rfl
                          · split at hkt <;> simp at hkt; subst hkt; rfl
                          · split at hkt <;> simp at hkt; subst hkt; rfl
                          · rename_i hq
                            rw [hq] at hdft
                            cases df <;> simp [TDof] at hdft
                            rw [hfa] at hdfa
                            simp [qma] at hdfa
                          · cases hkt
                      obtain ⟨C, hC1, hC2⟩ := hpart X arr hsA hA hle1 hone
                      obtain ⟨D, hD1, hD2⟩ := hpart Y brr hsB hB hle2 hone
                      have hrun := hrec d (by omega) _ _ C D r1 hC2 hD2 he1 w'
                      have hrest := ih (off + kt.length) kr r2 hkr (by rw [← List.drop_drop, ← List.drop_drop]; exact he2)
                      simp only [Op.eqFields, if_pos hno1, Sem.run_bind, hno2, hC1, hD1, Result.andThen_ok, hrun]
                      cases r1
                      · simp
                      · simp [hrest]
                    · cases hk
                  · cases hk
            exact gen fs.toList 0 l r hl (by simpa using he)
          · cases h
        · cases h
    · cases h
theorem qbdq (hT : T.ok P) (n : Nat) (ty : TypeId) (ks : List EK) (ti : TI) (hk : qbu T (n + 1) ty = some ks) (hti : T ty = some ti) (hagg : ti.agg = true) : ti.eqg = false := by
  obtain ⟨i, d, hd⟩ := hT.facts hti
  have h1 := hd.td
  have h2 := hd.agg
  rw [hagg] at h2
  simp only [qbu, hti] at hk
  cases htd : ti.td with
  | struct fs =>
    simp only [htd] at hk
    by_cases hc : ti.held = true ∨ ti.eqg = true
    · rw [if_pos hc] at hk; cases hk
    · exact Bool.eq_false_iff.2 fun h => hc (.inr h)
  | bool => rw [htd] at h1; cases d <;> simp [TDof] at h1; simp [qma] at h2
  | int k => rw [htd] at h1; cases d <;> simp [TDof] at h1; simp [qma] at h2
  | str => rw [htd] at h1; cases d <;> simp [TDof] at h1; simp [qma] at h2
  | _ => simp [htd] at hk
theorem p_eq (hT : T.ok P) (hr : ERel g m w t a) {o : Oper} {neg : Bool} {ty ty' : TypeId} {x y : Operand} {x' y' : Opd} {ks : List EK} {ti : TI} {v : AV} (ho : o.op = .binOp (if neg then .neq else .eql) ty x y ty') (hti : T ty = some ti) (hni : (∀ k, ti.td ≠ .int k) ∧ ti.td ≠ .str) (hk : qbu T 20 ty = some ks) (hx : cOpd x = some x') (hy : cOpd y = some y')
    (hv : qa t m (.eq neg ti.agg ks x' y') = some v) : qc4 P g m w a o v := by
  simp only [qa] at hv
  obtain ⟨r, hq, rfl⟩ := Option.map_eq_some_iff.1 hv
  have h1 := qe hr hx
  have h2 := qe hr hy
  obtain ⟨hlk, hrec⟩ := qsn (g := g) (m := m) (w := w) hT 20 ty ks ti hk hti
  obtain ⟨i, d, hd⟩ := hT.facts hti
  -- the values' own form
  have hform : ∃ X Y, VT g m w ti.agg X (a.eval x) ∧ VT g m w ti.agg Y (a.eval y) ∧ qbg ks X Y = some r ∧ (ti.agg = true → ∃ p q, a.eval x = .agg p ∧ a.eval y = .agg q) ∧ (ti.agg = false → (∃ p q, a.eval x = .bool p ∧ a.eval y = .bool q) ∨ (∃ k, ti.td = .int k) ∨ ti.td = .str) := by
    unfold eqv at hq
    split at hq
    · rename_i xs ys he1 he2
      split at hq
      · rename_i hagg
        rw [he1] at h1
        rw [he2] at h2
        have inv : ∀ (l : List AV) (A : Value), VRel g m w (.agg l) A → ∃ arr, A = .agg arr ∧ arr.size = l.length ∧ ∀ (k : Nat) (x : AV) (v : Value), l[k]? = some x → arr[k]? = some v → VRel g m w x v := by
          intro l A h
          cases h with
          | c h => cases h with
            | agg _ vs _ hs hh => exact ⟨vs, rfl, hs, fun k x v h1 h2 => .c (hh k x v h1 h2)⟩
          | agg _ vs _ hs hh => exact ⟨vs, rfl, hs, hh⟩
        obtain ⟨p, hp1, hp2, hp3⟩ := inv _ _ h1
        obtain ⟨q, hq1, hq2, hq3⟩ := inv _ _ h2
        refine ⟨xs, ys, by simp only [VT, hagg, if_true]; exact ⟨p, hp1, hp2, hp3⟩, by simp only [VT, hagg, if_true]; exact ⟨q, hq1, hq2, hq3⟩, hq, fun _ => ⟨p, q, hp1, hq1⟩, fun hh => (by rw [hagg] at hh; cases hh)⟩
      · cases hq
    · split at hq
      · cases hq
      · rename_i hagg
        have hagg' : ti.agg = false := by simpa using hagg
        refine ⟨[ev t x'], [ev t y'], by simp only [VT, hagg', Bool.false_eq_true, if_false]; exact ⟨_, rfl, h1⟩, by simp only [VT, hagg', Bool.false_eq_true, if_false]; exact ⟨_, rfl, h2⟩, hq, fun hh => (by rw [hagg'] at hh; cases hh), fun _ => ?_⟩
        cases ks with
        | nil => simp [qbg] at hq
        | cons k ks =>
          simp only [qbg] at hq
          split at hq
          · rename_i p q hl _
            unfold qoh at hl
            split at hl
            · rename_i b1 b2 e1 e2
              rw [e1] at h1
              rw [e2] at h2
              exact .inl ⟨_, _, h1.bool_inv, h2.bool_inv⟩
            · right; left
              simp only [qbu, hti] at hk
              split at hk
              · split at hk <;> simp at hk
              · rename_i kk hb; exact ⟨kk, hb⟩
              · split at hk <;> simp at hk
              · rename_i hb
                have := hd.td
                rw [hb] at this
                cases d <;> simp [TDof] at this
                have := hd.agg
                rw [hagg'] at this
                simp [qma] at this
              · cases hk
            · right; right
              simp only [qbu, hti] at hk
              split at hk
              · split at hk <;> simp at hk
              · split at hk <;> simp at hk
              · rename_i hb; exact hb
              · rename_i hb
                have := hd.td
                rw [hb] at this
                cases d <;> simp [TDof] at this
                have := hd.agg
                rw [hagg'] at this
                simp [qma] at this
              · cases hk
            · cases hl
          · cases hq
  obtain ⟨X, Y, hX, hY, he, hag, hlf⟩ := hform
  refine ⟨.bool (if neg then !r else r), .c (.bool _), fun w' _ => ?_⟩
  have hrun := hrec 10000 (by omega) X Y _ _ r hX hY he w'
  unfold execOp
  simp only [ho]
  cases hagg : ti.agg with
  | true =>
    obtain ⟨p, q, hp, hq⟩ := hag hagg
    rw [hp, hq] at hrun
    have hg : P.eqGuardType P.depth ty = false := by
      rw [← hd.eqg]
      exact qbdq hT 19 ty ks ti hk hti hagg
    have hgr := fun op => run_eqGuard_agg (P := P) w' op ty x y p q hg
    cases neg
    · have hb : (binOp .eql ty (.agg p) (.agg q)).run P w' = .ok (.bool r) w' := by rw [run_eql_struct, hrun]; rfl
      clear hrun hrec
      simp only [hp, hq, Bool.false_eq_true, if_false, Sem.run_bind, hgr, Result.andThen_ok, hb, Sem.run_pure]
    · have hb : (binOp .neq ty (.agg p) (.agg q)).run P w' = .ok (.bool !r) w' := by rw [run_neq_struct, hrun]; rfl
      clear hrun hrec
      simp only [hp, hq, if_true, Sem.run_bind, hgr, Result.andThen_ok, hb, Sem.run_pure]
  | false =>
    rcases hlf hagg with ⟨p, q, hp, hq⟩ | ⟨k, hk'⟩ | hk'
    · rw [hp, hq] at hrun
      have hq1 : (binOp .eql ty (.bool p) (.bool q)).run P w' = .ok (.bool r) w' := by
        show (Op.equal ty (.bool p) (.bool q) >>= fun b => pure (Value.bool b)).run P w' = _
        simp only [Op.equal, Sem.run_bind, show Op.maxDepth = 10000 from rfl, hrun, Result.andThen_ok, Sem.run_pure]
      have hq2 : (binOp .neq ty (.bool p) (.bool q)).run P w' = .ok (.bool !r) w' := by
        show (Op.equal ty (.bool p) (.bool q) >>= fun b => pure (Value.bool !b)).run P w' = _
        simp only [Op.equal, Sem.run_bind, show Op.maxDepth = 10000 from rfl, hrun, Result.andThen_ok, Sem.run_pure]
      have hg : ∀ op, (eqGuard op ty x y (.bool p) (.bool q)).run P w' = .ok () w' := by intro op; cases op <;> simp [eqGuard]
      cases neg
      · simp only [hp, hq, Bool.false_eq_true, if_false, Sem.run_bind, hg, Result.andThen_ok, hq1, Sem.run_pure]
      · simp only [hp, hq, if_true, Sem.run_bind, hg, Result.andThen_ok, hq2, Sem.run_pure]
    · exact absurd hk' (hni.1 k)
    · exact absurd hk' hni.2
end
end Go.Pev
/- Keys of maps. -/
namespace Go.Pev
open Go
set_option linter.unusedVariables false
set_option linter.unusedSimpArgs false
def qhj : AV → Value
  | .bool b => .bool b
  | .int k n => .int k n
  | .str s => .string ⟨s.toArray⟩
  | _ => undef
def kval : AV → Value
  | .agg xs => .agg (xs.map qhj).toArray
  | x => qhj x
section
variable {g : Gh} {m : Mem} {w : World} {t : Env} {a : Act} {P : Program} {T : Tab}
theorem q34 {k : EK} {x : AV} {v : Value} (hk : qd2 k x = true) (h : VRel g m w x v) : v = qhj x := by
  cases k <;> cases x <;> simp [qd2] at hk
  · exact h.bool_inv
  · exact h.int_inv
  · obtain ⟨b, rfl, rfl⟩ := h.str_inv
    simp [qhj]
theorem q1k {k : EK} {x : AV} (hk : qd2 k x = true) (I : Nat → Nat → Prop) (w : World) : CRel I w x (qhj x) := by
  cases k <;> cases x <;> simp [qd2] at hk
  · exact .bool _
  · exact .int _ _
  · have := CRel.str (I := I) (w := w) ⟨(‹List UInt8›).toArray⟩
    simpa [qhj] using this
theorem q35 {k : EK} {x : AV} (hk : qd2 k x = true) : x.leaf = true := by
  cases k <;> cases x <;> simp [qd2] at hk <;> rfl
theorem qcv : ∀ (ks : List EK) (xs : List AV), qcb ks xs = true → ∀ (i : Nat) (x : AV), xs[i]? = some x → ∃ k, qd2 k x = true
  | [], [], _, i, x, h => by simp at h
  | k :: ks, y :: ys, hk, i, x, h => by
    simp only [qcb, Bool.and_eq_true] at hk
    cases i with
    | zero => simp at h; subst h; exact ⟨k, hk.1⟩
    | succ i => exact qcv ks ys hk.2 i x (by simpa using h)
  | [], _ :: _, hk, i, x, h => by simp [qcb] at hk
  | _ :: _, [], hk, i, x, h => by simp [qcb] at hk
theorem qpr {agg : Bool} {ks : List EK} {xs : List AV} (h : qfa (.mk agg ks) (.agg xs) = true) : agg = true ∧ qcb ks xs = true := by simpa [qfa] using h
theorem qnt {agg : Bool} {ks : List EK} {x : AV} (hx : ∀ xs, x ≠ .agg xs) (h : qfa (.mk agg ks) x = true) : agg = false ∧ qcb ks [x] = true := by
  cases x <;> first | (exact absurd rfl (hx _)) | (simpa [qfa] using h)
theorem qso {l : List AV} {A : Value} (h : VRel g m w (.agg l) A) : ∃ arr, A = .agg arr ∧ arr.size = l.length ∧ ∀ (k : Nat) (x : AV) (v : Value), l[k]? = some x → arr[k]? = some v → VRel g m w x v := by
  cases h with
  | c h => cases h with
    | agg _ vs _ hs hh => exact ⟨vs, rfl, hs, fun k x v h1 h2 => .c (hh k x v h1 h2)⟩
  | agg _ vs _ hs hh => exact ⟨vs, rfl, hs, hh⟩
theorem qu6 {x : AV} (hx : ∀ xs, x ≠ .agg xs) : kval x = qhj x := by
  cases x <;> first | (exact absurd rfl (hx _)) | rfl
theorem q01 {kd : KD} {k : AV} {v : Value} (hk : qfa kd k = true) (h : VRel g m w k v) : v = kval k := by
  obtain ⟨agg, ks⟩ := kd
  by_cases hag : ∃ xs, k = .agg xs
  · obtain ⟨xs, rfl⟩ := hag
    obtain ⟨_, hc⟩ := qpr hk
    obtain ⟨arr, rfl, hs, hh⟩ := qso h
    simp only [kval]
    congr 1
    apply Array.ext_getElem?
    intro i
    by_cases hi : i < xs.length
    · have h1 : xs[i]? = some xs[i] := by simp [hi]
      have h2 : arr[i]? = some (arr[i]'(by omega)) := by simp [hs, hi]
      obtain ⟨q, hq⟩ := qcv ks xs hc i _ h1
      rw [h2, q34 hq (hh i _ _ h1 h2)]
      simp [hi]
    · simp [hi, hs]
  · have hx : ∀ xs, k ≠ .agg xs := fun xs e => hag ⟨xs, e⟩
    obtain ⟨_, hc⟩ := qnt hx hk
    obtain ⟨q, hq⟩ := qcv ks [k] hc 0 k rfl
    rw [qu6 hx]
    exact q34 hq h
theorem qsp {kd : KD} {k : AV} (hk : qfa kd k = true) (I : Nat → Nat → Prop) (w : World) : CRel I w k (kval k) := by
  obtain ⟨agg, ks⟩ := kd
  by_cases hag : ∃ xs, k = .agg xs
  · obtain ⟨xs, rfl⟩ := hag
    obtain ⟨_, hc⟩ := qpr hk
    refine .agg _ _ (fun x hx => ?_) (by simp) (fun i x v hx hv => ?_)
    · obtain ⟨i, hi⟩ := List.getElem?_of_mem hx
      obtain ⟨q, hq⟩ := qcv ks xs hc i x hi
      exact q35 hq
    · obtain ⟨q, hq⟩ := qcv ks xs hc i x hx
      simp [hx] at hv
      subst hv
      exact q1k hq I w
  · have hx : ∀ xs, k ≠ .agg xs := fun xs e => hag ⟨xs, e⟩
    obtain ⟨_, hc⟩ := qnt hx hk
    obtain ⟨q, hq⟩ := qcv ks [k] hc 0 k rfl
    rw [qu6 hx]
    exact q1k hq I w
theorem q36 {k : EK} {x y : AV} {b : Bool} (h : qoh k x y = some b) : qd2 k x = true ∧ qd2 k y = true ∧ (b = true → x = y) := by
  unfold qoh at h
  split at h
  · simp at h; subst h; refine ⟨rfl, rfl, fun h => ?_⟩; simpa using h
  · split at h
    · rename_i hk
      obtain ⟨rfl, rfl⟩ := hk
      simp at h; subst h
      refine ⟨by simp [qd2], by simp [qd2], fun h => ?_⟩
      simpa using h
    · cases h
  · simp at h; subst h; refine ⟨rfl, rfl, fun h => ?_⟩; simpa using h
  · cases h
theorem qjt : ∀ (ks : List EK) (xs ys : List AV) (b : Bool), qbg ks xs ys = some b → qcb ks xs = true ∧ qcb ks ys = true ∧ (b = true → xs = ys)
  | [], [], [], b, h => ⟨rfl, rfl, fun _ => rfl⟩
  | k :: ks, x :: xs, y :: ys, b, h => by
    simp only [qbg] at h
    split at h
    · rename_i p q h1 h2
      simp at h; subst h
      obtain ⟨a1, a2, a3⟩ := q36 h1
      obtain ⟨b1, b2, b3⟩ := qjt ks xs ys q h2
      refine ⟨by simp [qcb, a1, b1], by simp [qcb, a2, b2], fun h => ?_⟩
      simp at h
      rw [a3 h.1, b3 h.2]
    · cases h
  | [], [], _ :: _, b, h => by simp [qbg] at h
  | [], _ :: _, _, b, h => by simp [qbg] at h
  | _ :: _, [], _, b, h => by simp [qbg] at h
  | _ :: _, _ :: _, [], b, h => by simp [qbg] at h
theorem qyg {agg : Bool} {ks : List EK} {k p : AV} {b : Bool} (h : keq (.mk agg ks) k p = some b) :
    (∃ xs ys, k = .agg xs ∧ p = .agg ys ∧ agg = true ∧ qbg ks xs ys = some b) ∨ ((∀ xs, k ≠ .agg xs) ∧ (∀ xs, p ≠ .agg xs) ∧ agg = false ∧ qbg ks [k] [p] = some b) := by
  simp only [keq] at h
  unfold eqv at h
  split at h
  · rename_i xs ys
    split at h
    · rename_i hag; exact .inl ⟨xs, ys, rfl, rfl, hag, h⟩
    · cases h
  · split at h
    · cases h
    · rename_i hn hag
      have hag' : agg = false := by simpa using hag
      obtain ⟨h1, h2, _⟩ := qjt ks [k] [p] b h
      obtain ⟨q1, hq1⟩ := qcv ks [k] h1 0 k rfl
      obtain ⟨q2, hq2⟩ := qcv ks [p] h2 0 p rfl
      refine .inr ⟨fun xs e => ?_, fun xs e => ?_, hag', h⟩
      · subst e; cases q1 <;> simp [qd2] at hq1
      · subst e; cases q2 <;> simp [qd2] at hq2
theorem qps {kd : KD} {k p : AV} {b : Bool} (h : keq kd k p = some b) : qfa kd k = true ∧ qfa kd p = true ∧ (b = true → k = p) := by
  obtain ⟨agg, ks⟩ := kd
  rcases qyg h with ⟨xs, ys, rfl, rfl, rfl, h1⟩ | ⟨n1, n2, rfl, h1⟩
  · obtain ⟨a1, a2, a3⟩ := qjt _ _ _ _ h1
    exact ⟨by simp [qfa, a1], by simp [qfa, a2], fun h => by rw [a3 h]⟩
  · obtain ⟨a1, a2, a3⟩ := qjt _ _ _ _ h1
    refine ⟨?_, ?_, fun h => by simpa using a3 h⟩
    · cases k <;> first | (exact absurd rfl (n1 _)) | (simp [qfa, a1])
    · cases p <;> first | (exact absurd rfl (n2 _)) | (simp [qfa, a2])
theorem q1l (s u : List UInt8) : ((⟨s.toArray⟩ : ByteArray) == ⟨u.toArray⟩) = (s == u) := by
  rw [beq_toListBytes, qme, qme]
theorem qze {d : TypeDesc} {agg : Bool} {ks : List EK} {k p : AV} {b b' : Bool} (h : keq (.mk agg ks) k p = some b) (hs : Instr.sameNow d (kval k) (kval p) = some b') : b' = b := by
  rcases qyg h with ⟨xs, ys, rfl, rfl, rfl, h1⟩ | ⟨n1, n2, rfl, h1⟩
  · simp only [kval] at hs
    cases d <;> simp [Instr.sameNow] at hs
  · cases ks with
    | nil => simp [qbg] at h1
    | cons q ks =>
      simp only [qbg] at h1
      split at h1
      · rename_i u v hu hv
        cases ks with
        | cons _ _ => simp [qbg] at hv
        | nil =>
          simp [qbg] at hv
          subst hv
          simp at h1
          subst h1
          unfold qoh at hu
          split at hu
          · simp at hu; subst hu
            cases d <;> simp [kval, qhj, Instr.sameNow] at hs
            exact hs.symm
          · split at hu
            · rename_i hk
              obtain ⟨rfl, rfl⟩ := hk
              simp at hu; subst hu
              cases d <;> simp [kval, qhj, Instr.sameNow] at hs
              exact hs.symm
            · cases hu
          · simp at hu; subst hu
            cases d <;> simp [kval, qhj, Instr.sameNow] at hs
            rw [q1l] at hs
            exact hs.symm
          · cases hu
      · cases h1
theorem qtn {k : EK} {x : AV} (hk : qd2 k x = true) (n : Nat) : Instr.sameBits n (qhj x) (qhj x) = true := by
  cases k <;> cases x <;> simp [qd2] at hk
  · cases n <;> simp [qhj, Instr.sameBits]
  · cases n <;> simp [qhj, Instr.sameBits]
  · cases n <;> simp [qhj, Instr.sameBits, q1l]
theorem qu7 {n : Nat} : ∀ l : List Value, (∀ z, z ∈ l → Instr.sameBits n z z = true) → ((l.zip l).all fun (x, y) => Instr.sameBits n x y) = true
  | [], _ => rfl
  | x :: l, h => by
    simp only [List.zip_cons_cons, List.all_cons, Bool.and_eq_true]
    exact ⟨h x (by simp), qu7 l (fun z hz => h z (by simp [hz]))⟩
theorem q8a {kd : KD} {k : AV} (hk : qfa kd k = true) (w' : World) : (Instr.keyThatStays (kval k) (kval k)).run P w' = .ok (kval k) w' := by
  have : Instr.sameBits (9999 + 1) (kval k) (kval k) = true := by
    obtain ⟨agg, ks⟩ := kd
    by_cases hag : ∃ xs, k = .agg xs
    · obtain ⟨xs, rfl⟩ := hag
      obtain ⟨_, hc⟩ := qpr hk
      simp only [kval, Instr.sameBits, beq_self_eq_true, Bool.true_and]
      refine qu7 _ (fun z hz => ?_)
      simp only [List.mem_map] at hz
      obtain ⟨x, hx, rfl⟩ := hz
      obtain ⟨i, hi⟩ := List.getElem?_of_mem hx
      obtain ⟨q, hq⟩ := qcv ks xs hc i x hi
      exact qtn hq _
    · have hx : ∀ xs, k ≠ .agg xs := fun xs e => hag ⟨xs, e⟩
      obtain ⟨_, hc⟩ := qnt hx hk
      obtain ⟨q, hq⟩ := qcv ks [k] hc 0 k rfl
      rw [qu6 hx]
      exact qtn hq _
  simp only [Instr.keyThatStays]
  rw [show (10000 : Nat) = 9999 + 1 from rfl, if_pos this]
  rfl
theorem qxf (hT : T.ok P) (em : Bool) : ∀ (n : Nat) (ty : TypeId) (ks : List EK) (ti : TI), qbu T n ty = some ks → T ty = some ti → ks.length = ti.sz ∧
    ∀ d, n ≤ d → ∀ (X : List AV) (A : Value), VT g m w ti.agg X A → X.length = ks.length → ∀ w', (Instr.checkKey em d ty A).run P w' = .ok () w'
  | 0, ty, ks, ti, h, _ => by simp [qbu] at h
  | n + 1, ty, ks, ti, h, hti => by
    refine ⟨(qsn (g := g) (m := m) (w := w) hT (n + 1) ty ks ti h hti).1, ?_⟩
    simp only [qbu, hti] at h
    obtain ⟨i, dd, hd⟩ := hT.facts hti
    have htd := hd.td
    intro d hdn X A hA hlX w'
    obtain ⟨d, rfl⟩ : ∃ d', d = d' + 1 := ⟨d - 1, by omega⟩
    split at h
    · rename_i hb
      rw [hb] at htd
      cases dd <;> simp [TDof] at htd
      simp [Instr.checkKey, run_underlying hd.und]
    · rename_i k hb
      rw [hb] at htd
      cases dd <;> simp [TDof] at htd
      simp [Instr.checkKey, run_underlying hd.und]
    · rename_i hb
      rw [hb] at htd
      cases dd <;> simp [TDof] at htd
      simp [Instr.checkKey, run_underlying hd.und]
    · rename_i fsl hb
      split at h
      · cases h
      · rename_i hc
        split at h
        · rename_i l hl
          split at h
          · rename_i hlen
            simp at h; subst h
            rw [hb] at htd
            cases dd <;> simp [TDof] at htd
            rename_i fs
            subst htd
            have hagg : ti.agg = true := by rw [hd.agg]; rfl
            simp only [hagg, VT, if_true] at hA
            obtain ⟨arr, rfl, hsA, hA⟩ := hA
            rw [Instr.checkKey]
            simp only [Sem.run_bind, run_underlying hd.und, Result.andThen_ok]
            rw [← Array.forIn_toList]
            have gen : ∀ (L : List Field) (off : Nat) (ks : List EK), qj2 (qbu T n) off (L.map fun f => (f.offset, f.type, f.name == "_")) = some ks → ks.length + off = X.length →
                (forIn L PUnit.unit fun f r => (do
                  if f.name ≠ "_" then
                    Instr.checkKey em d f.type (← part f.type arr f.offset)
                  pure (ForInStep.yield PUnit.unit) : Sem (ForInStep PUnit))).run P w' = .ok PUnit.unit w' := by
              intro L
              induction L with
              | nil => intro off ks _ _; simp
              | cons f L ih =>
                intro off ks hk hlen
                simp only [List.map_cons, qj2] at hk
                split at hk
                · cases hk
                · rename_i hno
                  have hno1 : f.name ≠ "_" := by intro hh; exact hno (.inl (by simp [hh]))
                  have hno2 : f.offset = off := Decidable.byContradiction fun hh => hno (.inr hh)
                  split at hk
                  · rename_i kt hkt
                    split at hk
                    · rename_i kr hkr
                      simp at hk; subst hk
                      simp at hlen
                      obtain ⟨fi, hfi⟩ : ∃ fi, T f.type = some fi := by
                        cases n with
                        | zero => simp [qbu] at hkt
                        | succ n =>
                          simp only [qbu] at hkt
                          split at hkt
                          · rename_i fi hfi; exact ⟨fi, hfi⟩
                          · cases hkt
                      obtain ⟨hktl, hrec⟩ := qxf hT em n f.type kt fi hkt hfi
                      obtain ⟨j, df, hdf⟩ := hT.facts hfi
                      have hone : fi.agg = false → kt.length = 1 := by
                        intro hfa
                        cases n with
                        | zero => simp [qbu] at hkt
                        | succ n =>
                          simp only [qbu, hfi] at hkt
                          have hdfa := hdf.agg
                          have hdft := hdf.td
                          split at hkt
                          · split at hkt <;> simp at hkt; subst hkt; rfl
                          · split at hkt <;> simp at hkt; subst hkt; rfl
                          · split at hkt <;> simp at hkt; subst hkt; rfl
                          · rename_i hq
                            rw [hq] at hdft
                            cases df <;> simp [TDof] at hdft
                            rw [hfa] at hdfa
                            simp [qma] at hdfa
                          · cases hkt
                      obtain ⟨C, hC1, hC2⟩ : ∃ C, (part f.type arr off).run P w' = .ok C w' ∧ VT g m w fi.agg ((X.drop off).take kt.length) C := by
                        cases hfa : fi.agg with
                        | true =>
                          refine ⟨.agg (arr.extract off (off + fi.sz)), by simp [part, hdf.isAgg w', hfa, hdf.sizeOf w'], ?_⟩
                          simp only [VT, if_true]
                          refine ⟨_, rfl, ?_, fun k x v hx hv => ?_⟩
                          · simp; omega
                          · rw [List.getElem?_take] at hx
                            split at hx
                            · rw [List.getElem?_drop] at hx
                              rw [Array.getElem?_extract] at hv
                              split at hv
                              · exact hA _ x v hx hv
                              · cases hv
                            · cases hx
                        | false =>
                          have hone := hone hfa
                          have hlt : off < arr.size := by omega
                          have hltZ : off < X.length := by omega
                          refine ⟨arr[off], by simp [part, hdf.isAgg w', hfa, hlt], ?_⟩
                          simp only [VT, Bool.false_eq_true, if_false]
                          refine ⟨X[off], ?_, hA off _ _ (by simp [hltZ]) (by simp [hlt])⟩
                          rw [hone, List.drop_eq_getElem_cons hltZ]
                          rfl
                      have hrun := hrec d (by omega) _ C hC2 (by simp; omega) w'
                      have hrest := ih (off + kt.length) kr hkr (by omega)
                      simp only [List.forIn_cons, Sem.run_bind, hno1, ne_eq, not_false_eq_true, if_true, hno2, hC1, Result.andThen_ok, hrun, Sem.run_pure]
                      exact hrest
                    · cases hk
                  · cases hk
            have := gen fs.toList 0 l hl (by omega)
            simp at this ⊢
            rw [this]
            rfl
          · cases h
        · cases h
    · cases h
theorem qpt : ∀ (ks : List EK) (xs : List AV), qcb ks xs = true → xs.length = ks.length
  | [], [], _ => rfl
  | k :: ks, y :: ys, hk => by
    simp only [qcb, Bool.and_eq_true] at hk
    simp [qpt ks ys hk.2]
  | [], _ :: _, hk => by simp [qcb] at hk
  | _ :: _, [], hk => by simp [qcb] at hk
theorem qbdr {agg : Bool} {ks : List EK} {k : AV} {A : Value} (hk : qfa (.mk agg ks) k = true) (h : VRel g m w k A) : ∃ X, VT g m w agg X A ∧ qcb ks X = true := by
  by_cases hag : ∃ xs, k = .agg xs
  · obtain ⟨xs, rfl⟩ := hag
    obtain ⟨rfl, hc⟩ := qpr hk
    obtain ⟨arr, rfl, hs, hh⟩ := qso h
    exact ⟨xs, by simp only [VT, if_true]; exact ⟨arr, rfl, hs, hh⟩, hc⟩
  · have hx : ∀ xs, k ≠ .agg xs := fun xs e => hag ⟨xs, e⟩
    obtain ⟨rfl, hc⟩ := qnt hx hk
    exact ⟨[k], by simp only [VT, Bool.false_eq_true, if_false]; exact ⟨k, rfl, h⟩, hc⟩
theorem q1m (hT : T.ok P) {kt : TypeId} {ki : TI} {ks : List EK} (hki : T kt = some ki) (hks : qbu T 20 kt = some ks) {k : AV} (hk : qfa (.mk ki.agg ks) k = true) (em : Bool) (w' : World) :
    (Instr.checkKey em 10000 kt (kval k)).run P w' = .ok () w' := by
  let g0 : Gh := ⟨fun _ _ => False, fun _ => 0, fun _ => ⟨0, 0, true⟩⟩
  obtain ⟨X, hX, hc⟩ := qbdr (g := g0) (m := Mem.none) (w := w') hk (.c (qsp hk _ _))
  exact (qxf hT em 20 kt ks ki hks hki).2 10000 (by omega) X _ hX (qpt _ _ hc) w'
theorem q6k (hT : T.ok P) {kt : TypeId} {ki : TI} {ks : List EK} (hki : T kt = some ki) (hks : qbu T 20 kt = some ks) {k p : AV} {b : Bool} (h : keq (.mk ki.agg ks) k p = some b) (w' : World) :
    (Op.equal kt (kval k) (kval p)).run P w' = .ok b w' := by
  let g0 : Gh := ⟨fun _ _ => False, fun _ => 0, fun _ => ⟨0, 0, true⟩⟩
  obtain ⟨hk, hp, _⟩ := qps h
  have hrec := (qsn (g := g0) (m := Mem.none) (w := w') hT 20 kt ks ki hks hki).2 10000 (by omega)
  have r1 : VRel g0 Mem.none w' k (kval k) := .c (qsp hk _ _)
  have r2 : VRel g0 Mem.none w' p (kval p) := .c (qsp hp _ _)
  rcases qyg h with ⟨xs, ys, rfl, rfl, hag, h1⟩ | ⟨n1, n2, hag, h1⟩
  · obtain ⟨a1, e1, s1, t1⟩ := qso r1
    obtain ⟨a2, e2, s2, t2⟩ := qso r2
    exact hrec xs ys _ _ b (by simp only [VT, hag, if_true]; exact ⟨a1, e1, s1, t1⟩) (by simp only [VT, hag, if_true]; exact ⟨a2, e2, s2, t2⟩) h1 w'
  · exact hrec [k] [p] _ _ b (by simp only [VT, hag, Bool.false_eq_true, if_false]; exact ⟨k, rfl, r1⟩) (by simp only [VT, hag, Bool.false_eq_true, if_false]; exact ⟨p, rfl, r2⟩) h1 w'
theorem qsq (hT : T.ok P) {kt : TypeId} {ki : TI} {ks : List EK} (hki : T kt = some ki) (hks : qbu T 20 kt = some ks) {d : TypeDesc} {k : AV} {I : Nat → Nat → Prop} : ∀ (es : List (AV × AV)) (l : List MapEntry) (i : Nat), l.length = es.length →
    (∀ (j : Nat) (p : AV × AV) (e : MapEntry), es[j]? = some p → l[j]? = some e → CRel I w p.1 e.key ∧ mvOk p.2 = true ∧ CRel I w p.2 e.val) →
    ∀ r, qmb (.mk ki.agg ks) k es i = some r → ∃ res : Option (Nat × Value), (∀ x, Instr.findNow d (kval k) l i = some x → x = res) ∧ (∀ w', (Instr.findAsking kt (kval k) l i).run P w' = .ok res w') ∧
      ((r = none ∧ res = none) ∨ ∃ j p e, r = some (i + j, p.2) ∧ es[j]? = some p ∧ l[j]? = some e ∧ res = some (i + j, e.val) ∧ e.key = kval k ∧ p.1 = k)
  | [], l, i, hl, _, r, h => by
    have : l = [] := List.eq_nil_of_length_eq_zero (by simpa using hl)
    subst this
    simp [qmb] at h
    exact ⟨none, fun x hx => by simpa [Instr.findNow] using hx.symm, fun w' => by simp [Instr.findAsking], .inl ⟨h.symm, rfl⟩⟩
  | p :: es, l, i, hl, hrel, r, h => by
    obtain ⟨e, l, rfl⟩ : ∃ e l', l = e :: l' := by cases l with
      | nil => simp at hl
      | cons e l => exact ⟨e, l, rfl⟩
    obtain ⟨h1, h2, h3⟩ := hrel 0 p e rfl rfl
    simp only [qmb] at h
    have hkey : ∀ b, keq (.mk ki.agg ks) k p.1 = some b → e.key = kval p.1 := fun b hb => by
      have := (qps hb).2.1
      exact q01 (g := ⟨I, fun _ => 0, fun _ => ⟨0, 0, true⟩⟩) (m := Mem.none) this (.c h1)
    split at h
    · rename_i hb
      simp at h; subst h
      have hke := hkey _ hb
      refine ⟨some (i, e.val), fun x hx => ?_, fun w' => ?_, .inr ⟨0, p, e, rfl, rfl, rfl, rfl, ?_, ((qps hb).2.2 rfl).symm⟩⟩
      · simp only [Instr.findNow] at hx
        split at hx
        · simpa using hx.symm
        · rename_i hs
          rw [hke] at hs
          exact absurd (qze hb hs) (by simp)
        · cases hx
      · simp only [Instr.findAsking, Sem.run_bind, hke, q6k hT hki hks hb w', Result.andThen_ok, if_true]
        simp
      · rw [hke, (qps hb).2.2 rfl]
    · rename_i hb
      have hke := hkey _ hb
      obtain ⟨res, f1, f2, f3⟩ := qsq hT hki hks (d := d) es l (i + 1) (by simpa using hl) (fun j p' e' hp' he' => hrel (j + 1) p' e' (by simpa using hp') (by simpa using he')) r h
      refine ⟨res, fun x hx => ?_, fun w' => ?_, ?_⟩
      · simp only [Instr.findNow] at hx
        split at hx
        · rename_i hs
          rw [hke] at hs
          exact absurd (qze hb hs) (by simp)
        · exact f1 x hx
        · cases hx
      · simp only [Instr.findAsking, Sem.run_bind, hke, q6k hT hki hks hb w', Result.andThen_ok]
        simpa using f2 w'
      · rcases f3 with ⟨h4, h5⟩ | ⟨j, p', e', h4, h5, h6, h7, h8, h9⟩
        · exact .inl ⟨h4, h5⟩
        · have hij : i + 1 + j = i + (j + 1) := by omega
          rw [hij] at h4 h7
          exact .inr ⟨j + 1, p', e', h4, by simpa using h5, by simpa using h6, h7, h8, h9⟩
    · cases h
theorem qsr {kt : TypeId} {d : TypeDesc} (hu : P.underlying kt = some d) {v : Value} {l : List MapEntry} {res : Option (Nat × Value)} (h1 : ∀ x, Instr.findNow d v l 0 = some x → x = res) (h2 : ∀ w', (Instr.findAsking kt v l 0).run P w' = .ok res w') (w' : World) :
    (Instr.findKey kt v l).run P w' = .ok res w' := by
  simp only [Instr.findKey, Sem.run_bind, run_underlying hu, Result.andThen_ok]
  split
  · rename_i r hr
    rw [h1 r hr]; rfl
  · exact h2 w'
end
end Go.Pev
/- Maps. -/
namespace Go.Pev
open Go
set_option linter.unusedVariables false
set_option linter.unusedSimpArgs false
section
variable {g : Gh} {m : Mem} {w : World} {t : Env} {a : Act} {P : Program} {T : Tab}
theorem qss {op : Op} {ty : TypeId} {x k y : Operand} {so : SOp} (ho : op = .mapUpdate ty x k y ∨ op = .insert ty x k y) (hc : cOp T op = some so) : ∃ kk x' k' y', so = .mput kk x' k' y' := by
  rcases ho with rfl | rfl
  all_goals
    simp only [cOp, Option.bind_eq_bind, Option.bind_eq_some_iff] at hc
    obtain ⟨ti, hti, hc⟩ := hc
    split at hc
    · simp only [Option.bind_eq_some_iff, Option.some.injEq] at hc
      obtain ⟨ki, hki, ks, hks, x', _, k', _, y', _, rfl⟩ := hc
      exact ⟨_, _, _, _, rfl⟩
    · cases hc
theorem q8b {z : AV} {v : Value} (hm : mvOk z = true) (h : VRel g m w z v) (I : Nat → Nat → Prop) (w' : World) : CRel I w' z v := by
  cases z <;> simp [mvOk] at hm <;> (try (cases h with | c h => cases h <;> constructor))
  case func f cs =>
    subst hm
    cases h with
    | c h =>
      cases h with
      | func _ _ vs _ hs _ => exact .func f [] vs (by simp) hs (by simp)
    | func _ _ vs _ hs _ => exact .func f [] vs (by simp) hs (by simp)
theorem q6l {r : Nat} {v : Value} (h : VRel g m w (.map r) v) : v = .map (some (g.jb r)) ∧ r < m.n := by
  cases h with
  | c h => cases h
  | map _ h => exact ⟨rfl, h⟩
theorem qbds (hT : T.ok P) (hok : OK1 g m w) (hr : ERel g m w t a) {o : Oper} {ty : TypeId} {x k : Operand} {ok : Bool} {so : SOp} {v : AV} (ho : o.op = .lookup ty x k ok) (hc : cOp T o.op = some so) (hv : qa t m so = some v) : qc4 P g m w a o v := by
  rw [ho] at hc
  simp only [cOp, Option.bind_eq_bind, Option.bind_eq_some_iff] at hc
  obtain ⟨ti, hti, hc⟩ := hc
  split at hc
  · rename_i kt vt htd
    simp only [Option.bind_eq_some_iff] at hc
    obtain ⟨ki, hki, ks, hks, vi, hvi, z, hz, hc⟩ := hc
    split at hc
    · rename_i z0
      split at hc
      · rename_i hz1
        simp only [Option.bind_eq_some_iff, Option.some.injEq] at hc
        obtain ⟨x', hx, k', hk, rfl⟩ := hc
        obtain ⟨i, d, hd⟩ := hT.facts hti
        obtain ⟨ii, dk, hdk⟩ := hT.facts hki
        obtain ⟨iv, dv, hdv⟩ := hT.facts hvi
        obtain ⟨zv, hzv0, hzv2, hzv3⟩ := hdv.zeroValue hz
        have hone : zv.oneCell' = true := by
          have := hdv.z1
          rw [hz1, hzv0] at this
          simpa using this.symm
        have hcells := qoj hone
        rw [hcells] at hzv2
        have hz0 : ∀ I w, CRel I w z0 zv := by
          intro I w
          simp only [List.mapM_cons, List.mapM_nil, Option.bind_eq_bind, Option.pure_def] at hzv2
          cases hcl : cLit zv with
          | none => rw [hcl] at hzv2; simp at hzv2
          | some q => rw [hcl] at hzv2; simp at hzv2; subst hzv2; exact (qsl hcl).1
        have htd1 := hd.td
        rw [htd] at htd1
        cases d <;> simp [TDof] at htd1
        obtain ⟨rfl, rfl⟩ := htd1
        have hx1 := qe hr hx
        have hk1 := qe hr hk
        simp only [qa, q3a] at hv
        split at hv
        · rename_i r he1
          rw [he1] at hx1
          obtain ⟨hxv, hrn⟩ := q6l hx1
          split at hv
          · rename_i hkk
            have hkv := q01 hkk hk1
            have hchk := q1m hT hki hks hkk
            split at hv
            · rename_i es hs
              obtain ⟨arr, clock, b1, b2, b3⟩ := hok.ob r _ hs
              have hlt : g.jb r < w.heap.size := (Array.getElem?_eq_some_iff.1 b1).1
              have hfs := qsq (w := w) (I := g.I) hT hki hks (d := dk) (k := ev t k') es arr.toList 0 (by simpa using b2) (fun j p e hp he => b3 j p e hp (by simpa using he))
              split at hv
              · rename_i j v0 hf
                obtain ⟨res, f1, f2, ⟨h1, _⟩ | ⟨j', p, e, h1, h2, h3, h4, h5, _⟩⟩ := hfs _ hf
                · cases h1
                · have hfind := qsr hdk.und f1 f2
                  simp at h1
                  obtain ⟨rfl, rfl⟩ := h1
                  simp at h4
                  subst h4
                  have hval := (b3 _ p e h2 (by simpa using h3)).2.2
                  cases ok with
                  | true =>
                    simp at hv; subst hv
                    refine ⟨.tuple #[e.val, .bool true], .c (.tup _ _ rfl (fun q y u hy hu => ?_)), fun w' hw => ?_⟩
                    · match q with
                      | 0 => simp at hy hu; subst hy; subst hu; exact hval
                      | 1 => simp at hy hu; subst hy; subst hu; exact .bool true
                      | q + 2 => simp at hy
                    · have hb : w'.heap[g.jb r]? = some (.map arr clock) := by rw [hw _ hlt]; exact b1
                      unfold execOp
                      simp only [ho, hxv, hkv]
                      simp [Instr.lookup, run_underlying hd.und, MapKept.run_getObj_map hb, hchk, hfind]
                  | false =>
                    simp at hv; subst hv
                    refine ⟨e.val, .c hval, fun w' hw => ?_⟩
                    have hb : w'.heap[g.jb r]? = some (.map arr clock) := by rw [hw _ hlt]; exact b1
                    unfold execOp
                    simp only [ho, hxv, hkv]
                    simp [Instr.lookup, run_underlying hd.und, MapKept.run_getObj_map hb, hchk, hfind]
              · rename_i hf
                obtain ⟨res, f1, f2, ⟨_, h4⟩ | ⟨j', p, e, h1, _⟩⟩ := hfs _ hf
                · have hfind := qsr hdk.und f1 f2
                  subst h4
                  cases ok with
                  | true =>
                    simp at hv; subst hv
                    refine ⟨.tuple #[zv, .bool false], .c (.tup _ _ rfl (fun q y u hy hu => ?_)), fun w' hw => ?_⟩
                    · match q with
                      | 0 => simp at hy hu; subst hy; subst hu; exact hz0 _ _
                      | 1 => simp at hy hu; subst hy; subst hu; exact .bool false
                      | q + 2 => simp at hy
                    · have hb : w'.heap[g.jb r]? = some (.map arr clock) := by rw [hw _ hlt]; exact b1
                      unfold execOp
                      simp only [ho, hxv, hkv]
                      simp [Instr.lookup, run_underlying hd.und, MapKept.run_getObj_map hb, hchk, hfind, hzv3]
                  | false =>
                    simp at hv; subst hv
                    refine ⟨zv, .c (hz0 _ _), fun w' hw => ?_⟩
                    have hb : w'.heap[g.jb r]? = some (.map arr clock) := by rw [hw _ hlt]; exact b1
                    unfold execOp
                    simp only [ho, hxv, hkv]
                    simp [Instr.lookup, run_underlying hd.und, MapKept.run_getObj_map hb, hchk, hfind, hzv3]
                · cases h1
              · cases hv
            · cases hv
          · cases hv
        · cases hv
      · cases hc
    · cases hc
  · cases hc
end
end Go.Pev
/- All operations that read and compute alone. -/
namespace Go.Pev
open Go
set_option linter.unusedVariables false
set_option linter.unusedSimpArgs false
section
variable {g : Gh} {m : Mem} {w : World} {t : Env} {a : Act} {P : Program} {T : Tab}
theorem qqh (hT : T.ok P) (hok : OK1 g m w) (hr : ERel g m w t a) {o : Oper} {so : SOp} {v : AV} (hc : cOp T o.op = some so) (hv : qa t m so = some v) : qc4 P g m w a o v := by
  have hc0 := hc
  cases ho : o.op with
  | move x =>
    rw [ho] at hc
    simp only [cOp, Option.bind_eq_bind, Option.bind_eq_some_iff, Option.some.injEq] at hc
    obtain ⟨y, h1, rfl⟩ := hc
    exact p_mv hr x (by unfold execOp; simp only [ho]) y h1 hv
  | assign x =>
    rw [ho] at hc
    simp only [cOp, Option.bind_eq_bind, Option.bind_eq_some_iff, Option.some.injEq] at hc
    obtain ⟨y, h1, rfl⟩ := hc
    exact p_mv hr x (by unfold execOp; simp only [ho]) y h1 hv
  | pick c x y => exact qbdl hr ho hc hv
  | alloc ty =>
    rw [ho] at hc
    simp only [cOp, Option.bind_eq_bind, Option.bind_eq_some_iff] at hc
    obtain ⟨ti, _, z, _, hc⟩ := hc
    split at hc <;> simp at hc
    subst hc
    simp [qa] at hv
  | box ty x =>
    rw [ho] at hc
    simp only [cOp, Option.bind_eq_bind, Option.bind_eq_some_iff, Option.some.injEq] at hc
    obtain ⟨y, h1, rfl⟩ := hc
    simp [qa] at hv
  | build ty ps => exact qbb7 hT hr ho hc hv
  | buildSlice ty n ps =>
    rw [ho] at hc
    simp only [cOp, Option.bind_eq_bind, Option.bind_eq_some_iff] at hc
    obtain ⟨ti, _, hc⟩ := hc
    split at hc
    · simp only [Option.bind_eq_some_iff] at hc
      obtain ⟨ei, _, z, _, hc⟩ := hc
      split at hc
      · cases hc
      split at hc
      · cases hc
      split at hc
      · cases hc
      simp only [Option.bind_eq_some_iff, Option.some.injEq] at hc
      obtain ⟨y, h1, rfl⟩ := hc
      simp [qa] at hv
    · cases hc
  | load ty x => exact qbdm hT hok hr ho hc hv
  | store ty x y =>
    rw [ho] at hc
    simp only [cOp, Option.bind_eq_bind, Option.bind_eq_some_iff, Option.some.injEq] at hc
    obtain ⟨ti, _, x', _, y', _, rfl⟩ := hc
    simp [qa] at hv
  | nilCheck x => exact qbdn hr ho hc hv
  | binOp op ty x y ty' =>
    rw [ho] at hc
    simp only [cOp, Option.bind_eq_bind, Option.bind_eq_some_iff] at hc
    obtain ⟨ti, hti, hc⟩ := hc
    split at hc
    · simp only [Option.bind_eq_some_iff, Option.some.injEq] at hc
      obtain ⟨x', h1, y', h2, rfl⟩ := hc
      exact qbbs hr ho h1 h2 hv
    · simp only [Option.bind_eq_some_iff, Option.some.injEq] at hc
      obtain ⟨x', h1, y', h2, rfl⟩ := hc
      exact qbbs hr ho h1 h2 hv
    · rename_i hn1 hn2
      simp only [Option.bind_eq_some_iff, Option.some.injEq] at hc
      obtain ⟨ks, hk, x', h1, y', h2, rfl⟩ := hc
      exact p_eq (neg := false) hT hr (by simpa using ho) hti ⟨hn1, hn2⟩ hk h1 h2 hv
    · rename_i hn1 hn2
      simp only [Option.bind_eq_some_iff, Option.some.injEq] at hc
      obtain ⟨ks, hk, x', h1, y', h2, rfl⟩ := hc
      exact p_eq (neg := true) hT hr (by simpa using ho) hti ⟨hn1, hn2⟩ hk h1 h2 hv
    · cases hc
  | unOp op ty x => exact p_un hr ho hc hv
  | convert sT dT x => exact qbdp hT hok hr ho hc hv
  | slice s x lo hi mx =>
    rw [ho] at hc
    simp only [cOp, Option.bind_eq_bind, Option.bind_eq_some_iff] at hc
    obtain ⟨ti, hti, hc⟩ := hc
    split at hc
    · cases hc
    rename_i hmx
    have hmx' : mx = none := by simpa using hmx
    subst hmx'
    split at hc
    · rename_i htd
      simp only [Option.bind_eq_some_iff, Option.some.injEq] at hc
      obtain ⟨x', h1, lo', h2, hi', h3, rfl⟩ := hc
      exact qbdo hT hr ho hti htd h1 h2 h3 hv
    · simp only [Option.bind_eq_some_iff] at hc
      obtain ⟨ei, _, hc⟩ := hc
      split at hc
      · cases hc
      simp only [Option.bind_eq_some_iff, Option.some.injEq] at hc
      obtain ⟨x', h1, lo', h2, hi', h3, rfl⟩ := hc
      simp [qa] at hv
    · simp only [Option.bind_eq_some_iff] at hc
      obtain ⟨ei, _, hc⟩ := hc
      split at hc
      · cases hc
      simp only [Option.bind_eq_some_iff, Option.some.injEq] at hc
      obtain ⟨x', h1, lo', h2, hi', h3, rfl⟩ := hc
      simp [qa] at hv
    · cases hc
  | fieldAddr s x f => exact p_fa hT hr ho hc hv
  | field s x f => exact qbet hT hr ho hc hv
  | indexAddr s x ix =>
    rw [ho] at hc
    simp only [cOp, Option.bind_eq_bind, Option.bind_eq_some_iff] at hc
    obtain ⟨ti, hti, hc⟩ := hc
    split at hc
    · rename_i htd
      simp only [Option.bind_eq_some_iff] at hc
      obtain ⟨ei, hei, hc⟩ := hc
      split at hc
      · cases hc
      simp only [Option.bind_eq_some_iff, Option.some.injEq] at hc
      obtain ⟨x', h1, i', h2, rfl⟩ := hc
      exact p_ia hT hok hr ho hti htd hei h1 h2 hv
    · rename_i htd
      simp only [Option.bind_eq_some_iff] at hc
      obtain ⟨ei, hei, hc⟩ := hc
      split at hc
      · cases hc
      simp only [Option.bind_eq_some_iff, Option.some.injEq] at hc
      obtain ⟨x', h1, i', h2, rfl⟩ := hc
      exact qbeu hT hr ho hti htd hei h1 h2 hv
    · cases hc
  | index s x ix =>
    rw [ho] at hc
    simp only [cOp, Option.bind_eq_bind, Option.bind_eq_some_iff] at hc
    obtain ⟨ti, hti, hc⟩ := hc
    split at hc
    · rename_i htd
      simp only [Option.bind_eq_some_iff, Option.some.injEq] at hc
      obtain ⟨x', h1, i', h2, rfl⟩ := hc
      exact qbev hT hr ho hti htd h1 h2 hv
    · rename_i htd
      simp only [Option.bind_eq_some_iff, Option.some.injEq] at hc
      obtain ⟨ei, hei, x', h1, i', h2, rfl⟩ := hc
      exact qbew hT hr ho hti htd hei h1 h2 hv
    · cases hc
  | extract x i => exact qbex hr ho hc hv
  | makeSlice ty l c =>
    rw [ho] at hc
    simp only [cOp, Option.bind_eq_bind, Option.bind_eq_some_iff] at hc
    obtain ⟨ti, _, hc⟩ := hc
    split at hc
    · simp only [Option.bind_eq_some_iff] at hc
      obtain ⟨ei, _, z, _, hc⟩ := hc
      split at hc
      · cases hc
      split at hc
      · simp only [Option.bind_eq_some_iff, Option.some.injEq] at hc
        obtain ⟨l', _, c', _, rfl⟩ := hc
        simp [qa] at hv
      · split at hc
        · simp only [Option.bind_eq_some_iff, Option.some.injEq] at hc
          obtain ⟨l', _, c', _, rfl⟩ := hc
          simp [qa] at hv
        · cases hc
    · cases hc
  | makeFunc fn first caps =>
    cases fn with
    | func f => exact qbey hr ho hc hv
    | _ => rw [ho] at hc; simp [cOp] at hc
  | makeMap ty r =>
    cases r with
    | none => rw [ho] at hc; simp [cOp] at hc; subst hc; simp [qa] at hv
    | some r => rw [ho] at hc; simp [cOp] at hc
  | mapUpdate ty x k y =>
    rw [ho] at hc
    obtain ⟨kk, x', k', y', rfl⟩ := qss (.inl rfl) hc
    simp [qa] at hv
  | insert ty x k y =>
    rw [ho] at hc
    obtain ⟨kk, x', k', y', rfl⟩ := qss (.inr rfl) hc
    simp [qa] at hv
  | lookup ty x k ok => exact qbds hT hok hr ho hc0 hv
  | call c =>
    obtain ⟨callee, args, argTypes⟩ := c
    cases callee with
    | builtin b =>
      rw [ho] at hc
      simp only [cOp] at hc
      split at hc
      · simp only [Option.bind_eq_bind, Option.bind_eq_some_iff] at hc
        obtain ⟨si, _, xi, _, hc⟩ := hc
        split at hc
        · simp only [Option.bind_eq_some_iff] at hc
          obtain ⟨ei, _, z, _, hc⟩ := hc
          split at hc
          · cases hc
          simp only [Option.bind_eq_some_iff, Option.some.injEq] at hc
          obtain ⟨s', _, x', _, rfl⟩ := hc
          simp [qa] at hv
        · simp only [Option.bind_eq_some_iff] at hc
          obtain ⟨ei, _, z, _, hc⟩ := hc
          split at hc
          · cases hc
          simp only [Option.bind_eq_some_iff, Option.some.injEq] at hc
          obtain ⟨s', _, x', _, rfl⟩ := hc
          simp [qa] at hv
        · cases hc
      · rename_i x xt ha hat
        simp only [Option.bind_eq_bind, Option.bind_eq_some_iff] at hc
        obtain ⟨xi, hxi, hc⟩ := hc
        split at hc
        · rename_i htd
          simp only [Option.bind_eq_some_iff, Option.some.injEq] at hc
          obtain ⟨x', h1, rfl⟩ := hc
          exact qbbt hT hr ho rfl ha hat hxi true (by simpa using htd) h1 hv
        · rename_i e htd
          simp only [Option.bind_eq_some_iff, Option.some.injEq] at hc
          obtain ⟨x', h1, rfl⟩ := hc
          exact qbbt hT hr ho rfl ha hat hxi false (by simpa using ⟨e, htd⟩) h1 hv
        · rename_i n e htd
          simp at hc; subst hc
          simp [qa, ev] at hv; subst hv
          obtain ⟨i, d, hd⟩ := hT.facts hxi
          have htd' := hd.td
          rw [htd] at htd'
          cases d <;> simp [TDof] at htd'
          obtain ⟨rfl, rfl⟩ := htd'
          have ha' : args = #[x] := by rw [← Array.toList_inj]; exact ha
          have hat' : argTypes = #[xt] := by rw [← Array.toList_inj]; exact hat
          refine ⟨.int .i64 n, .c (.int _ _), fun w' _ => ?_⟩
          unfold execOp
          simp only [ho]
          simp [resolve, ha', hat', invoke, builtin, Builtin.len_, run_underlying hd.und, goInt]
        · cases hc
      · rename_i x xs _ ha
        simp only [Option.bind_eq_bind, Option.bind_eq_some_iff, Option.some.injEq] at hc
        obtain ⟨x', h1, xs', h2, rfl⟩ := hc
        exact p_mm (mx := false) hr ho rfl ha h1 h2 hv
      · rename_i x xs _ ha
        simp only [Option.bind_eq_bind, Option.bind_eq_some_iff, Option.some.injEq] at hc
        obtain ⟨x', h1, xs', h2, rfl⟩ := hc
        exact p_mm (mx := true) hr ho rfl ha h1 h2 hv
      · cases hc
    | value f =>
      rw [ho] at hc
      cases f <;> simp only [cOp, Option.bind_eq_bind, Option.bind_eq_some_iff, Option.some.injEq] at hc
      case func f => obtain ⟨ys, _, rfl⟩ := hc; simp [qa] at hv
      all_goals (obtain ⟨y, _, ys, _, rfl⟩ := hc; simp [qa] at hv)
    | invoke r s => rw [ho] at hc; simp [cOp] at hc
  | _ => rw [ho] at hc; simp [cOp] at hc
theorem qiz (hT : T.ok P) (hok : OK g m w) (hr : ERel g m w t a) {o : Oper} {so : SOp} {v : AV} (hc : cOp T o.op = some so) (hv : qa t m so = some v) : qc4 P g m w a o v :=
  qqh hT hok.to1 hr hc hv
end
end Go.Pev
/- Operations that make or write small objects (1). -/
namespace Go.Pev
open Go
set_option linter.unusedVariables false
set_option linter.unusedSimpArgs false
section
variable {g : Gh} {m : Mem} {w : World} {t : Env} {a : Act} {P : Program} {T : Tab}
def MC (P : Program) (g : Gh) (m : Mem) (w : World) (a : Act) (o : Oper) (v : AV) (m' : Mem) : Prop :=
  ∃ nx cv w' g', (execOp a.eval o).run P w = .ok nx w' ∧ (nx = .value cv ∨ (nx = .skip ∧ cv = Go.undef)) ∧ VRel g' m' w' v cv ∧ OK g' m' w' ∧ Ext g m w g' m' w'
theorem qi0 (hok : OK g m w) {x y : AV} {v : Value} (hx : VRel g m w x v) (h : qu m x = some y) {l : List Nat} (hl : ∀ r, r ∈ qv x → r ∈ l) : CRel (g.shut m l).I w y v ∧ y.leaf = true := by
  by_cases hid : qv x = []
  · obtain ⟨hc, rfl⟩ := qil hx h hid
    refine ⟨hc.mono (fun b k hk => ⟨.inl hk, rfl⟩), ?_⟩
    cases y <;> first | rfl | (simp [qu] at h)
  · have : ∃ r n, x = .own r n := by cases x <;> first | (exact absurd rfl hid) | exact ⟨_, _, rfl⟩
    obtain ⟨r, n, rfl⟩ := this
    simp only [qu] at h
    split at h
    · rename_i wf e xs hs
      split at h
      · rename_i hn
        simp at h; subst h
        refine ⟨?_, rfl⟩
        cases hx with
        | c h => cases h
        | own _ _ sa c hr hh =>
          have h3 := (hh wf e xs hs).2 hn
          subst hn
          rcases hok.ob r _ hs with ⟨h4, rfl⟩ | ⟨h0, arr, h4, h5, h6, h7, h8, h9, h10⟩
          · simp [Bk.val, h4] at h3
            obtain ⟨rfl, rfl⟩ := h3
            exact .sl e [] none 0 0 0 (fun _ => Go.undef) (by simp) (.inl rfl) (by simp) (by simp) (by simp) (by simp)
          · simp [Bk.val, h0] at h3
            obtain ⟨rfl, rfl⟩ := h3
            have key : ∀ (i : Nat) (x : AV) (k : Nat) (y : AV), xs[i]? = some x → x.cells[k]? = some y → i * e + k < xs.length * e ∧ i * e + k < arr.size := by
              intro i x k y hx hy
              have hi : i < xs.length := (List.getElem?_eq_some_iff.1 hx).1
              have hk : k < e := by rw [← h7 i x hx]; exact (List.getElem?_eq_some_iff.1 hy).1
              have hle : (i + 1) * e ≤ xs.length * e := Nat.mul_le_mul_right e (by omega)
              have hle2 := Nat.mul_le_mul_right e h5
              rw [Nat.add_mul] at hle
              omega
            refine .sl e xs _ _ (g.ja r).b 0 (fun j => arr.getD j Go.undef) h5 (.inr rfl) h7 h8 (fun i x k y hx hy => ⟨?_, ?_⟩) (fun i x k y hx hy => ?_)
            · rw [Nat.zero_add]
              exact .inr ⟨r, hl r (by simp [qv]), wf, e, xs, hs, h0, rfl, (key i x k y hx hy).1⟩
            · rw [Nat.zero_add, qr h4]
              simp [(key i x k y hx hy).2]
            · have := h9 i x k y arr[i * e + k]! hx hy (by simp [(key i x k y hx hy).2])
              have e2 : arr.getD (i * e + k) Go.undef = arr[i * e + k]! := by simp [(key i x k y hx hy).2]
              rw [e2]
              exact this.mono (fun b k hk => ⟨.inl hk, rfl⟩)
      · cases h
    · cases h
theorem qht : ∀ (cs ys : List AV), qck m cs = some ys → ys.length = cs.length ∧ ∀ (k : Nat) (x y : AV), cs[k]? = some x → ys[k]? = some y → qu m x = some y
  | [], ys, h => by simp [qck] at h; subst h; simp
  | x :: xs, ys, h => by
    simp only [qck] at h
    split at h
    · rename_i y r h1 h2
      simp at h; subst h
      obtain ⟨h3, h4⟩ := qht xs r h2
      refine ⟨by simp [h3], fun k p q hp hq => ?_⟩
      cases k with
      | zero => simp at hp hq; subst hp; subst hq; exact h1
      | succ k => simp at hp hq; exact h4 k p q hp hq
    · cases h
theorem qim : ∀ (cs ys : List AV), qcd m cs = some ys → ys.length = cs.length ∧ ∀ (k : Nat) (x y : AV), cs[k]? = some x → ys[k]? = some y → snap m x = some y
  | [], ys, h => by simp [qcd] at h; subst h; simp
  | x :: xs, ys, h => by
    simp only [qcd] at h
    split at h
    · rename_i y r h1 h2
      simp at h; subst h
      obtain ⟨h3, h4⟩ := qim xs r h2
      refine ⟨by simp [h3], fun k p q hp hq => ?_⟩
      cases k with
      | zero => simp at hp hq; subst hp; subst hq; exact h1
      | succ k => simp at hp hq; exact h4 k p q hp hq
    · cases h
theorem qeu (hok : OK g m w) {x y : AV} {v : Value} (hx : VRel g m w x v) (h : snap m x = some y) {l : List Nat} (hl : ∀ r, r ∈ ids x → r ∈ l) : CRel (g.shut m l).I w y v ∧ (∀ z, z ∈ y.cells → z.leaf = true) := by
  by_cases hag : ∃ cs, x = .agg cs
  · obtain ⟨cs, rfl⟩ := hag
    simp only [snap] at h
    obtain ⟨ys, h1, rfl⟩ := Option.map_eq_some_iff.1 h
    obtain ⟨h2, h3⟩ := qht cs ys h1
    obtain ⟨vs, rfl, hs, hh⟩ : ∃ vs, v = .agg vs ∧ vs.size = cs.length ∧ ∀ (k : Nat) (x : AV) (v : Value), cs[k]? = some x → vs[k]? = some v → VRel g m w x v := by
      cases hx with
      | c h => cases h with
        | agg _ vs hl hs hh => exact ⟨vs, rfl, hs, fun k x v h1 h2 => .c (hh k x v h1 h2)⟩
      | agg _ vs hl hs hh => exact ⟨vs, rfl, hs, hh⟩
    have each : ∀ (k : Nat) (y : AV) (v : Value), ys[k]? = some y → vs[k]? = some v → CRel (g.shut m l).I w y v ∧ y.leaf = true := by
      intro k y v hy hv
      have hk : k < cs.length := by rw [← h2]; exact (List.getElem?_eq_some_iff.1 hy).1
      have hxk : cs[k]? = some cs[k] := by simp [hk]
      exact qi0 hok (hh k _ v hxk hv) (h3 k _ y hxk hy) (fun r hr => hl r (by simp only [ids, List.mem_flatMap]; exact ⟨_, List.mem_of_getElem? hxk, hr⟩))
    have hlf : ∀ z, z ∈ ys → z.leaf = true := by
      intro z hz
      obtain ⟨k, hk, rfl⟩ := List.getElem_of_mem hz
      have hk2 : k < vs.size := by omega
      exact (each k ys[k] vs[k] (by simp [hk]) (by simp [hk2])).2
    exact ⟨.agg ys vs hlf (by omega) (fun k x v hx hv => (each k x v hx hv).1), hlf⟩
  · have e1 : snap m x = qu m x := by cases x <;> first | rfl | (exact absurd ⟨_, rfl⟩ hag)
    have e2 : ids x = qv x := by cases x <;> first | rfl | (exact absurd ⟨_, rfl⟩ hag)
    rw [e1] at h
    rw [e2] at hl
    obtain ⟨h1, h2⟩ := qi0 hok hx h hl
    refine ⟨h1, fun z hz => ?_⟩
    have e3 : y.cells = [y] := by cases y <;> first | rfl | (simp [AV.leaf] at h2)
    rw [e3] at hz
    simp at hz
    subst hz
    exact h2
theorem qbb8 (hT : T.ok P) (hok : OK g m w) {o : Oper} {ty so v m'} (ho : o.op = .alloc ty) (hc : cOp T o.op = some so) (hv : qd t m so = some (v, m')) : MC P g m w a o v m' := by
  rw [ho] at hc
  simp only [cOp, Option.bind_eq_bind, Option.bind_eq_some_iff] at hc
  obtain ⟨ti, hti, z, hz, hc⟩ := hc
  split at hc
  · rename_i hsz
    simp at hc; subst hc
    simp only [qd] at hv
    split at hv
    · simp at hv
      obtain ⟨rfl, rfl⟩ := hv
      obtain ⟨i, d, hd⟩ := hT.facts hti
      obtain ⟨zv, hz1, hz2, hz3⟩ := hd.zeroValue hz
      obtain ⟨h1, h2, h3⟩ := qkd (I := g.I) (w := w) hz2
      obtain ⟨h4, h5⟩ := hok.newBox z zv.cells ty h1 h2 (fun k x v hx hv => .c (h3 k x v hx hv))
      refine ⟨.value (.pointer (some ⟨w.heap.size, 0, none⟩)), _, w.alloc (.cells zv.cells ty), _, ?_, .inl rfl, ?_, h4, h5⟩
      · unfold execOp
        simp only [ho]
        simp [Instr.alloc, hz3, newVar, newRow]
      · have := VRel.ptr (g := g.addb m.n w.heap.size) (m := m.new (.box true z)) (w := w.alloc (.cells zv.cells ty)) m.n 0 (by simp [Mem.new])
        simpa [Gh.addb] using this
    · cases hv
  · cases hc
theorem qbez (hok : OK g m w) (hr : ERel g m w t a) {o : Oper} {ty so v m'} {x : Operand} (ho : o.op = .box ty x) (hc : cOp T o.op = some so) (hv : qd t m so = some (v, m')) : MC P g m w a o v m' := by
  rw [ho] at hc
  simp only [cOp, Option.bind_eq_bind, Option.bind_eq_some_iff, Option.some.injEq] at hc
  obtain ⟨x', h1, rfl⟩ := hc
  simp only [qd] at hv
  split at hv
  · rename_i hlf
    simp at hv
    obtain ⟨rfl, rfl⟩ := hv
    obtain ⟨h2, h3, h4⟩ := (qe hr h1).cellsR hlf
    obtain ⟨h5, h6⟩ := hok.newBox (ev t x').cells (a.eval x).cells ty h2 h3 h4
    refine ⟨.value (.pointer (some ⟨w.heap.size, 0, none⟩)), _, w.alloc (.cells (a.eval x).cells ty), _, ?_, .inl rfl, ?_, h5, h6⟩
    · unfold execOp
      simp only [ho]
      simp [Instr.box, newVar, newRow]
    · have := VRel.ptr (g := g.addb m.n w.heap.size) (m := m.new (.box true (ev t x').cells)) (w := w.alloc (.cells (a.eval x).cells ty)) m.n 0 (by simp [Mem.new])
      simpa [Gh.addb] using this
  · cases hv
theorem q37 (e : Nat) : ∀ (vs : List Value) (i0 : Nat) (arr : Array Value), (∀ v, v ∈ vs → v.cells.size = e) → (i0 + vs.length) * e ≤ arr.size →
    ∃ out, Instr.fill (fun i => some (i * e, e)) arr ((vs.zipIdx i0).map fun p => (p.2, p.1)) = some out ∧ out.size = arr.size ∧
      (∀ (i : Nat) (v : Value), vs[i]? = some v → ∀ k, k < e → out[(i0 + i) * e + k]? = v.cells[k]?) ∧ ∀ j, j < i0 * e → out[j]? = arr[j]?
  | [], i0, arr, _, _ => ⟨arr, rfl, rfl, by simp, fun _ _ => rfl⟩
  | v :: vs, i0, arr, hs, hle => by
    have hve := hs v (by simp)
    have hle1 : i0 * e + e ≤ arr.size := by
      have : (i0 + 1) * e ≤ (i0 + (v :: vs).length) * e := Nat.mul_le_mul_right e (by simp)
      rw [Nat.add_mul] at this
      omega
    obtain ⟨hf1, hf2⟩ := qu4 (i0 * e) v.cells.toList 0 arr (by simp [hve]; omega)
    obtain ⟨out, h1, h2, h3, h4⟩ := q37 e vs (i0 + 1) ((v.cells.toList.zipIdx 0).foldl (fun cs (p : Value × Nat) => cs.setIfInBounds (i0 * e + p.2) p.1) arr) (fun u hu => hs u (by simp [hu])) (by rw [hf1]; simp at hle; rw [show i0 + 1 + vs.length = i0 + (vs.length + 1) by omega]; exact hle)
    refine ⟨out, ?_, by rw [h2, hf1], fun i u hu k hk => ?_, fun j hj => ?_⟩
    · simp only [List.zipIdx_cons, List.map_cons]
      unfold Instr.fill
      have hno : ¬ ((decide (v.cells.size ≠ e) || decide (i0 * e + v.cells.size > arr.size)) = true) := by simp [hve]; omega
      simp only
      rw [if_neg hno, ← h1]
      congr 1
      rw [← Array.foldl_toList, Array.toList_zipIdx]
    · cases i with
      | zero =>
        simp at hu; subst hu
        rw [Nat.add_zero, h4 _ (by rw [Nat.add_mul]; omega), hf2, if_pos (by simp [hve]; omega)]
        simp
      | succ i =>
        simp at hu
        have := h3 i u hu k hk
        rw [show i0 + (i + 1) = i0 + 1 + i by omega]
        exact this
    · rw [h4 j (by rw [Nat.add_mul]; omega), hf2, if_neg (by omega)]
theorem qbe0 (hT : T.ok P) (hok : OK g m w) (hr : ERel g m w t a) {o : Oper} {ty so v m'} {n : Nat} {ps : Array (Nat × Operand)} (ho : o.op = .buildSlice ty n ps) (hc : cOp T o.op = some so) (hv : qd t m so = some (v, m')) : MC P g m w a o v m' := by
  rw [ho] at hc
  simp only [cOp, Option.bind_eq_bind, Option.bind_eq_some_iff] at hc
  obtain ⟨ti, hti, hc⟩ := hc
  split at hc
  · rename_i e htd
    simp only [Option.bind_eq_some_iff] at hc
    obtain ⟨ei, hei, z, hz, hc⟩ := hc
    split at hc
    · cases hc
    rename_i hz0
    split at hc
    · cases hc
    rename_i hbig
    split at hc
    · cases hc
    rename_i hrange
    simp only [Option.bind_eq_some_iff, Option.some.injEq] at hc
    obtain ⟨ys, hys, rfl⟩ := hc
    simp only [qd] at hv
    split at hv
    · rename_i xs hxs
      split at hv
      · rename_i hall
        simp at hv
        obtain ⟨rfl, rfl⟩ := hv
        obtain ⟨i, d, hd⟩ := hT.facts hti
        obtain ⟨j, de, hde⟩ := hT.facts hei
        obtain ⟨zv, hz1, hz2, hz3⟩ := hde.zeroValue hz
        have htd' := hd.td
        rw [htd] at htd'
        cases d <;> simp [TDof] at htd'
        subst htd'
        have hrange' : ps.toList.map (·.1) = List.range n := Decidable.of_not_not hrange
        have hn : ps.size = n := by have := congrArg List.length hrange'; simpa using this
        obtain ⟨hv1, hv2⟩ := q00 hr hys
        obtain ⟨hs1, hs2⟩ := qim _ _ hxs
        have hlen : xs.length = n := by rw [hs1, ← hv1]; simp [hn]
        -- the values
        have hvals : ∀ (k : Nat) (x : AV) (u : Value), xs[k]? = some x → ((ps.map (·.2)).map a.eval)[k]? = some u → CRel (g.shut m (idss (evs t ys))).I w x u ∧ (∀ z, z ∈ x.cells → z.leaf = true) := by
          intro k x u hx hu
          have hk : k < (evs t ys).length := by rw [← hs1]; exact (List.getElem?_eq_some_iff.1 hx).1
          have hy : (evs t ys)[k]? = some (evs t ys)[k] := by simp [hk]
          exact qeu hok (hv2 k _ u hy hu) (hs2 k _ x hy hx) (fun r hr => by simp only [idss, List.mem_flatMap]; exact ⟨_, List.mem_of_getElem? hy, hr⟩)
        have hcell : ∀ (k : Nat) (x : AV) (u : Value), xs[k]? = some x → ((ps.map (·.2)).map a.eval)[k]? = some u → u.cells.size = ei.sz ∧ x.cells.length = ei.sz ∧ ∀ (q : Nat) (y : AV) (c : Value), x.cells[q]? = some y → u.cells[q]? = some c → CRel (g.shut m (idss (evs t ys))).I w y c := by
          intro k x u hx hu
          obtain ⟨h1, h2⟩ := hvals k x u hx hu
          have h3 : x.cells.length = ei.sz := by simpa using List.all_eq_true.1 hall x (List.mem_of_getElem? hx)
          have h4 := (VRel.c (g := g.shut m (idss (evs t ys))) (m := m) h1).cells h2
          refine ⟨by rw [h4.1, h3], h3, fun q y c hy hcc => ?_⟩
          by_cases hag : ∃ l, x = .agg l
          · obtain ⟨l, rfl⟩ := hag
            cases h1 with
            | agg _ vs _ hs hh => exact hh q y c hy hcc
          · have e1 : x.cells = [x] := by cases x <;> first | rfl | (exact absurd ⟨_, rfl⟩ hag)
            have hxl : x.leaf = true := h2 x (by simp [e1])
            rw [e1] at hy
            rw [qoj (h1.oneCell hxl)] at hcc
            cases q with
            | zero => simp at hy hcc; subst hy; subst hcc; exact h1
            | succ q => simp at hy
        let vs := ((ps.map (·.2)).map a.eval).toList
        have hvl : vs.length = n := by simp [vs, hn]
        have hvg : ∀ (k : Nat) (hk : k < vs.length), ((ps.map (·.2)).map a.eval)[k]? = some vs[k] := by
          intro k hk
          rw [← Array.getElem?_toList]
          exact List.getElem?_eq_getElem hk
        obtain ⟨out, hf1, hf2, hf3, hf4⟩ := q37 ei.sz vs 0 ((Array.range (n * ei.sz)).map (zv.cells[· % zv.cells.size]!)) (fun u hu => by
          obtain ⟨k, hk, rfl⟩ := List.getElem_of_mem hu
          have hk2 : k < xs.length := by omega
          exact (hcell k xs[k] vs[k] (by simp [hk2]) (hvg k hk)).1) (by simp [hvl])
        have hparts : (ps.map fun (i, x) => (i, a.eval x)).toList = (vs.zipIdx 0).map fun p => (p.2, p.1) := by
          apply List.ext_getElem?
          intro k
          by_cases hk : k < n
          · have hk' : k < ps.size := by omega
            have h1 : (ps.toList.map (·.1))[k]? = some k := by rw [hrange']; simp [hk]
            simp [hk'] at h1
            simp [vs, hk', h1, List.getElem?_zipIdx]
          · rw [List.getElem?_eq_none (by simp [hn]; omega), List.getElem?_eq_none (by simp [hvl]; omega)]
        obtain ⟨hok1, _⟩ := hok.frz (idss (evs t ys))
        have hext1 := Ext.frz hok (idss (evs t ys))
        have hsz0 : ei.sz ≠ 0 := fun h => hz0 (.inl h)
        obtain ⟨h5, h6⟩ := hok1.newArr ei.sz n xs out e (by omega) (by rw [hf2]; simp) (fun i x hx => by simpa using List.all_eq_true.1 hall x (List.mem_of_getElem? hx))
          (fun i x k y hx hy => by
            have hi : i < vs.length := by rw [hvl, ← hlen]; exact (List.getElem?_eq_some_iff.1 hx).1
            exact (hvals i x vs[i] hx (hvg i hi)).2 y (List.mem_of_getElem? hy))
          (fun i x k y u hx hy hu => by
            have hi : i < vs.length := by rw [hvl, ← hlen]; exact (List.getElem?_eq_some_iff.1 hx).1
            have hvi : ((ps.map (·.2)).map a.eval)[i]? = some vs[i] := hvg i hi
            obtain ⟨h7, h8, h9⟩ := hcell i x vs[i] hx hvi
            have hk : k < ei.sz := by rw [← h8]; exact (List.getElem?_eq_some_iff.1 hy).1
            have := hf3 i vs[i] (by simp [hi]) k hk
            rw [Nat.zero_add, hu] at this
            exact h9 k y u hy this.symm)
        refine ⟨.value (.slice (some ⟨w.heap.size, 0, none⟩) n n), _, w.alloc (.cells out e), _, ?_, .inl rfl, ?_, h5, hext1.trans h6⟩
        · unfold execOp
          simp only [ho]
          have hb2 : ¬ (16777216 < n * ei.sz) := by omega
          by_cases hn0 : n * ei.sz = 0
          · have hn00 : n = 0 := by
              rcases Nat.mul_eq_zero.1 hn0 with h | h
              · exact h
              · exact absurd h hsz0
            have hps : ps = #[] := by apply Array.eq_empty_of_size_eq_zero; omega
            subst hn00
            subst hps
            have : out = #[] := by apply Array.eq_empty_of_size_eq_zero; rw [hf2]; simp
            subst this
            clear hf1 hf2 hf3 hf4 hparts hvals hcell
            have hr0 : (Array.map (fun (_ : Nat) => (default : Value)) (Array.range 0)) = #[] := by simp [Array.range]
            simp [Instr.buildSlice, run_underlying hd.und, hde.sizeOf w, Instr.fill, newRow, hr0]
          · simp only [Instr.buildSlice, Sem.run_bind, run_underlying hd.und, Result.andThen_ok, hde.sizeOf w, gt_iff_lt, Nat.reducePow, if_neg hb2, if_neg hn0, Sem.run_pure, hz3 w]
            have hf1' : Instr.fill (fun i => some (i * ei.sz, ei.sz)) ((Array.range (n * ei.sz)).map (zv.cells[· % zv.cells.size]!)) ((ps.map fun (i, x) => (i, a.eval x)).toList) = some out := by rw [hparts]; exact hf1
            simp only [hf1']
            simp [newRow]
        · have := VRel.own (g := (g.shut m (idss (evs t ys))).adda (m.frz (idss (evs t ys))).n ⟨w.heap.size, n, false⟩) (m := (m.frz (idss (evs t ys))).new (.arr true ei.sz xs)) (w := w.alloc (.cells out e)) m.n xs.length (some ⟨w.heap.size, 0, none⟩) n (by simp [Mem.new, Mem.frz]) (fun wf e' xs' hs => by
            simp [Mem.new, Mem.frz] at hs
            obtain ⟨rfl, rfl, rfl⟩ := hs
            exact ⟨Nat.le_refl _, fun _ => by simp [Gh.adda, Mem.frz, Bk.val]⟩)
          rw [hlen] at this ⊢
          exact this
      · cases hv
    · cases hv
  · cases hc
end
end Go.Pev
/- Operations that make or write small objects (2): stores. -/
namespace Go.Pev
open Go
set_option linter.unusedVariables false
set_option linter.unusedSimpArgs false
theorem qbad {α : Type} (cs vs : List α) (off k : Nat) (h : off + vs.length ≤ cs.length) : (cs.take off ++ vs ++ cs.drop (off + vs.length))[k]? = if off ≤ k ∧ k < off + vs.length then vs[k - off]? else cs[k]? := by
  by_cases h1 : k < off
  · rw [if_neg (by omega), List.append_assoc, List.getElem?_append_left (by simp; omega), List.getElem?_take_of_lt h1]
  · by_cases h2 : k < off + vs.length
    · rw [if_pos ⟨by omega, h2⟩, List.append_assoc, List.getElem?_append_right (by simp; omega), List.getElem?_append_left (by simp; omega)]
      congr 1
      simp; omega
    · rw [if_neg (by omega), List.getElem?_append_right (by simp; omega), List.getElem?_drop]
      congr 1
      simp; omega
section
variable {g : Gh} {m : Mem} {w : World} {t : Env} {a : Act} {P : Program} {T : Tab}
theorem OK.same (h : OK g m w) {w' : World} (hh : w'.heap = w.heap) (hos : w'.os = w.os) (ht : w'.tape = w.tape) (ho : w'.output = w.output) : OK g m w' ∧ Ext g m w g m w' := by
  have hc : ∀ b k, w'.cell? ⟨b, k, none⟩ = w.cell? ⟨b, k, none⟩ := fun b k => qbj (by rw [hh]) k
  have hv : VExt g m w g m w' := ⟨fun b k hk => ⟨hk, hc b k⟩, fun _ _ => rfl, fun _ _ wf e xs h => ⟨wf, e, xs, h, rfl, Nat.le_refl _, fun _ => rfl⟩, Nat.le_refl _⟩
  refine ⟨⟨h.lt, fun r ob hs => (h.ob r ob hs).keep hv (fun b _ => by rw [hh]) rfl rfl (fun b _ k => Iff.rfl), h.ne, fun b k hk => ?_, h.tb.go (fun _ _ hk => hk) (fun b _ _ => by rw [hh]) (fun r ob b hs hb => .inr ⟨r, ob, hs, hb⟩)⟩, ?_⟩
  · obtain ⟨v, hv⟩ := h.im b k hk
    exact ⟨v, (hc b k).trans hv⟩
  · exact ⟨hv.im, hv.jb, hv.ja, hv.n, fun b _ _ => by rw [hh], fun b k hk => .inl hk, fun r ob b hs hb => .inr ⟨r, ob, hs, hb⟩, by rw [hh]; exact Nat.le_refl _, hos, ht, ho⟩
theorem qpu {b : Nat} {arr : Array Value} (hb : Blk w b arr) (off : Nat) (vs : List Value) (hle : off + vs.length ≤ arr.size) (h1 : ∀ v ∈ vs, v.oneCell' = true) :
    ∃ w1 arr1, (storeCells ⟨b, off, none⟩ vs).run P w = .ok () w1 ∧ Blk w1 b arr1 ∧ arr1.size = arr.size ∧ (∀ k, arr1[k]? = if off ≤ k ∧ k < off + vs.length then vs[k - off]? else arr[k]?) ∧
      (∀ b', b' ≠ b → w1.heap[b']? = w.heap[b']?) ∧ w1.heap.size = w.heap.size ∧ w1.os = w.os ∧ w1.tape = w.tape ∧ w1.output = w.output := by
  obtain ⟨T0, hg⟩ := hb
  have hrun := run_storeCells_at P b off T0 vs 0 arr w hg (by omega) h1
  simp only [Nat.add_zero] at hrun
  refine ⟨_, _, hrun, ⟨T0, setRow_heap w b arr _ T0 _ hg⟩, by simp; omega, fun k => ?_, fun b' hb' => setRow_other w b b' _ hb', by simp, by simp, by simp, by simp⟩
  have := qbad arr.toList vs off k (by simpa using hle)
  simpa using this
theorem qbb9 (hT : T.ok P) (hok : OK g m w) (hr : ERel g m w t a) {o : Oper} {ty so v m'} {x y : Operand} (ho : o.op = .store ty x y) (hc : cOp T o.op = some so) (hv : qd t m so = some (v, m')) : MC P g m w a o v m' := by
  rw [ho] at hc
  simp only [cOp, Option.bind_eq_bind, Option.bind_eq_some_iff, Option.some.injEq] at hc
  obtain ⟨ti, hti, x', hx', y', hy', rfl⟩ := hc
  obtain ⟨i, d, hd⟩ := hT.facts hti
  simp only [qd] at hv
  obtain ⟨m1, hw, hve⟩ := Option.map_eq_some_iff.1 hv
  simp at hve
  obtain ⟨rfl, rfl⟩ := hve
  have hp := qe hr hx'
  have hy := qe hr hy'
  unfold wr at hw
  split at hw
  · rename_i hcond
    obtain ⟨hlen, hleaf⟩ := hcond
    obtain ⟨hy1, hy2, hy3⟩ := hy.cellsR hleaf
    have hvs1 : ∀ u ∈ (a.eval y).cells.toList, u.oneCell' = true := by
      intro u hu
      obtain ⟨k, hk, rfl⟩ := List.getElem_of_mem hu
      have hk2 : k < (ev t y').cells.length := by rw [← hy1]; simpa using hk
      exact (hy3 k (ev t y').cells[k] _ (by simp [hk2]) (by simp at hk ⊢)).oneCell (hy2 _ (List.getElem_mem hk2))
    have hsz : (a.eval y).cells.size = ti.sz := by rw [hy1, hlen]
    have run : ∀ (b off : Nat) (w1 : World), a.eval x = .pointer (some ⟨b, off, none⟩) → (storeCells ⟨b, off, none⟩ (a.eval y).cells.toList).run P w = .ok () w1 → (execOp a.eval o).run P w = .ok .skip w1 := by
      intro b off w1 he hs
      unfold execOp
      simp only [ho, he]
      simp [Instr.storeAt, Instr.sureAddr, storeVar, hd.sizeOf w, hsz, hs]
    split at hw
    · rename_i r off he
      split at hw
      · rename_i cs hs
        split at hw
        · rename_i hle
          simp at hw; subst hw
          rw [he] at hp
          generalize hpv : a.eval x = pv at hp
          cases hp with
          | c h => cases h
          | ptr _ _ hrn =>
            obtain ⟨arr, hb1, hb2, hb3, hb4, hb5⟩ := hok.ob r _ hs
            obtain ⟨w1, arr1, h1, h2, h3, h4, h5, h6, h7, h8, h9⟩ := qpu (P := P) hb1 off (a.eval y).cells.toList (by simp [hsz]; omega) hvs1
            have hlt := qf9 hb1
            have hnoI : ∀ k, ¬ g.I (g.jb r) k := fun k hk => by have := ((hb5 k).1 hk).1; cases this
            obtain ⟨hok1, hext1⟩ := OK.one (g1 := g) (w1 := w1) (m1 := m.set r (.box true (putCells cs off (ev t y').cells))) r (.box true (putCells cs off (ev t y').cells)) hok rfl (Nat.le_refl _) hrn
              (fun _ _ => ⟨rfl, rfl⟩) (fun _ => rfl) (fun _ wf' e' xs' h => by cases h)
              (fun b hb hno => h5 b (fun hbb => hno _ hs (by simp [Ob.blk, hbb]))) (by omega) h7 h8 h9 (fun _ _ h => h) (fun _ _ h => .inl h)
              (fun b k hk => qbj (h5 b (fun hbb => by subst hbb; exact hnoI k hk)) k)
              (fun b k hk => by
                obtain ⟨u, hu⟩ := hok.im b k hk
                exact ⟨u, (qbj (h5 b (fun hbb => by subst hbb; exact hnoI k hk)) k).trans hu⟩)
              (fun hvx => by
                have hput := Cells.put (R := VRel g m w) ⟨hb2, hb3, hb4⟩ ⟨hy1, hy2, hy3⟩ off (by rw [hlen]; exact hle) arr1 h3 (fun k => by rw [h4 k]; simp)
                exact ⟨arr1, h2, hput.1, hput.2.1, fun k x v hx hv => (hput.2.2 k x v hx hv).mono hvx, fun k => ⟨fun hk => absurd hk (hnoI k), fun hk => by simp at hk⟩⟩)
              (fun b hb => .inr ⟨_, hs, by simpa [Ob.blk] using hb⟩)
            exact ⟨.skip, Go.undef, w1, g, run _ _ w1 hpv h1, .inr ⟨rfl, rfl⟩, .c .undef, hok1, hext1⟩
        · cases hw
      · cases hw
    · rename_i r n i0 off he
      split at hw
      · rename_i e xs hs
        split at hw
        · rename_i ys hys
          split at hw
          · rename_i hcond2
            obtain ⟨hn, hnid⟩ := hcond2
            rw [he] at hp
            generalize hpv : a.eval x = pv at hp
            cases hp with
            | c h => cases h
            | eptr _ _ _ _ _ hrn h1c hh =>
              obtain ⟨rfl, hnil⟩ := (hh true e xs hs).2 hn
              -- the values stored are closed behind the shutting
              generalize hl : (ev t y').cells.flatMap qv = l at hw hnid
              obtain ⟨hok0, _⟩ := hok.frz l
              have hext0 := Ext.frz hok l
              obtain ⟨hsn1, hsn2⟩ := qht _ _ hys
              have hyc : ∀ (k : Nat) (z : AV) (u : Value), ys[k]? = some z → (a.eval y).cells[k]? = some u → CRel (g.shut m l).I w z u ∧ z.leaf = true := by
                intro k z u hz hu
                have hk : k < (ev t y').cells.length := by rw [← hsn1]; exact (List.getElem?_eq_some_iff.1 hz).1
                have hzz : (ev t y').cells[k]? = some (ev t y').cells[k] := by simp [hk]
                refine qi0 hok (hy3 k _ u hzz hu) (hsn2 k _ z hzz hz) (fun q hq => ?_)
                rw [← hl, List.mem_flatMap]
                exact ⟨_, List.getElem_mem hk, hq⟩
              have hs0 : (m.frz l).s r = some (.arr true e xs) := by simp [Mem.frz, hnid, hs]
              rcases hok0.ob r _ hs0 with ⟨h3, _⟩ | ⟨hn0, arr, hb1, hb2, hb3, hb4, hb5, hb6, hb7⟩
              · have : ((g.shut m l).ja r).nil = (g.ja r).nil := rfl
                rw [this, hnil] at h3; cases h3
              · -- what is stored, element by element
                have key : ∀ (x0 x1 : AV), xs[i0]? = some x0 → off + ti.sz ≤ e → x1.cells.length = e → (∀ k, x1.cells[k]? = if off ≤ k ∧ k < off + ys.length then ys[k - off]? else x0.cells[k]?) →
                    m1 = (m.frz l).set r (.arr true e (xs.set i0 x1)) → MC P g m w a o .undef m1 := by
                  intro x0 x1 hx0 hoff hx1l hx1 hm1
                  have hyl : ys.length = ti.sz := by rw [hsn1, hlen]
                  have hi0 : i0 < xs.length := (List.getElem?_eq_some_iff.1 hx0).1
                  have hle1 : (i0 + 1) * e ≤ ((g.shut m l).ja r).c * e := Nat.mul_le_mul_right e (by omega)
                  rw [Nat.add_mul] at hle1
                  obtain ⟨w1, arr1, h1, h2, h3, h4, h5, h6, h7, h8, h9⟩ := qpu (P := P) hb1 (i0 * e + off) (a.eval y).cells.toList (by simp [hsz]; omega) hvs1
                  have hnoI : ∀ k, ¬ (g.shut m l).I (g.ja r).b k := fun k hk => by have := ((hb7 k).1 hk).1; cases this
                  have hget : ∀ (i : Nat) (x : AV), (xs.set i0 x1)[i]? = some x → (i = i0 ∧ x = x1) ∨ (i ≠ i0 ∧ xs[i]? = some x) := by
                    intro i x hx
                    by_cases hii : i = i0
                    · subst hii
                      rw [List.getElem?_set_self hi0] at hx
                      exact .inl ⟨rfl, by simpa using hx.symm⟩
                    · rw [List.getElem?_set_ne (fun hh => hii hh.symm)] at hx
                      exact .inr ⟨hii, hx⟩
                  have hx0l : x0.cells.length = e := hb4 i0 x0 hx0
                  obtain ⟨hok1, hext1⟩ := OK.one (g := g.shut m l) (m := m.frz l) (w := w) (g1 := g.shut m l) (w1 := w1) (m1 := m1) r (.arr true e (xs.set i0 x1)) hok0 (by rw [hm1]; rfl) (by rw [hm1]; exact Nat.le_refl _) (by rw [hm1]; exact hrn)
                    (fun _ _ => ⟨rfl, rfl⟩) (fun _ => rfl) (fun _ wf' e' xs' h => by cases h; exact ⟨true, e, xs, hs0, rfl, by simp, fun _ => rfl⟩)
                    (fun b hb hno => h5 b (fun hbb => hno _ hs0 (by simp only [Ob.blk, hn0]; simp [hbb]))) (by omega) h7 h8 h9 (fun _ _ h => h) (fun _ _ h => .inl h)
                    (fun b k hk => qbj (h5 b (fun hbb => by subst hbb; exact hnoI k hk)) k)
                    (fun b k hk => by
                      obtain ⟨u, hu⟩ := hok0.im b k hk
                      exact ⟨u, (qbj (h5 b (fun hbb => by subst hbb; exact hnoI k hk)) k).trans hu⟩)
                    (fun hvx => by
                      refine .inr ⟨hn0, arr1, h2, by simpa using hb2, by rw [h3]; exact hb3, fun i x hx => ?_, fun i x k z hx hz => ?_, fun i x k z u hx hz hu => ?_, fun k => ⟨fun hk => absurd hk (hnoI k), fun hk => by simp at hk⟩⟩
                      · rcases hget i x hx with ⟨_, rfl⟩ | ⟨_, hx⟩
                        · exact hx1l
                        · exact hb4 i x hx
                      · rcases hget i x hx with ⟨_, rfl⟩ | ⟨_, hx⟩
                        · rw [hx1 k] at hz
                          split at hz
                          · have hk : k - off < ys.length := (List.getElem?_eq_some_iff.1 hz).1
                            have hk2 : k - off < (a.eval y).cells.size := by omega
                            exact (hyc (k - off) z (a.eval y).cells[k - off] hz (by simp [hk2])).2
                          · exact hb5 i0 x0 k z hx0 hz
                        · exact hb5 i x k z hx hz
                      · rcases hget i x hx with ⟨rfl, rfl⟩ | ⟨hii, hx⟩
                        · have hk : k < e := by rw [← hx1l]; exact (List.getElem?_eq_some_iff.1 hz).1
                          rw [hx1 k] at hz
                          rw [h4] at hu
                          by_cases hin : off ≤ k ∧ k < off + ys.length
                          · rw [if_pos hin] at hz
                            rw [if_pos (by simp [hsz]; omega)] at hu
                            have hkk : i * e + k - (i * e + off) = k - off := by omega
                            rw [hkk] at hu
                            exact (hyc _ z u hz (by simpa using hu)).1.mono hvx.im
                          · rw [if_neg hin] at hz
                            rw [if_neg (by simp [hsz]; omega)] at hu
                            exact (hb6 i x0 k z u hx0 hz hu).mono hvx.im
                        · have hk : k < e := by rw [← hb4 i x hx]; exact (List.getElem?_eq_some_iff.1 hz).1
                          rw [h4, if_neg (by
                            simp [hsz]
                            intro hge
                            rcases Nat.lt_or_gt_of_ne hii with h | h
                            · have : (i + 1) * e ≤ i0 * e := Nat.mul_le_mul_right e h
                              rw [Nat.add_mul] at this
                              omega
                            · have : (i0 + 1) * e ≤ i * e := Nat.mul_le_mul_right e h
                              rw [Nat.add_mul] at this
                              omega)] at hu
                          exact (hb6 i x k z u hx hz hu).mono hvx.im)
                    (fun b hb => .inr ⟨_, hs0, by simpa [Ob.blk] using hb⟩)
                  exact ⟨.skip, Go.undef, w1, _, run _ _ w1 hpv h1, .inr ⟨rfl, rfl⟩, .c .undef, hok1, hext0.trans hext1⟩
                split at hw
                · rename_i cs hx0
                  split at hw
                  · rename_i hle
                    simp at hw
                    have hcl : cs.length = e := hb4 i0 _ hx0
                    have hyl : ys.length = ti.sz := by rw [hsn1, hlen]
                    exact key (.agg cs) (.agg (putCells cs off ys)) hx0 (by omega) (by show (putCells cs off ys).length = e; rw [qsm _ _ _ (by omega), hcl]) (fun k => qv6 cs ys off k (by omega)) hw.symm
                  · cases hw
                · rename_i x0 hno hx0
                  split at hw
                  · rename_i hle
                    obtain ⟨rfl, hsz1⟩ := hle
                    simp at hw
                    have hyl : ys.length = 1 := by rw [hsn1, hlen, hsz1]
                    obtain ⟨z, rfl⟩ : ∃ z, ys = [z] := by
                      cases ys with
                      | nil => simp at hyl
                      | cons z l => cases l with
                        | nil => exact ⟨z, rfl⟩
                        | cons _ _ => simp at hyl
                    have hx0c : x0.cells = [x0] := by cases x0 <;> first | rfl | (exact absurd rfl (hno _))
                    have he1 : e = 1 := by have := hb4 i0 x0 hx0; rw [hx0c] at this; simpa using this.symm
                    have hzl : z.leaf = true := by
                      have hk2 : 0 < (a.eval y).cells.size := by omega
                      exact (hyc 0 z (a.eval y).cells[0] rfl (by simp [hk2])).2
                    have hzc : z.cells = [z] := by cases z <;> first | rfl | (simp [AV.leaf] at hzl)
                    refine key x0 z hx0 (by omega) (by rw [hzc, he1]; rfl) (fun k => ?_) hw.symm
                    rw [hzc, hx0c]
                    cases k with
                    | zero => simp
                    | succ k => simp
                  · cases hw
                · cases hw
          · cases hw
        · cases hw
      · cases hw
    · cases hw
  · cases hw
end
end Go.Pev
