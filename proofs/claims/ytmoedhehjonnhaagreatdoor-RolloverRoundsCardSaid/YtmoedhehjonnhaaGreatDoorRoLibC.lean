/- The calculus over trees that the proof rests on, proved sound against the model (LibC). -/
import Derived.Test.YtmoedhehjonnhaaGreatDoorRoLibBb
set_option linter.all false
/- A reckoner of the small form: code with marks (views, calls that are known, qcg that are known) is reckoned to a value; what is left over are plain terms. -/
namespace Go.Pev
open Go
set_option linter.unusedVariables false
def aI : AV → Int
  | .int _ n => n
  | _ => 0
def aB : AV → Bool
  | .bool b => b
  | _ => false
def aS : AV → List UInt8
  | .str s => s
  | _ => []
def aL : AV → List AV
  | .sl _ xs => xs
  | .fr _ _ xs => xs
  | _ => []
def unfv : AV → AV
  | .fv x => x
  | x => x
def gC (cs : List AV) (k : Nat) : AV := (cs[k]?).getD .undef
def gI (cs : List AV) (k : Nat) : Int := aI (gC cs k)
def gB (cs : List AV) (k : Nat) : Bool := aB (gC cs k)
def gS (cs : List AV) (k : Nat) : List UInt8 := aS (gC cs k)
def gL (cs : List AV) (k : Nat) : List AV := aL (gC cs k)
inductive LT where
  | b | i (k : IntKind) | s | sl (e : Nat) | nil | nilf | nilp | op | fn
  deriving Inhabited
def fitL : LT → AV → Bool
  | .b, .bool _ => true
  | .i k, .int k' _ => decide (k = k')
  | .s, .str _ => true
  | .sl _, .nils => true
  | .sl e, .sl e' _ => Nat.beq e e'
  | .nil, .nils => true
  | .nilf, .nilf => true
  | .nilp, .nilp => true
  | .op, x => x.leaf
  | .fn, .fv _ => true
  | .fn, .func _ caps => caps.all qhs
  | _, _ => false
def fitC : List LT → List AV → Bool
  | [], [] => true
  | l :: ls, x :: xs => match fitL l x with
    | true => fitC ls xs
    | false => false
  | _, _ => false
def etaF (l : LT) (cs : List AV) (k : Nat) : AV :=
  match l with
  | .b => .bool (gB cs k)
  | .i q => .int q (gI cs k)
  | .s => .str (gS cs k)
  | .sl e => .sl e (gL cs k)
  | .nil => .nils
  | .nilf => .nilf
  | .nilp => .nilp
  | .op => gC cs k
  | .fn => .fv (unfv (gC cs k))
def etaC : List LT → List AV → Nat → List AV
  | [], _, _ => []
  | l :: ls, cs, k => etaF l cs k :: etaC ls cs (k + 1)
inductive VK where
  | one (l : LT)
  | st (ls : List LT)
  deriving Inhabited
def isAgg : AV → Bool
  | .agg _ => true
  | _ => false
def fitV : VK → AV → Bool
  | .one l, x => fitL l x
  | .st ls, x => match isAgg x with
    | true => fitC ls x.cells
    | false => false
def etaV : VK → AV → AV
  | .one .b, x => .bool (aB x)
  | .one (.i q), x => .int q (aI x)
  | .one .s, x => .str (aS x)
  | .one (.sl e), x => .sl e (aL x)
  | .one .nil, _ => .nils
  | .one .nilf, _ => .nilf
  | .one .nilp, _ => .nilp
  | .one .op, x => x
  | .one .fn, x => .fv (unfv x)
  | .st ls, x => .agg (etaC ls x.cells 0)
section
variable {R : Type}
def oB {α β : Type} (o : Option α) (f : α → Option β) : Option β :=
  match o with
  | some a => f a
  | none => none
def oI {α β : Type} (o : Option α) (f : α → Option β) : Option β :=
  match o with
  | some a => f a
  | none => none
def ixB {α : Type} (l : List α) (n : Int) : Option α := if 0 ≤ n then l[n.toNat]? else none
def cutI {α : Type} (l : List α) (lo hi : Option Int) : Option (List α) :=
  let h := hi.getD l.length
  let k := lo.getD 0
  if 0 ≤ k ∧ k ≤ h ∧ h ≤ l.length then some ((l.take h.toNat).drop k.toNat) else none
def rdE (x : AV) (off : Nat) (agg : Bool) (sz : Nat) : Option AV := qiy (x.cells.drop off) agg sz
def putE (y : AV) (off sz : Nat) (ys : List AV) : Option AV :=
  match y with
  | .agg cs => if off + sz ≤ cs.length then some (.agg (putCells cs off ys)) else none
  | _ => if off = 0 ∧ sz = 1 then some (ys.headD .undef) else none
def hd (xs : List AV) (n : Nat) : Bool := Nat.beq xs.length n
def qbby (kd : KD) (k v : AV) (es : List (AV × AV)) : Option (List (AV × AV)) :=
  match qmb kd k es 0 with
  | some (some (i, _)) => some (es.modify i fun p => (p.1, v))
  | some none => some (es ++ [(k, v)])
  | none => none
def mgB (kd : KD) (k : AV) : List (AV × AV) → (AV → Option R) → Option R → Option R
  | [], _, N => N
  | p :: r, F, N => match keq kd k p.1 with
    | some b => cond b (F p.2) (mgB kd k r F N)
    | none => none
def qp0 (m : Mem) (x : AV) (K : AV → Option R) : Option R :=
  match x with
  | .own r n => match m.s r with
    | some (.arr _ e xs) => cond (hd xs n) (K (.sl e xs)) none
    | _ => none
  | x => match qu m x with
    | some y => K y
    | none => none
def qla (m : Mem) : List AV → (List AV → Option R) → Option R
  | [], K => K []
  | x :: xs, K => qp0 m x fun y => qla m xs fun ys => K (y :: ys)
def q3e (m : Mem) (x : AV) (K : AV → Option R) : Option R :=
  match x with
  | .agg cs => qla m cs fun ys => K (.agg ys)
  | x => qp0 m x K
def qip (m : Mem) : List AV → (List AV → Option R) → Option R
  | [], K => K []
  | x :: xs, K => q3e m x fun y => qip m xs fun ys => K (y :: ys)
def qs1 (m : Mem) (x : AV) (K : AV → Option R) : Option R :=
  match x with
  | .own r n => match m.s r with
    | some (.arr w e xs) => cond (hd xs n) (K (.fr w e xs)) none
    | _ => none
  | x => match qbr m x with
    | some y => K y
    | none => none
def qp1 (m : Mem) : List AV → (List AV → Option R) → Option R
  | [], K => K []
  | x :: xs, K => qs1 m x fun y => qp1 m xs fun ys => K (y :: ys)
def q3f (m : Mem) (x : AV) (K : AV → Option R) : Option R :=
  match x with
  | .agg cs => qp1 m cs fun ys => K (.agg ys)
  | x => qs1 m x K
def qzt (m : Mem) : List AV → (List AV → Option R) → Option R
  | [], K => K []
  | x :: xs, K => q3f m x fun y => qzt m xs fun ys => K (y :: ys)
def qlb : List Nat → Bool
  | [] => true
  | x :: xs => !(xs.any fun y => Nat.beq y x) && qlb xs
def qv9 (m : Mem) (x : AV) (K : AV → Option R) : Option R :=
  match x with
  | .tup vs => match qlb (vs.flatMap ids) with
    | true => qzt m vs fun ys => K (.tup ys)
    | false => none
  | .undef => K .undef
  | x => match qlb (ids x) with
    | true => q3f m x K
    | false => none
def frzN (m : Mem) (l : List Nat) : Mem :=
  match l with
  | [] => m
  | l => m.frz l
inductive Stp where
  | eta (k : Nat) (v : VK)
  | etac (k : Nat) (ls : List LT)
  | own (k e : Nat)
  | ownc (r off e : Nat)
  | nilc (r off e : Nat)
  | snap (k : Nat)
  | snapb (r : Nat)
  | frz (l : List Nat)
  | sel (kt keep : List Nat)
  | hd (k : Nat)
  | cls (k : Nat)
  deriving Inhabited
def ql : List (Nat × AV) → Env
  | [] => fun _ => .any
  | (k, v) :: l => fun i => if i = k then v else ql l i
def qf (l : List (Option Ob)) : Mem := ⟨fun i => (l[i]?).getD none, l.length⟩
def qlc (r : Nat) : List Nat → Nat → Option Nat
  | [], _ => none
  | x :: xs, i => if x = r then some i else qlc r xs (i + 1)
def qd4 (kp : List Nat) : AV → Option AV
  | .ptr r off => match qlc r kp 0 with
    | some j => some (.ptr j off)
    | none => none
  | .own r n => match qlc r kp 0 with
    | some j => some (.own j n)
    | none => none
  | .eptr r n i off => match qlc r kp 0 with
    | some j => some (.eptr j n i off)
    | none => none
  | .map r => match qlc r kp 0 with
    | some j => some (.map j)
    | none => none
  | .func f [] => some (.func f [])
  | .func _ _ => none
  | .agg _ | .tup _ | .fr .. => none
  | x => some x
def qn5 (kp : List Nat) : List AV → Option (List AV)
  | [] => some []
  | .ptr r off :: xs => match qlc r kp 0, qn5 kp xs with
    | some j, some ys => some (.ptr j off :: ys)
    | _, _ => none
  | _ :: _ => none
def qor (kp : List Nat) : AV → Option AV
  | .func f cs => match qn5 kp cs with
    | some ys => some (.func f ys)
    | none => none
  | x => qd4 kp x
def qj5 (kp : List Nat) : List AV → Option (List AV)
  | [] => some []
  | x :: xs => match qor kp x, qj5 kp xs with
    | some y, some ys => some (y :: ys)
    | _, _ => none
def ren (kp : List Nat) : AV → Option AV
  | .agg cs => match qj5 kp cs with
    | some ys => some (.agg ys)
    | none => none
  | x => qor kp x
def qvh (kp : List Nat) (t : Env) : List Nat → Option (List (Nat × AV))
  | [] => some []
  | k :: ks => match ren kp (t k), qvh kp t ks with
    | some v, some l => some ((k, v) :: l)
    | _, _ => none
def qhk (kp : List Nat) : Option Ob → Option (Option Ob)
  | some (.box w cs) => match qj5 kp cs with
    | some ys => some (some (.box w ys))
    | none => none
  | some (.arr w e xs) => some (some (.arr w e xs))
  | some (.map es) => some (some (.map es))
  | none => some none
def qvi (kp : List Nat) (m : Mem) : List Nat → Option (List (Option Ob))
  | [] => some []
  | r :: rs => match qhk kp (m.s r), qvi kp m rs with
    | some o, some l => some (o :: l)
    | _, _ => none
def qwa : Nat → List Nat → Nat → Bool
  | 0, _, _ => true
  | n + 1, x :: xs, i => Nat.beq x i && qwa n xs (i + 1)
  | _ + 1, [], _ => false
def clsd : AV → Bool
  | .bool _ | .int .. | .str _ | .nilp | .nilf | .nils | .sl .. | .cptr _ | .fv _ => true
  | .func _ caps => caps.all qhs
  | _ => false
def vstp (nb : Nat) (s : Stp) (t : Env) (m : Mem) (K : Env → Mem → Option R) : Option R :=
  match s with
  | .eta k v => cond (fitV v (t k)) (K (upd t (some k) (etaV v (t k))) m) none
  | .etac k ls => match t k with
    | .cptr cs => cond (fitC ls cs) (K (upd t (some k) (.cptr (etaC ls cs 0))) m) none
    | _ => none
  | .own k e => match t k with
    | .nils => K (upd t (some k) (.own m.n ([] : List AV).length)) (m.new (.arr true e []))
    | .own _ _ => K t m
    | _ => none
  | .ownc r off e => match m.s r with
    | some (.box w cs) => match cs[off]? with
      | some .nils => K t ((m.new (.arr true e [])).set r (.box w (putCells cs off [.own m.n ([] : List AV).length])))
      | some (.own _ _) => K t m
      | _ => none
    | _ => none
  | .nilc r off e => match m.s r with
    | some (.box w cs) => match cs[off]? with
      | some .nils => K t (m.set r (.box w (putCells cs off [.sl e []])))
      | some (.sl _ _) => K t m
      | _ => none
    | _ => none
  | .snap k => q3e m (t k) fun y => K (upd t (some k) y) (frzN m (ids (t k)))
  | .snapb r => match m.s r with
    | some (.box w cs) => qla m cs fun ys => K t ((frzN m (cs.flatMap qv)).set r (.box w ys))
    | _ => none
  | .frz l => K t (m.frz l)
  | .hd k => match t k with
    | .own r n => match m.s r with
      | some (.arr _ _ xs) => cond (hd xs n) (K (upd t (some k) (.own r xs.length)) m) none
      | _ => none
    | _ => K t m
  | .cls k => match t k with
    | .ptr r 0 => match m.s r with
      | some (.box _ cs) => cond (cs.all clsd) (K (upd t (some k) (.cptr cs)) (m.set r (.box false cs))) none
      | _ => none
    | _ => none
  | .sel kt keep => match qlb keep && qwa nb keep 0 && keep.all (fun r => Nat.blt r m.n) with
    | true => match qvh keep t kt, qvi keep m keep with
      | some l, some os => K (ql l) (qf os)
      | _, _ => none
    | false => none
def q3g (nb : Nat) : List Stp → Env → Mem → (Env → Mem → Option R) → Option R
  | [], t, m, K => K t m
  | s :: r, t, m, K => vstp nb s t m fun t' m' => q3g nb r t' m' K
inductive AOp (R : Type) where
  | op (s : SOper)
  | call (s : SOper) (f : FuncId) (e : List AV → (AV → Option R) → Option R)
  | callc (s : SOper) (f : FuncId) (e : List AV → (AV → Option R) → Option R)
  | callr (s : SOper) (f : FuncId) (e : List AV → Mem → (AV → Mem → Option R) → Option R)
  | callq (s : SOper) (ap : AV → List AV → Option Bool)
  | st (v : Stp)
  | stg (x : Nat) (want : Bool) (v : Stp)
  | et (k : Nat) (ls : List LT)
  | grp (x : Nat) (want : Bool) (ops : List SOper) (d : Nat) (y : Opd)
inductive H5 (R : Type) where
  | w (s : SOper)
  | c (s : SOper) (f : FuncId) (e : List AV → (AV → Option R) → Option R)
def H5.er : List (H5 R) → List SOper
  | [] => []
  | .w s :: l => s :: er l
  | .c s _ _ :: l => s :: er l
inductive AC (R : Type) where
  | skip
  | reg (ops : List (AOp R))
  | draw (F : List Nat) (hd tl : List (AOp R))
  | draw3 (F mk : List Nat) (hd tl : List (AOp R))
  | draw4 (h1 : List SOper) (dg : Nat) (f : FuncId) (sz : Nat) (y : Opd) (ys : List Opd) (F : List AV → List AV → Option (List AV)) (h2 : List SOper) (tl : List (AOp R))
  | draw5 (F : List Nat) (h : List (H5 R)) (tl : List (AOp R))
  | seq (a b : AC R)
  | cond (c : Opd) (a b : AC R)
  | block (id : Nat) (c : AC R)
  | exit (id : Nat)
  | ret
  | view (l : List Stp)
  | sub (c : SC) (e : Env → Mem → (Ex → Env → Mem → Option R) → Option R)
def qrf (x : Nat) (want : Bool) (y : Opd) : SOp :=
  match want with
  | true => .pick (.t x) y (.c (.bool false))
  | false => .pick (.t x) (.c (.bool true)) y
def qrg (want a b : Bool) : Bool :=
  match want with
  | true => a && b
  | false => a || b
def AOp.er : List (AOp R) → List SOper
  | [] => []
  | .op s :: l => s :: er l
  | .call s _ _ :: l => s :: er l
  | .callc s _ _ :: l => s :: er l
  | .callr s _ _ :: l => s :: er l
  | .callq s _ :: l => s :: er l
  | .st _ :: l => er l
  | .stg _ _ _ :: l => er l
  | .et _ _ :: l => er l
  | .grp x want ops d y :: l => ops ++ ⟨some d, qrf x want y, none⟩ :: er l
def tl1B : List (AOp R) → Bool
  | [] => true
  | .op s :: r => !qog s.op || tl1B r
  | l => match AOp.er l with
    | s :: _ => !qog s.op
    | [] => true
def qi1 : List (AOp R) → Bool
  | [] => true
  | .op _ :: r => qi1 r
  | .et _ _ :: r => qi1 r
  | _ => false
def qbbz (h : List (AOp R)) : Bool := (AOp.er h).all fun s => match s.op with
  | .held _ ps => ps.isEmpty
  | _ => true
def tl2B (h l : List (AOp R)) : Bool := tl1B l && (qbbz h || qi1 l)
def mk3B (h : List (AOp R)) (mk : List Nat) : Bool := mkB (AOp.er h) mk && (AOp.er h).all fun s => match s.op with
  | .held .. => false
  | _ => true
def AC.isV : AC R → Bool
  | .view _ => true
  | .seq a b => a.isV && b.isV
  | _ => false
def AC.er : AC R → Option SC
  | .skip => some .skip
  | .reg l => some (.reg (AOp.er l))
  | .draw _ h l => some (.draw (AOp.er h) (AOp.er l))
  | .draw3 _ _ h l => some (.draw (AOp.er h) (AOp.er l))
  | .draw4 h1 dg f _ y ys _ h2 l => some (.draw (h1 ++ ⟨some dg, .call f (y :: ys), none⟩ :: h2) (AOp.er l))
  | .draw5 _ h l => some (.draw (H5.er h) (AOp.er l))
  | .seq a b => match b.isV, a.isV with
    | true, _ => er a
    | false, true => er b
    | false, false => match er a, er b with
      | some x, some y => some (.seq x y)
      | _, _ => none
  | .cond c a b => match er a, er b with
    | some x, some y => some (.cond c x y)
    | _, _ => none
  | .block id c => match er c with
    | some x => some (.block id x)
    | none => none
  | .exit id => some (.exit id)
  | .ret => some .ret
  | .view _ => none
  | .sub c _ => some c
def intO (t : Env) : Option Opd → Option (Option Int)
  | none => some none
  | some o => match ev t o with
    | .int _ n => some (some n)
    | _ => none
def elB (m : Mem) (x : AV) (K : List AV → Option R) : Option R :=
  match x with
  | .nils => K []
  | .sl _ xs => K xs
  | .own r n => match m.s r with
    | some (.arr _ _ xs) => cond (hd xs n) (K xs) none
    | _ => none
  | _ => none
def newB (m : Mem) (e : Nat) (x : AV) (K : List AV → Option R) : Option R :=
  match x with
  | .str b => if e = 1 then K (b.map fun (c : UInt8) => AV.int .u8 c.toNat) else none
  | x => match esz m e x with
    | true => elB m x K
    | false => none
def dOp (t : Env) (m : Mem) (so : SOp) (K : AV → Mem → Option R) : Option R :=
  match so with
  | .pick c a b => match ev t c with
    | .bool q => cond q (K (ev t a) m) (K (ev t b) m)
    | _ => none
  | .ixs x i => match ev t x, ev t i with
    | .str s, .int _ n => oB (ixB s n) fun (b : UInt8) => K (.int .u8 b.toNat) m
    | _, _ => none
  | .ia e x i => match ev t i with
    | .int _ n => match ev t x with
      | .sl e' xs => if e' = e then oB (ixB xs n) fun y => K (.cptr y.cells) m else none
      | .own r len => match m.s r with
        | some (.arr _ e' xs) => if e' = e then cond (hd xs len) (cond (decide (0 ≤ n ∧ n < len)) (K (.eptr r len n.toNat 0) m) none) none else none
        | _ => none
      | _ => none
    | _ => none
  | .load agg sz a => match ev t a with
    | .eptr r n i off => match m.s r with
      | some (.arr _ _ xs) => cond (hd xs n) (oB (xs[i]?) fun x => oB (rdE x off agg sz) fun v => K v m) none
      | _ => none
    | p => oI (rd m agg sz p) fun v => K v m
  | .fa off x => match ev t x with
    | .eptr r n i o => match m.s r with
      | some (.arr _ _ xs) => cond (hd xs n) (K (.eptr r n i (o + off)) m) none
      | _ => none
    | p => oI (vfa m off p) fun v => K v m
  | .bin op x y => match ev t x, ev t y with
    | .str a, .str b => match op with
      | .add => cond (decide (a.length + b.length ≤ 9223372036854775807)) (K (.str (a ++ b)) m) none
      | op => oI (sbin op a b) fun v => K v m
    | .int k a, .int k' b => match op with
      | .quo => if k = k' then cond (decide (b ≠ 0)) (K (.int k (k.wrap (a.tdiv b))) m) none else none
      | .rem => if k = k' then cond (decide (b ≠ 0)) (K (.int k (a.tmod b)) m) none else none
      | .shl => cond (decide (b < 0)) none (K (.int k (k.wrap (a * 2 ^ min b.toNat k.bits))) m)
      | .shr => cond (decide (b < 0)) none (K (.int k (a.fdiv (2 ^ min b.toNat k.bits))) m)
      | op => oI (ibin op k a k' b) fun v => K v m
    | _, _ => none
  | .slcs x lo hi => match ev t x, intO t lo, intO t hi with
    | .str s, some a, some b => oB (cutI s a b) fun s' => K (.str s') m
    | _, _, _ => none
  | .slc e x lo hi => match esz m e (ev t x), intO t lo, intO t hi with
    | true, some a, some b => match ev t x with
      | .own r n => elB m (.own r n) fun xs => oB (cutI xs a b) fun ys => K (.sl e ys) (m.frz [r])
      | x => elB m x fun xs => oB (cutI xs a b) fun ys => K (.sl e ys) m
    | _, _, _ => none
  | .app e by_ s x => match esz m e (ev t s) with
    | true => elB m (ev t s) fun xs => newB m e (ev t x) fun ys => cond (decide ((xs.length + ys.length) * by_ ≤ 140737488355328))
        (match ev t s with
          | .nils => K (.own m.n ys.length) (m.new (.arr true e ys))
          | .own r _ => match m.s r with
            | some (.arr w _ _) => K (.own r (xs ++ ys).length) (m.set r (.arr w e (xs ++ ys)))
            | _ => none
          | _ => none) none
    | false => none
  | .mksl e by_ z l c => match ev t l, ev t c with
    | .int .i64 n, .int .i64 k => cond (decide (0 ≤ n ∧ n ≤ k ∧ k * by_ ≤ 281474976710656)) (K (.own m.n (List.replicate n.toNat z).length) (m.new (.arr true e (List.replicate n.toNat z)))) none
    | _, _ => none
  | .conv .strOf x => elB m (ev t x) fun xs => oB (qb2 xs) fun b => K (.str b) m
  | .store sz a x => match ev t a with
    | .eptr r n i off => match (ev t x).cells.all AV.leaf, m.s r, qck m (ev t x).cells with
      | true, some (.arr true e xs), some ys => if (ev t x).cells.length = sz ∧ r ∉ (ev t x).cells.flatMap qv then
          cond (hd xs n) (oB (xs[i]?) fun y => oB (putE y off sz ys) fun y' => K .undef ((m.frz ((ev t x).cells.flatMap qv)).set r (.arr true e (xs.set i y')))) none
        else none
      | _, _, _ => none
    | p => oI (wr m sz p (ev t x)) fun m' => K .undef m'
  | .mget kd z ok x k => match ev t x with
    | .map r => match qfa kd (ev t k), m.s r with
      | true, some (.map es) => mgB kd (ev t k) es (fun v => K (if ok then .tup [v, .bool true] else v) m) (K (if ok then .tup [z, .bool false] else z) m)
      | _, _ => none
    | _ => none
  | .mput kd x k v => match ev t x with
    | .map r => match qfa kd (ev t k), mvOk (ev t v), m.s r with
      | true, true, some (.map es) => oB (qbby kd (ev t k) (ev t v) es) fun es' => K .undef (m.set r (.map es'))
      | _, _, _ => none
    | _ => none
  | .bsl e ps => qip m (evs t ps) fun xs => match xs.all (fun x => x.cells.length == e) with
    | true => K (.own m.n xs.length) ((frzN m (idss (evs t ps))).new (.arr true e xs))
    | false => none
  | .call .. | .callv .. => none
  | so => match so.quiet with
    | true => oI (qa t m so) fun v => K v m
    | false => oI (qd t m so) fun p => K p.1 p.2
def qzu (t : Env) : SOp → Option (FuncId × List AV)
  | .call f xs => some (f, evs t xs)
  | .callv x xs => match ev t x with
    | .func f caps => some (f, evs t xs ++ caps)
    | _ => none
  | _ => none
def q7m (t : Env) (m : Mem) (so : SOp) (f : FuncId) (e : List AV → (AV → Option R) → Option R) (K : AV → Mem → Option R) : Option R :=
  match qzu t so with
  | some (f', vs) => match Nat.beq f f' with
    | true => qip m vs fun as_ => e as_ fun y => match flat y with
      | true => K y m
      | false => K (imp y (frzN m (idss vs))).1 (imp y (frzN m (idss vs))).2
    | false => none
  | none => none
def q4v (t : Env) (m : Mem) (so : SOp) (f : FuncId) (e : List AV → (AV → Option R) → Option R) (K : AV → Mem → Option R) : Option R :=
  match so with
  | .call f' xs => match Nat.beq f f' with
    | true => qip m (evs t xs) fun as_ => e as_ fun z => K (clo z) (frzN m (idss (evs t xs)))
    | false => none
  | _ => none
def q4w (t : Env) (m : Mem) (so : SOp) (f : FuncId) (e : List AV → Mem → (AV → Mem → Option R) → Option R) (K : AV → Mem → Option R) : Option R :=
  match qzu t so with
  | some (f', vs) => match Nat.beq f f', vs.all (fun v => match v with | .undef | .fr .. => false | _ => true) with
    | true, true => e vs m K
    | _, _ => none
  | none => none
def qmu (t : Env) (m : Mem) (so : SOp) (ap : AV → List AV → Option Bool) (K : AV → Option R) : Option R :=
  match so with
  | .callv x xs => match ev t x with
    | .fv q => qip m (evs t xs) fun as_ => oB (ap q as_) fun b => K (.bool b)
    | _ => none
  | _ => none
def gd (t : Env) (g : Option (Nat × Bool)) (d : Option Nat) (m : Mem) (go : Env → Option R) (K : Env → Mem → Option R) : Option R :=
  match g with
  | none => go t
  | some (x, true) => match t x with
    | .bool b => cond b (go (upd t (some x) (.bool true))) (K (upd (upd t (some x) (.bool false)) d .undef) m)
    | .undef => K (upd t d .undef) m
    | _ => none
  | some (x, false) => match t x with
    | .bool b => cond b (K (upd (upd t (some x) (.bool true)) d .undef) m) (go (upd t (some x) (.bool false)))
    | .undef => K (upd t d .undef) m
    | _ => none
def qrh (g : Option (Nat × Bool)) (x : Nat) (want : Bool) : Bool :=
  match g with
  | some (x', w') => Nat.beq x x' && want == w'
  | none => false
def q03 (d : Option Nat) (x : Nat) : Bool :=
  match d with
  | some d => !Nat.beq d x
  | none => true
def q6t : SOp → Bool
  | .call .. | .callv .. => false
  | _ => true
def qhv (x : Nat) (want : Bool) (m : Mem) : List SOper → Env → Option Env
  | [], t => some t
  | s :: r, t => match qrh s.g x want && q03 s.dst x && s.op.quiet && q6t s.op with
    | true => match qa t m s.op with
      | some v => qhv x want m r (upd t s.dst v)
      | none => none
    | false => none
def qri : List SOper → Env → Env
  | [], t => t
  | s :: r, t => qri r (upd t s.dst .any)
def dOps (nb : Nat) : List (AOp R) → Env → Mem → (Env → Mem → Option R) → Option R
  | [], t, m, K => K t m
  | .op s :: r, t, m, K => gd t s.g s.dst m (fun t' => dOp t' m s.op fun v m' => dOps nb r (upd t' s.dst v) m' K) (fun t' m' => dOps nb r t' m' K)
  | .call s f e :: r, t, m, K => gd t s.g s.dst m (fun t' => q7m t' m s.op f e fun v m' => dOps nb r (upd t' s.dst v) m' K) (fun t' m' => dOps nb r t' m' K)
  | .callc s f e :: r, t, m, K => gd t s.g s.dst m (fun t' => q4v t' m s.op f e fun v m' => dOps nb r (upd t' s.dst v) m' K) (fun t' m' => dOps nb r t' m' K)
  | .callr s f e :: r, t, m, K => gd t s.g s.dst m (fun t' => q4w t' m s.op f e fun v m' => dOps nb r (upd t' s.dst v) m' K) (fun t' m' => dOps nb r t' m' K)
  | .callq s ap :: r, t, m, K => gd t s.g s.dst m (fun t' => qmu t' m s.op ap fun v => dOps nb r (upd t' s.dst v) m K) (fun t' m' => dOps nb r t' m' K)
  | .st v :: r, t, m, K => vstp nb v t m fun t' m' => dOps nb r t' m' K
  | .stg x want v :: r, t, m, K => match t x with
    | .bool b => match b, want with
      | true, true => vstp nb v t m fun t' m' => dOps nb r t' m' K
      | false, false => vstp nb v t m fun t' m' => dOps nb r t' m' K
      | true, false => dOps nb r t m K
      | false, true => dOps nb r t m K
    | .undef => dOps nb r t m K
    | _ => none
  | .et k ls :: r, t, m, K => match t k with
    | .cptr cs => cond (fitC ls cs) (dOps nb r (upd t (some k) (.cptr (etaC ls cs 0))) m K) none
    | .agg cs => cond (fitC ls cs) (dOps nb r (upd t (some k) (.agg (etaC ls cs 0))) m K) none
    | .undef => dOps nb r t m K
    | _ => none
  | .grp x want ops d y :: r, t, m, K => match t x with
    | .bool a => match qhv x want m ops t with
      | some t' => match ev t' y with
        | .bool b => dOps nb r (upd (qri ops t) (some d) (.bool (qrg want a b))) m K
        | _ => none
      | none => none
    | _ => none
def qmv : LT → Bool
  | .sl _ | .fn => false
  | _ => true
def q4x : VK → Bool
  | .one l => qmv l
  | .st ls => ls.all qmv
def dQst (t : Env) (v : Stp) (K : Env → Option R) : Option R :=
  match v with
  | .eta k v => match q4x v with
    | true => cond (fitV v (t k)) (K (upd t (some k) (etaV v (t k)))) none
    | false => none
  | _ => none
def dQop (F : List Nat) (t : Env) (m : Mem) (so : SOp) (K : AV → Option R) : Option R :=
  match so with
  | .slc e x lo hi => match (ids (ev t x)).all (fun r => F.contains r), esz m e (ev t x), intO t lo, intO t hi with
    | true, true, some a, some b => elB m (ev t x) fun xs => oB (cutI xs a b) fun ys => K (.sl e ys)
    | _, _, _, _ => none
  | .bsl e ps => match (idss (evs t ps)).all (fun r => F.contains r) with
    | true => qip m (evs t ps) fun xs => match xs.all (fun x => x.cells.length == e) with
      | true => K (.sl e xs)
      | false => none
    | false => none
  | .call .. => none
  | so => match so.quiet with
    | true => dOp t m so fun v _ => K v
    | false => none
def qzv (F : List Nat) (t : Env) (m : Mem) (so : SOp) (f : FuncId) (e : List AV → (AV → Option R) → Option R) (K : AV → Option R) : Option R :=
  match so with
  | .call f' xs => match Nat.beq f f' with
    | true => qip m (evs t xs) fun as_ => e as_ fun z => match flat (clo z) || (idss (evs t xs)).all (fun r => F.contains r) with
      | true => K (clo z)
      | false => none
    | false => none
  | .callv x xs => match ev t x with
    | .func f' [] => match Nat.beq f f' with
      | true => qip m (evs t xs) fun as_ => e as_ fun z => match flat (clo z) || (idss (evs t xs)).all (fun r => F.contains r) with
        | true => K (clo z)
        | false => none
      | false => none
    | _ => none
  | _ => none
def gdQ (t : Env) (g : Option (Nat × Bool)) (d : Option Nat) (go : Env → Option R) (K : Env → Option R) : Option R :=
  match g with
  | none => go t
  | some (x, true) => match t x with
    | .bool b => cond b (go (upd t (some x) (.bool true))) (K (upd (upd t (some x) (.bool false)) d .undef))
    | .undef => K (upd t d .undef)
    | _ => none
  | some (x, false) => match t x with
    | .bool b => cond b (K (upd (upd t (some x) (.bool true)) d .undef)) (go (upd t (some x) (.bool false)))
    | .undef => K (upd t d .undef)
    | _ => none
def dQs (F : List Nat) (m : Mem) : List (AOp R) → Env → (Env → Option R) → Option R
  | [], t, K => K t
  | .op s :: r, t, K => gdQ t s.g s.dst (fun t' => dQop F t' m s.op fun v => dQs F m r (upd t' s.dst v) K) (fun t' => dQs F m r t' K)
  | .call s f e :: r, t, K => gdQ t s.g s.dst (fun t' => qzv F t' m s.op f e fun v => dQs F m r (upd t' s.dst v) K) (fun t' => dQs F m r t' K)
  | .et k ls :: r, t, K => match ls.all qmv with
    | true => match t k with
      | .cptr cs => cond (fitC ls cs) (dQs F m r (upd t (some k) (.cptr (etaC ls cs 0))) K) none
      | .agg cs => cond (fitC ls cs) (dQs F m r (upd t (some k) (.agg (etaC ls cs 0))) K) none
      | .undef => dQs F m r t K
      | _ => none
    | false => none
  | .callq s ap :: r, t, K => gdQ t s.g s.dst (fun t' => qmu t' m s.op ap fun v => dQs F m r (upd t' s.dst v) K) (fun t' => dQs F m r t' K)
  | .callc .. :: _, _, _ => none
  | .callr .. :: _, _, _ => none
  | .grp .. :: _, _, _ => none
  | .st v :: r, t, K => dQst t v fun t' => dQs F m r t' K
  | .stg x want v :: r, t, K => match t x with
    | .bool b => match b, want with
      | true, true => dQst t v fun t' => dQs F m r t' K
      | false, false => dQst t v fun t' => dQs F m r t' K
      | true, false => dQs F m r t K
      | false, true => dQs F m r t K
    | .undef => dQs F m r t K
    | _ => none
def q04 (F : List Nat) (t : Env) (m : Mem) (so : SOp) (f : FuncId) (e : List AV → (AV → Option R) → Option R) (K : AV → Option R) : Option R :=
  match so with
  | .call f' xs => match Nat.beq f f' with
    | true => qip m (evs t xs) fun as_ => e as_ fun z => match z with
      | .fr true sz ys => match (idss (evs t xs)).all (fun r => F.contains r) with
        | true => K (.sl sz ys)
        | false => none
      | _ => none
    | false => none
  | _ => none
def mkD (mk : List Nat) : Option Nat → Bool
  | some d => mk.contains d
  | none => false
def dQs3 (F mk : List Nat) (m : Mem) : List (AOp R) → Env → (Env → Option R) → Option R
  | [], t, K => K t
  | .op s :: r, t, K => gdQ t s.g s.dst (fun t' => dQop F t' m s.op fun v => dQs3 F mk m r (upd t' s.dst v) K) (fun t' => dQs3 F mk m r t' K)
  | .call s f e :: r, t, K => match mkD mk s.dst with
    | true => gdQ t s.g s.dst (fun t' => q04 F t' m s.op f e fun v => dQs3 F mk m r (upd t' s.dst v) K) (fun t' => dQs3 F mk m r t' K)
    | false => gdQ t s.g s.dst (fun t' => qzv F t' m s.op f e fun v => dQs3 F mk m r (upd t' s.dst v) K) (fun t' => dQs3 F mk m r t' K)
  | .et k ls :: r, t, K => match ls.all qmv with
    | true => match t k with
      | .cptr cs => cond (fitC ls cs) (dQs3 F mk m r (upd t (some k) (.cptr (etaC ls cs 0))) K) none
      | .agg cs => cond (fitC ls cs) (dQs3 F mk m r (upd t (some k) (.agg (etaC ls cs 0))) K) none
      | .undef => dQs3 F mk m r t K
      | _ => none
    | false => none
  | .callq s ap :: r, t, K => gdQ t s.g s.dst (fun t' => qmu t' m s.op ap fun v => dQs3 F mk m r (upd t' s.dst v) K) (fun t' => dQs3 F mk m r t' K)
  | .callc .. :: _, _, _ => none
  | .callr .. :: _, _, _ => none
  | .grp .. :: _, _, _ => none
  | .st v :: r, t, K => dQst t v fun t' => dQs3 F mk m r t' K
  | .stg x want v :: r, t, K => match t x with
    | .bool b => match b, want with
      | true, true => dQst t v fun t' => dQs3 F mk m r t' K
      | false, false => dQst t v fun t' => dQs3 F mk m r t' K
      | true, false => dQs3 F mk m r t K
      | false, true => dQs3 F mk m r t K
    | .undef => dQs3 F mk m r t K
    | _ => none
def q7n (e : List AV → (AV → Option R) → Option R) (vs : List AV) (m : Mem) (K : AV → Mem → Option R) : Option R :=
  match qlb (vs.flatMap ids) with
  | true => qzt m vs fun as_ => match as_.all qyl with
    | true => e as_ fun z => K (imp z (m.dels (vs.flatMap ids))).1 (imp z (m.dels (vs.flatMap ids))).2
    | false => none
  | false => none
def dH5 : List (H5 R) → Env → Mem → (Env → Mem → Option R) → Option R
  | [], t, m, K => K t m
  | .w s :: r, t, m, K => match s.g with
    | none => match s.op with
      | .held fl ps => match (evs t fl).all flat && ps.all (qns m t) with
        | true => dH5 r t m K
        | false => none
      | so => match w5 t m so with
        | some v => dH5 r (upd t s.dst v) m K
        | none => none
    | some _ => none
  | .c s f e :: r, t, m, K => match s.g with
    | none => match s.op with
      | .call f' xs => match Nat.beq f f', (evs t xs).all (fun v => match v with | .undef | .fr .. => false | _ => true) with
        | true, true => q7n e (evs t xs) m fun v m' => dH5 r (upd t s.dst v) m' K
        | _, _ => none
      | _ => none
    | some _ => none
def den (nb : Nat) (KR : Env → Mem → Option R) : AC R → Env → Mem → (Ex → Env → Mem → Option R) → Option R
  | .skip, t, m, K => K .norm t m
  | .reg l, t, m, K => dOps nb l t m (K .norm)
  | .draw F h l, t, m, K => dQs F (frzN m F) h t fun t' => dOps nb l t' (frzN m F) (K .norm)
  | .draw3 F mk h l, t, m, K => dQs3 F mk (frzN m F) h t fun t' => qzl mk t' (frzN m F) fun t2 m2 => dOps nb l t2 m2 (K .norm)
  | .draw4 h1 dg f sz y ys F h2 l, t, m, K => dW h1 t m fun t1 => match ev t1 y with
    | .own r k => match m.s r with
      | some (.arr true e xs0) => match Nat.beq e sz, (evs t1 ys).all qmt with
        | true, true => cond (hd xs0 k) (oB (F xs0 (evs t1 ys)) fun zs => dW h2 (upd t1 (some dg) (.own r zs.length)) (m.set r (.arr true sz zs)) fun t2 => dOps nb l t2 (m.set r (.arr true sz zs)) (K .norm)) none
        | _, _ => none
      | _ => none
    | _ => none
  | .draw5 F h l, t, m, K => dH5 h t (frzN m F) fun t' m' => dOps nb l t' m' (K .norm)
  | .seq a b, t, m, K => den nb KR a t m fun e t' m' => match e with
    | .norm => den nb KR b t' m' K
    | e => K e t' m'
  | .cond c a b, t, m, K => match c with
    | .t i => match t i with
      | .bool q => cond q (den nb KR a (upd t (some i) (.bool true)) m K) (den nb KR b (upd t (some i) (.bool false)) m K)
      | _ => none
    | .c (.bool q) => match q with
      | true => den nb KR a t m K
      | false => den nb KR b t m K
    | _ => none
  | .block id c, t, m, K => den nb KR c t m fun e t' m' => match e with
    | .exit i => match Nat.beq i id with
      | true => K .norm t' m'
      | false => K (.exit i) t' m'
    | e => K e t' m'
  | .exit id, t, m, K => K (.exit id) t m
  | .ret, t, m, K => KR t m
  | .view l, t, m, K => q3g nb l t m (K .norm)
  | .sub _ e, t, m, K => e t m K
def qmi (step : Env → Mem → (Ex → Env → Mem → Option R) → Option R) : Nat → Env → Mem → (Ex → Env → Mem → Option R) → Option R
  | 0, _, _, _ => none
  | n + 1, t, m, K => step t m fun e t' m' => match e with
    | .norm => qmi step n t' m' K
    | e => K e t' m'
def itK (step : Env → Mem → (Ex → Env → Mem → Option R) → Option R) (n : Nat) (K : Ex → Env → Mem → Option R) (e : Ex) (t : Env) (m : Mem) : Option R :=
  match e with
  | .norm => qmi step n t m K
  | e => K e t m
theorem q7o (step : Env → Mem → (Ex → Env → Mem → Option R) → Option R) (n : Nat) (t : Env) (m : Mem) (K : Ex → Env → Mem → Option R) : qmi step (n + 1) t m K = step t m (itK step n K) := rfl
noncomputable def hull {α : Type} (a : α) : α := Classical.choose (⟨a, rfl⟩ : ∃ b, b = a)
theorem qb {α : Type} (a : α) : hull a = a := Classical.choose_spec (⟨a, rfl⟩ : ∃ b, b = a)
noncomputable def FU : Nat := hull 1208925819614629174706176
theorem qwb : FU = 1208925819614629174706176 := qb _
abbrev chk (b : Bool) (x : Option R) : Option R :=
  match b with
  | true => x
  | false => none
theorem qos {b : Bool} {x : Option R} {r : R} (h : chk b x = some r) : b = true ∧ x = some r := by
  cases b <;> simp_all [chk]
def kret (res : List SRes) (dec : AV → Option R) (t : Env) (m : Mem) : Option R :=
  match retv ⟨0, res, .skip⟩ t m with
  | some v => qv9 m v dec
  | none => none
def qe0 (res : List SRes) (K : AV → Mem → Option R) (t : Env) (m : Mem) : Option R :=
  match retv ⟨0, res, .skip⟩ t m with
  | some v => K v m
  | none => none
def kend (KR : Env → Mem → Option R) (e : Ex) (t : Env) (m : Mem) : Option R :=
  match e with
  | .exit _ => none
  | _ => KR t m
end
inductive CK where
  | l (k : LT) | ptr (r off : Nat) | own (r : Nat) | fn (f : FuncId) (caps : List (Nat × Nat)) | map (r : Nat)
  deriving Inhabited
inductive TK where
  | one (c : CK) | st (cs : List CK) | cptr (ls : List LT)
  deriving Inhabited
inductive BK where
  | box (w : Bool) (cs : List CK) | arr (w : Bool) (e : Nat) | map | gone
  deriving Inhabited
structure Shp where
  ts : List (Nat × TK)
  os : List BK
def bxC : Option Ob → List AV
  | some (.box _ cs) => cs
  | _ => []
def arL : Option Ob → List AV
  | some (.arr _ _ xs) => xs
  | _ => []
def mpL : Option Ob → List (AV × AV)
  | some (.map es) => es
  | _ => []
def qrj (x : AV) (r off : Nat) : Bool :=
  match x with
  | .ptr r' off' => Nat.beq r r' && Nat.beq off off'
  | _ => false
def qs2 : List (Nat × Nat) → List AV → Bool
  | [], [] => true
  | p :: ps, x :: xs => qrj x p.1 p.2 && qs2 ps xs
  | _, _ => false
def fitK (m : Mem) : CK → AV → Bool
  | .l k, x => fitL k x
  | .ptr r off, x => qrj x r off
  | .own r, .own r' n => Nat.beq r r' && hd (arL (m.s r)) n
  | .fn f caps, .func f' cs => Nat.beq f f' && qs2 caps cs
  | .map r, .map r' => Nat.beq r r'
  | _, _ => false
def etaK (m : Mem) : CK → List AV → Nat → AV
  | .l k, cs, i => etaF k cs i
  | .ptr r off, _, _ => .ptr r off
  | .own r, _, _ => .own r (arL (m.s r)).length
  | .fn f caps, _, _ => .func f (caps.map fun p => .ptr p.1 p.2)
  | .map r, _, _ => .map r
def qhl (m : Mem) : List CK → List AV → Bool
  | [], [] => true
  | k :: ks, x :: xs => match fitK m k x with
    | true => qhl m ks xs
    | false => false
  | _, _ => false
def qi2 (m : Mem) : List CK → List AV → Nat → List AV
  | [], _, _ => []
  | k :: ks, cs, i => etaK m k cs i :: qi2 m ks cs (i + 1)
def cpL : AV → List AV
  | .cptr cs => cs
  | _ => []
def fitT (m : Mem) : TK → AV → Bool
  | .one c, x => fitK m c x
  | .st cs, x => match isAgg x with
    | true => qhl m cs x.cells
    | false => false
  | .cptr ls, x => match qhs x with
    | true => fitC ls (cpL x)
    | false => false
def etaT (m : Mem) : TK → AV → AV
  | .one c, x => etaK m c [x] 0
  | .st cs, x => .agg (qi2 m cs x.cells 0)
  | .cptr ls, x => .cptr (etaC ls (cpL x) 0)
def qzw (w : Bool) : Option Ob → Bool
  | some (.box w' _) => w == w'
  | _ => false
def qzx (w : Bool) (e : Nat) : Option Ob → Bool
  | some (.arr w' e' _) => w == w' && Nat.beq e e'
  | _ => false
def q3h : Option Ob → Bool
  | some (.map _) => true
  | _ => false
def fitO (m : Mem) : BK → Option Ob → Bool
  | .box w cs, o => match qzw w o with
    | true => qhl m cs (bxC o)
    | false => false
  | .arr w e, o => qzx w e o
  | .map, o => q3h o
  | .gone, _ => true
def etaO (m : Mem) : BK → Option Ob → Option Ob
  | .box w cs, o => some (.box w (qi2 m cs (bxC o) 0))
  | .arr w e, o => some (.arr w e (arL o))
  | .map, o => some (.map (mpL o))
  | .gone, _ => none
def qld (t : Env) (m : Mem) : List (Nat × TK) → Bool
  | [] => true
  | p :: ps => match fitT m p.2 (t p.1) with
    | true => qld t m ps
    | false => false
def qs3 (m : Mem) : List BK → Nat → Bool
  | [], _ => true
  | k :: ks, i => match fitO m k (m.s i) with
    | true => qs3 m ks (i + 1)
    | false => false
def fitS (s : Shp) (t : Env) (m : Mem) : Bool :=
  match Nat.beq s.os.length m.n with
  | true => match qld t m s.ts with
    | true => qs3 m s.os 0
    | false => false
  | false => false
def qfv (t : Env) (m : Mem) : List (Nat × TK) → List (Nat × AV)
  | [] => []
  | p :: ps => (p.1, etaT m p.2 (t p.1)) :: qfv t m ps
def qce (m : Mem) : List BK → Nat → List (Option Ob)
  | [], _ => []
  | k :: ks, i => etaO m k (m.s i) :: qce m ks (i + 1)
def q3i : CK → AV → Bool
  | .l k, x => fitL k x
  | .ptr r off, x => qrj x r off
  | .own r, .own r' _ => Nat.beq r r'
  | .fn f caps, .func f' cs => Nat.beq f f' && qs2 caps cs
  | .map r, .map r' => Nat.beq r r'
  | _, _ => false
def qot : List CK → List AV → Bool
  | [], [] => true
  | k :: ks, x :: xs => match q3i k x with
    | true => qot ks xs
    | false => false
  | _, _ => false
def q7p : TK → AV → Bool
  | .one c, x => q3i c x
  | .st cs, x => match isAgg x with
    | true => qot cs x.cells
    | false => false
  | .cptr ls, x => match qhs x with
    | true => fitC ls (cpL x)
    | false => false
def q7q : BK → Option Ob → Bool
  | .box w cs, o => match qzw w o with
    | true => qot cs (bxC o)
    | false => false
  | .arr w e, o => qzx w e o
  | .map, o => q3h o
  | .gone, _ => true
def qzy (t : Env) : List (Nat × TK) → Bool
  | [] => true
  | p :: ps => match q7p p.2 (t p.1) with
    | true => qzy t ps
    | false => false
def qzz (m : Mem) : List BK → Nat → Bool
  | [], _ => true
  | k :: ks, i => match q7q k (m.s i) with
    | true => qzz m ks (i + 1)
    | false => false
def qs4 (s : Shp) (t : Env) (m : Mem) : Bool :=
  match Nat.beq s.os.length m.n with
  | true => match qzy t s.ts with
    | true => qzz m s.os 0
    | false => false
  | false => false
def hdK (m : Mem) : CK → AV → Bool → Bool
  | .own r, .own _ n, acc => hd (arL (m.s r)) n && acc
  | _, _, acc => acc
def hdKs (m : Mem) : List CK → List AV → Bool → Bool
  | k :: ks, x :: xs, acc => hdK m k x (hdKs m ks xs acc)
  | _, _, acc => acc
def hdT (m : Mem) : TK → AV → Bool → Bool
  | .one c, x, acc => hdK m c x acc
  | .st cs, x, acc => hdKs m cs x.cells acc
  | .cptr _, _, acc => acc
def hdO (m : Mem) : BK → Option Ob → Bool → Bool
  | .box _ cs, o, acc => hdKs m cs (bxC o) acc
  | _, _, acc => acc
def hdTs (t : Env) (m : Mem) : List (Nat × TK) → Bool → Bool
  | [], acc => acc
  | p :: ps, acc => hdT m p.2 (t p.1) (hdTs t m ps acc)
def hdOs (m : Mem) : List BK → Nat → Bool
  | [], _ => true
  | k :: ks, i => hdO m k (m.s i) (hdOs m ks (i + 1))
def hdS (s : Shp) (t : Env) (m : Mem) : Bool := hdTs t m s.ts (hdOs m s.os 0)
inductive RL where
  | b | i (k : IntKind) | s | sl (e : Nat) | fr (w : Bool) (e : Nat) | nil | op
  deriving Inhabited
inductive RV where
  | one (l : RL) | st (ls : List RL)
  deriving Inhabited
def fitR : RL → AV → Bool
  | .b, .bool _ => true
  | .i k, .int k' _ => decide (k = k')
  | .s, .str _ => true
  | .sl e, .sl e' _ => Nat.beq e e'
  | .fr w e, .fr w' e' _ => w == w' && Nat.beq e e'
  | .nil, .nils => true
  | .op, x => qcl x
  | _, _ => false
def etaR (l : RL) (x : AV) : AV :=
  match l with
  | .b => .bool (aB x)
  | .i q => .int q (aI x)
  | .s => .str (aS x)
  | .sl e => .sl e (aL x)
  | .fr w e => .fr w e (aL x)
  | .nil => .nils
  | .op => x
def qwc : List RL → List AV → Bool
  | [], [] => true
  | l :: ls, x :: xs => match fitR l x with
    | true => qwc ls xs
    | false => false
  | _, _ => false
def q3j : List RL → List AV → Nat → List AV
  | [], _, _ => []
  | l :: ls, cs, k => etaR l (gC cs k) :: q3j ls cs (k + 1)
def qnv : RV → AV → Bool
  | .one l, x => fitR l x
  | .st ls, x => match isAgg x with
    | true => qwc ls x.cells
    | false => false
def qnw : RV → AV → AV
  | .one l, x => etaR l x
  | .st ls, x => .agg (q3j ls x.cells 0)
def tpL : AV → List AV
  | .tup vs => vs
  | _ => []
def qbb0 : AV → Bool
  | .tup _ => true
  | _ => false
def qrk : List RV → List AV → Bool
  | [], [] => true
  | l :: ls, x :: xs => match qnv l x with
    | true => qrk ls xs
    | false => false
  | _, _ => false
def qvj : List RV → List AV → Nat → List AV
  | [], _, _ => []
  | l :: ls, cs, k => qnw l (gC cs k) :: qvj ls cs (k + 1)
def q4y (ls : List RV) (z : AV) : Bool :=
  match qbb0 z with
  | true => qrk ls (tpL z)
  | false => false
end Go.Pev
/- The reckoner is sound (1): operations. -/
namespace Go.Pev
open Go
set_option linter.unusedVariables false
set_option linter.unusedSimpArgs false
section
variable {R : Type} {P : Program} {t : Env} {m : Mem}
theorem qb5 {α β : Type} {o : Option α} {f : α → Option β} {r : β} (h : oB o f = some r) : ∃ a, o = some a ∧ f a = some r := by
  cases o with
  | none => simp [oB] at h
  | some a => exact ⟨a, rfl, h⟩
theorem ql2 {α β : Type} {o : Option α} {f : α → Option β} {r : β} (h : oI o f = some r) : ∃ a, o = some a ∧ f a = some r := by
  cases o with
  | none => simp [oI] at h
  | some a => exact ⟨a, rfl, h⟩
theorem qg {b : Bool} {x : Option R} {r : R} (h : cond b x none = some r) : b = true ∧ x = some r := by
  cases b <;> simp_all
theorem qz0 {b : Bool} {x : Option R} {r : R} (h : cond b none x = some r) : b = false ∧ x = some r := by
  cases b <;> simp_all
theorem qnx {xs : List AV} {n : Nat} (h : hd xs n = true) : xs.length = n := Nat.eq_of_beq_eq_true h
theorem qrl {x : AV} {K : AV → Option R} {r : R} (h : qp0 m x K = some r) : ∃ y, qu m x = some y ∧ K y = some r := by
  unfold qp0 at h
  split at h
  · rename_i q n
    split at h
    · rename_i w e xs hs
      obtain ⟨h1, h2⟩ := qg h
      exact ⟨_, by simp [qu, hs, qnx h1], h2⟩
    · cases h
  · split at h
    · rename_i y hy; exact ⟨y, hy, h⟩
    · cases h
theorem qle : ∀ (xs : List AV) (K : List AV → Option R) (r : R), qla m xs K = some r → ∃ ys, qck m xs = some ys ∧ K ys = some r
  | [], K, r, h => ⟨[], rfl, h⟩
  | x :: xs, K, r, h => by
    unfold qla at h
    obtain ⟨y, h1, h2⟩ := qrl h
    obtain ⟨ys, h3, h4⟩ := qle xs _ r h2
    exact ⟨y :: ys, by simp [qck, h1, h3], h4⟩
theorem qz1 {x : AV} {K : AV → Option R} {r : R} (h : q3e m x K = some r) : ∃ y, snap m x = some y ∧ K y = some r := by
  unfold q3e at h
  split at h
  · obtain ⟨ys, h1, h2⟩ := qle _ _ _ h
    exact ⟨_, by simp [snap, h1], h2⟩
  · rename_i hx
    obtain ⟨y, h1, h2⟩ := qrl h
    refine ⟨y, ?_, h2⟩
    unfold snap
    split
    · exact absurd rfl (hx _)
    · exact h1
theorem qdt : ∀ (xs : List AV) (K : List AV → Option R) (r : R), qip m xs K = some r → ∃ ys, qcd m xs = some ys ∧ K ys = some r
  | [], K, r, h => ⟨[], rfl, h⟩
  | x :: xs, K, r, h => by
    unfold qip at h
    obtain ⟨y, h1, h2⟩ := qz1 h
    obtain ⟨ys, h3, h4⟩ := qdt xs _ r h2
    exact ⟨y :: ys, by simp [qcd, h1, h3], h4⟩
theorem qtq {x : AV} {K : AV → Option R} {r : R} (h : qs1 m x K = some r) : ∃ y, qbr m x = some y ∧ K y = some r := by
  unfold qs1 at h
  split at h
  · rename_i q n
    split at h
    · rename_i w e xs hs
      obtain ⟨h1, h2⟩ := qg h
      exact ⟨_, by simp [qbr, hs, qnx h1], h2⟩
    · cases h
  · split at h
    · rename_i y hy; exact ⟨y, hy, h⟩
    · cases h
theorem qrm : ∀ (xs : List AV) (K : List AV → Option R) (r : R), qp1 m xs K = some r → ∃ ys, qdc m xs = some ys ∧ K ys = some r
  | [], K, r, h => ⟨[], rfl, h⟩
  | x :: xs, K, r, h => by
    unfold qp1 at h
    obtain ⟨y, h1, h2⟩ := qtq h
    obtain ⟨ys, h3, h4⟩ := qrm xs _ r h2
    exact ⟨y :: ys, by simp [qdc, h1, h3], h4⟩
theorem qz2 {x : AV} {K : AV → Option R} {r : R} (h : q3f m x K = some r) : ∃ y, exp1 m x = some y ∧ K y = some r := by
  unfold q3f at h
  split at h
  · obtain ⟨ys, h1, h2⟩ := qrm _ _ _ h
    exact ⟨_, by simp [exp1, h1], h2⟩
  · rename_i hx
    obtain ⟨y, h1, h2⟩ := qtq h
    refine ⟨y, ?_, h2⟩
    unfold exp1
    split
    · exact absurd rfl (hx _)
    · exact h1
theorem qs5 : ∀ (xs : List AV) (K : List AV → Option R) (r : R), qzt m xs K = some r → ∃ ys, exps m xs = some ys ∧ K ys = some r
  | [], K, r, h => ⟨[], rfl, h⟩
  | x :: xs, K, r, h => by
    unfold qzt at h
    obtain ⟨y, h1, h2⟩ := qz2 h
    obtain ⟨ys, h3, h4⟩ := qs5 xs _ r h2
    exact ⟨y :: ys, by simp [exps, h1, h3], h4⟩
theorem qp2 : ∀ (l : List Nat), qlb l = true → l.Nodup
  | [], _ => by simp
  | x :: xs, h => by
    simp only [qlb, Bool.and_eq_true, Bool.not_eq_true', List.any_eq_false] at h
    refine List.nodup_cons.2 ⟨fun hx => ?_, qp2 xs h.2⟩
    have := h.1 x hx
    simp at this
theorem q7r {x : AV} {K : AV → Option R} {r : R} (h : qv9 m x K = some r) : ∃ y, expo m x = some y ∧ K y = some r := by
  unfold qv9 at h
  split at h
  · rename_i vs
    split at h
    · rename_i hn
      obtain ⟨ys, h1, h2⟩ := qs5 _ _ _ h
      exact ⟨_, by simp [expo, qp2 _ hn, h1], h2⟩
    · cases h
  · exact ⟨_, rfl, h⟩
  · rename_i hx hu
    split at h
    · rename_i hn
      obtain ⟨y, h1, h2⟩ := qz2 h
      refine ⟨y, ?_, h2⟩
      unfold expo
      split
      · exact absurd rfl (hx _)
      · exact absurd rfl hu
      · rw [if_pos (qp2 _ hn)]; exact h1
    · cases h
theorem qkk (m : Mem) (l : List Nat) : frzN m l = m.frz l := by
  cases l with
  | nil => cases m; simp [frzN, Mem.frz]
  | cons a l => rfl
theorem ql3 {x : AV} {K : List AV → Option R} {r : R} (h : elB m x K = some r) : ∃ xs, els m x = some xs ∧ K xs = some r := by
  unfold elB at h
  split at h
  · exact ⟨[], rfl, h⟩
  · exact ⟨_, rfl, h⟩
  · split at h
    · rename_i w e xs hs
      obtain ⟨h1, h2⟩ := qg h
      exact ⟨_, by simp [els, hs, qnx h1], h2⟩
    · cases h
  · cases h
theorem q8x {e : Nat} {x : AV} {K : List AV → Option R} {r : R} (h : newB m e x K = some r) : ∃ xs, qn3 m e x = some xs ∧ K xs = some r := by
  unfold newB at h
  split at h
  · split at h
    · rename_i h1
      exact ⟨_, by simp [qn3, h1], h⟩
    · cases h
  · rename_i hx
    split at h
    · rename_i h1
      obtain ⟨xs, h2, h3⟩ := ql3 h
      refine ⟨xs, ?_, h3⟩
      unfold qn3
      split
      · exact absurd rfl (hx _)
      · rw [if_pos h1]; exact h2
    · cases h
theorem q14 {o : Option Opd} {a : Option Int} (h : intO t o = some a) : ∀ d mx, bnd (o.map (ev t)) d mx = bnd (a.map fun i => AV.int .i64 i) d mx := by
  intro d mx
  cases o with
  | none => simp [intO] at h; subst h; rfl
  | some o =>
    simp only [intO] at h
    split at h
    · rename_i k n hn
      simp at h; subst h
      simp [bnd, hn]
    · cases h
theorem qbap {α : Type} {l ys : List α} {a b : Option Int} (h : cutI l a b = some ys) : cut l (a.map fun i => AV.int .i64 i) (b.map fun i => AV.int .i64 i) = some ys := by
  unfold cutI at h
  simp only at h
  split at h
  · rename_i hc
    simp at h; subst h
    obtain ⟨h1, h2, h3⟩ := hc
    cases a with
    | none =>
      cases b with
      | none => simp [cut, bnd]
      | some b =>
        simp only [Option.getD_none, Option.getD_some] at h1 h2 h3
        have h4 : 0 ≤ b ∧ b ≤ (l.length : Int) := ⟨h2, h3⟩
        simp only [cut, bnd, Option.map_some, Option.map_none, if_pos h4, Option.getD_some, Option.getD_none]
        simp
    | some a =>
      cases b with
      | none =>
        simp only [Option.getD_none, Option.getD_some] at h1 h2 h3
        have h4 : 0 ≤ a ∧ a ≤ (l.length : Int) := ⟨h1, h2⟩
        simp only [cut, bnd, Option.map_some, Option.map_none, if_pos h4, Option.getD_some, Option.getD_none]
        simp
      | some b =>
        simp only [Option.getD_some] at h1 h2 h3
        have h4 : 0 ≤ b ∧ b ≤ (l.length : Int) := ⟨by omega, h3⟩
        have h5 : 0 ≤ a ∧ a ≤ ((b.toNat : Nat) : Int) := ⟨h1, by omega⟩
        simp only [cut, bnd, Option.map_some, if_pos h4, if_pos h5, Option.getD_some]
  · cases h
theorem qz3 {α : Type} {l ys : List α} {lo hi : Option Opd} {a b : Option Int} (h1 : intO t lo = some a) (h2 : intO t hi = some b) (h : cutI l a b = some ys) : cut l (lo.map (ev t)) (hi.map (ev t)) = some ys := by
  have h3 := qbap h
  unfold cut at h3 ⊢
  rw [q14 h2]
  split at h3
  · rw [q14 h1]
    exact h3
  · cases h3
theorem q4z {kd : KD} {k : AV} {F : AV → Option R} {N : Option R} {r : R} : ∀ (es : List (AV × AV)) (i : Nat), mgB kd k es F N = some r →
    (qmb kd k es i = some none ∧ N = some r) ∨ ∃ j v, qmb kd k es i = some (some (j, v)) ∧ F v = some r
  | [], i, h => .inl ⟨rfl, h⟩
  | p :: es, i, h => by
    unfold mgB at h
    unfold qmb
    split at h
    · rename_i b hb
      rw [hb]
      cases b with
      | true => exact .inr ⟨i, p.2, rfl, h⟩
      | false => exact q4z es (i + 1) h
    · cases h
theorem qbd {so : SOp} {K : AV → Mem → Prop} (hc : so.quiet = true) (hn : ∀ f xs, so ≠ .call f xs) {v : AV} (hv : qa t m so = some v) (h : K v m) : WpOp P t m K so := by
  cases so <;> first | (simp only [WpOp, hc, if_true, hv, oP]; exact h) | (exact absurd rfl (hn _ _)) | (simp [SOp.quiet] at hc)
theorem qgf {so : SOp} {K : AV → Mem → Prop} (hc : so.quiet = false) (hn : ∀ x xs, so ≠ .callv x xs) {v : AV} {m' : Mem} (hv : qd t m so = some (v, m')) (h : K v m') : WpOp P t m K so := by
  cases so <;> first | (simp only [WpOp, hc, Bool.false_eq_true, if_false, hv, oP]; exact h) | (exact absurd rfl (hn _ _)) | (simp [SOp.quiet] at hc)
theorem qbcm {so : SOp} {K : AV → Mem → Option R} {r : R} (hn : ∀ f xs, so ≠ .call f xs) (hn2 : ∀ x xs, so ≠ .callv x xs)
    (h : (match so.quiet with | true => oI (qa t m so) fun v => K v m | false => oI (qd t m so) fun p => K p.1 p.2) = some r) : WpOp P t m (fun v m' => K v m' = some r) so := by
  split at h
  · rename_i hq
    obtain ⟨v, h1, h2⟩ := ql2 h
    exact qbd hq hn h1 h2
  · rename_i hq
    obtain ⟨p, h1, h2⟩ := ql2 h
    exact qgf hq hn2 (v := p.1) (m' := p.2) h1 h2
theorem q15 {so : SOp} {K : AV → Mem → Option R} {r : R} (h : dOp t m so K = some r) : WpOp P t m (fun v m' => K v m' = some r) so := by
  unfold dOp at h
  split at h
  · -- pick
    rename_i c a b
    split at h
    · rename_i q hq
      have h2 : K (if q then ev t a else ev t b) m = some r := by cases q <;> simpa using h
      exact qbd rfl (by simp) (by simp only [qa, hq]) h2
    · cases h
  · -- ixs
    split at h
    · rename_i s k n hx hi
      obtain ⟨b, h1, h2⟩ := qb5 h
      unfold ixB at h1
      split at h1
      · rename_i h0
        exact qbd rfl (by simp) (by simp only [qa, hx, hi, vixs, if_pos h0, h1, Option.map_some]) h2
      · cases h1
    · cases h
  · -- ia
    split at h
    · rename_i k n hi
      split at h
      · rename_i e' xs hx
        split at h
        · rename_i he
          obtain ⟨y, h1, h2⟩ := qb5 h
          unfold ixB at h1
          split at h1
          · rename_i h0
            exact qbd rfl (by simp) (by simp only [qa, hx, hi, via, if_pos h0, if_pos he, h1, Option.map_some]) h2
          · cases h1
        · cases h
      · rename_i q len hx
        split at h
        · rename_i w e' xs hs
          split at h
          · rename_i he
            obtain ⟨h1, h2⟩ := qg h
            obtain ⟨h3, h4⟩ := qg h2
            have h5 := of_decide_eq_true h3
            have h6 : e' = _ ∧ xs.length = len ∧ n < (len : Int) := ⟨he, qnx h1, h5.2⟩
            exact qbd rfl (by simp) (by simp only [qa, hx, hi, via, if_pos h5.1, hs]; rw [if_pos h6]) h4
          · cases h
        · cases h
      · cases h
    · cases h
  · -- load
    split at h
    · rename_i q n i off hx
      split at h
      · rename_i w e xs hs
        obtain ⟨h1, h2⟩ := qg h
        obtain ⟨x, h3, h4⟩ := qb5 h2
        obtain ⟨v, h5, h6⟩ := qb5 h4
        refine qbd rfl (by simp) (v := v) ?_ h6
        simp only [qa, hx, rd, hs, if_pos (qnx h1), h3]
        exact h5
      · cases h
    · rename_i hx
      obtain ⟨v, h1, h2⟩ := ql2 h
      exact qbd rfl (by simp) (v := v) (by simp only [qa]; exact h1) h2
  · -- fa
    split at h
    · rename_i q n i o hx
      split at h
      · rename_i w e xs hs
        obtain ⟨h1, h2⟩ := qg h
        refine qbd rfl (by simp) (v := .eptr q n i (o + _)) ?_ h2
        simp [qa, hx, vfa, q28, hs, qnx h1]
      · cases h
    · obtain ⟨v, h1, h2⟩ := ql2 h
      exact qbd rfl (by simp) (v := v) (by simp only [qa]; exact h1) h2
  · -- bin
    split at h
    · rename_i a b hx hy
      split at h
      · obtain ⟨h1, h2⟩ := qg h
        have h3 := of_decide_eq_true h1
        exact qbd rfl (by simp) (by simp only [qa, hx, hy, vbin, sbin, if_pos h3]) h2
      · obtain ⟨v, h1, h2⟩ := ql2 h
        exact qbd rfl (by simp) (v := v) (by simp only [qa, hx, hy, vbin]; exact h1) h2
    · rename_i k a k' b hx hy
      split at h
      · split at h
        · rename_i hk
          obtain ⟨h1, h2⟩ := qg h
          have h3 : k = k' ∧ b ≠ 0 := ⟨hk, of_decide_eq_true h1⟩
          exact qbd rfl (by simp) (by simp only [qa, hx, hy, vbin, ibin]; rw [if_pos h3]) h2
        · cases h
      · split at h
        · rename_i hk
          obtain ⟨h1, h2⟩ := qg h
          have h3 : k = k' ∧ b ≠ 0 := ⟨hk, of_decide_eq_true h1⟩
          exact qbd rfl (by simp) (by simp only [qa, hx, hy, vbin, ibin]; rw [if_pos h3]) h2
        · cases h
      · obtain ⟨h1, h2⟩ := qz0 h
        have h3 := of_decide_eq_false h1
        exact qbd rfl (by simp) (by simp only [qa, hx, hy, vbin, ibin]; rw [if_neg h3]) h2
      · obtain ⟨h1, h2⟩ := qz0 h
        have h3 := of_decide_eq_false h1
        exact qbd rfl (by simp) (by simp only [qa, hx, hy, vbin, ibin]; rw [if_neg h3]) h2
      · obtain ⟨v, h1, h2⟩ := ql2 h
        exact qbd rfl (by simp) (v := v) (by simp only [qa, hx, hy, vbin]; exact h1) h2
    · cases h
  · -- slcs
    split at h
    · rename_i s a b hx ha hb
      obtain ⟨s', h1, h2⟩ := qb5 h
      exact qbd rfl (by simp) (by simp only [qa, hx, qz3 ha hb h1, Option.map_some]) h2
    · cases h
  · -- slc
    split at h
    · rename_i a b he ha hb
      split at h
      · rename_i q n hx
        obtain ⟨xs, h1, h2⟩ := ql3 h
        obtain ⟨ys, h3, h4⟩ := qb5 h2
        rw [← hx] at h1
        refine qgf rfl (by simp) (v := .sl _ ys) (m' := m.frz [q]) ?_ h4
        simp only [qd, he, if_true, h1, qz3 ha hb h3, Option.map_some]
        rw [hx]; rfl
      · rename_i x hx
        obtain ⟨xs, h1, h2⟩ := ql3 h
        obtain ⟨ys, h3, h4⟩ := qb5 h2
        refine qgf rfl (by simp) (v := .sl _ ys) (m' := m) ?_ h4
        simp only [qd, he, if_true, h1, qz3 ha hb h3, Option.map_some]
        have : ids (ev t ‹Opd›) = [] := by
          unfold elB at h
          split at h
          · rename_i hx2; rw [hx2]; rfl
          · rename_i hx2; rw [hx2]; rfl
          · rename_i hx2; exact absurd hx2 (hx _ _)
          · cases h
        rw [this]
        have e : m.frz [] = m := by cases m; simp [Mem.frz]
        rw [e]
    · cases h
  · -- app
    split at h
    · rename_i he
      obtain ⟨xs, h1, h2⟩ := ql3 h
      obtain ⟨ys, h3, h4⟩ := q8x h2
      obtain ⟨h5, h6⟩ := qg h4
      have h7 := of_decide_eq_true h5
      split at h6
      · rename_i hx
        refine qgf rfl (by simp) (v := .own m.n ys.length) (m' := m.new (.arr true _ ys)) ?_ h6
        have h8 : esz m _ (ev t _) = true ∧ (xs.length + ys.length) * _ ≤ 140737488355328 := ⟨he, h7⟩
        simp only [qd, q3b, h1, h3]
        rw [if_pos h8, hx]
      · rename_i q n hx
        split at h6
        · rename_i w e2 xs2 hs
          refine qgf rfl (by simp) (v := .own q (xs ++ ys).length) (m' := m.set q (.arr w _ (xs ++ ys))) ?_ h6
          have h8 : esz m _ (ev t _) = true ∧ (xs.length + ys.length) * _ ≤ 140737488355328 := ⟨he, h7⟩
          simp only [qd, q3b, h1, h3]
          rw [if_pos h8, hx]
          simp only [hs, List.length_append]
        · cases h6
      · cases h6
    · cases h
  · -- mksl
    split at h
    · rename_i n k hl hc
      obtain ⟨h1, h2⟩ := qg h
      have h3 := of_decide_eq_true h1
      refine qgf rfl (by simp) (v := .own m.n (List.replicate n.toNat _).length) ?_ h2
      simp only [qd, mkOf, hl, hc]
      rw [if_pos h3]
      simp
    · cases h
  · -- conv strOf
    obtain ⟨xs, h1, h2⟩ := ql3 h
    obtain ⟨b, h3, h4⟩ := qb5 h2
    exact qbd rfl (by simp) (v := .str b) (by simp only [qa, qza, h1, h3, Option.map_some]) h4
  · -- store
    split at h
    · rename_i q n i off hx
      split at h
      · rename_i e xs ys hl hs hy
        split at h
        · rename_i hc
          obtain ⟨h1, h2⟩ := qg h
          obtain ⟨y, h3, h4⟩ := qb5 h2
          obtain ⟨y', h5, h6⟩ := qb5 h4
          refine qgf rfl (by simp) (v := .undef) (m' := (m.frz ((ev t _).cells.flatMap qv)).set q (.arr true e (xs.set i y'))) ?_ h6
          have h7 : (ev t ‹Opd›).cells.length = _ ∧ (ev t ‹Opd›).cells.all AV.leaf = true := ⟨hc.1, hl⟩
          have h8 : xs.length = n ∧ q ∉ (ev t ‹Opd›).cells.flatMap qv := ⟨qnx h1, hc.2⟩
          simp only [qd, wr, hx]
          rw [if_pos h7]
          simp only [hs, hy]
          rw [if_pos h8]
          simp only [h3]
          unfold putE at h5
          split at h5
          · split at h5
            · rename_i h9
              simp at h5; subst h5
              simp only [if_pos h9]; rfl
            · cases h5
          · rename_i hag
            split at h5
            · rename_i h9
              simp only [Option.some.injEq] at h5; subst h5
              split
              · rename_i heq; cases heq; exact absurd rfl (hag _)
              · rw [if_pos h9]; rfl
              · rename_i heq; cases heq
            · cases h5
        · cases h
      · cases h
    · obtain ⟨m', h1, h2⟩ := ql2 h
      exact qgf rfl (by simp) (v := .undef) (m' := m') (by simp only [qd, h1, Option.map_some]) h2
  · -- mget
    split at h
    · rename_i q hx
      split at h
      · rename_i es hk hs
        rcases q4z es 0 h with ⟨h1, h2⟩ | ⟨j, v, h1, h2⟩
        · exact qbd rfl (by simp) (by simp only [qa, q3a, hx, if_pos hk, hs, h1]) h2
        · exact qbd rfl (by simp) (by simp only [qa, q3a, hx, if_pos hk, hs, h1]) h2
      · cases h
    · cases h
  · -- mput
    split at h
    · rename_i q hx
      split at h
      · rename_i es hk hv hs
        obtain ⟨es', h1, h2⟩ := qb5 h
        refine qgf rfl (by simp) (v := .undef) (m' := m.set q (.map es')) ?_ h2
        simp only [qd, q30, hx]
        rw [if_pos ⟨hk, hv⟩]
        simp only [hs]
        unfold qbby at h1
        split at h1
        · rename_i i u hf
          simp at h1; subst h1
          simp only [hf]; rfl
        · rename_i hf
          simp at h1; subst h1
          simp only [hf]; rfl
        · cases h1
      · cases h
    · cases h
  · -- bsl
    obtain ⟨xs, h1, h2⟩ := qdt _ _ _ h
    split at h2
    · rename_i hl
      rw [qkk] at h2
      exact qgf rfl (by simp) (by simp only [qd, h1, hl, if_true]) h2
    · cases h2
  · cases h
  · cases h
  · rename_i h1 h2 h3 h4 h5 h6 h7 h8 h9 h10 h11 h12 h13 h14 h15 h16 h17
    exact qbcm (fun f xs he => h16 _ _ he) (fun f xs he => h17 _ _ he) h
end
end Go.Pev
/- The reckoner is sound (2): views. -/
namespace Go.Pev
open Go
set_option linter.unusedVariables false
set_option linter.unusedSimpArgs false
section
variable {R : Type} {P : Program} {g : Gh} {m : Mem} {w : World} {t : Env}
theorem q05 {cs : List AV} {v : Value} (h : VRel g m w (.agg cs) v) : ∃ vs, v = .agg vs ∧ vs.size = cs.length ∧ (∀ x, x ∈ cs → x.leaf = true) ∧ ∀ (k : Nat) (x : AV) (v : Value), cs[k]? = some x → vs[k]? = some v → VRel g m w x v := by
  cases h with
  | c h => cases h with
    | agg _ vs hl hs hh => exact ⟨vs, rfl, hs, hl, fun k x v h1 h2 => .c (hh k x v h1 h2)⟩
  | agg _ vs hl hs hh => exact ⟨vs, rfl, hs, hl, hh⟩
theorem qou {v : Value} (h : VRel g m w .nils v) : v = .slice none 0 0 := by cases h; rename_i h; cases h; rfl
theorem qs6 (I : Nat → Nat → Prop) (w : World) (e : Nat) : CRel I w (.sl e []) (.slice none 0 0) :=
  .sl e [] none 0 0 0 (fun _ => undef) (by simp) (.inl rfl) (by simp) (by simp) (by simp) (by simp)
theorem q7s {cs : List AV} {k : Nat} {x : AV} (h : cs[k]? = some x) : gC cs k = x := by simp [gC, h]
theorem q06 {l : LT} {cs : List AV} {k : Nat} {x : AV} (hx : gC cs k = x) (h : fitL l x = true) : etaF l cs k = x ∨ (∃ e, x = .nils ∧ etaF l cs k = .sl e []) ∨ (fnC x = true ∧ etaF l cs k = .fv x) := by
  cases l <;> cases x <;> simp_all [fitL, etaF, gB, gI, gS, gL, aB, aI, aS, aL, AV.leaf, unfv, fnC]
theorem qvk {l : LT} {cs : List AV} {k : Nat} {x : AV} (hx : gC cs k = x) (h : fitL l x = true) : (etaF l cs k).leaf = true := by
  cases l <;> cases x <;> simp_all [fitL, etaF, AV.leaf]
theorem q40 {x : AV} (hx : fnC x = true) {v : Value} (hv : VRel g m w x v) : CRel g.I w x v := by
  obtain ⟨f, caps, rfl, hc⟩ := q6i hx
  cases hv with
  | c h => exact h
  | func _ _ vs hp hs hh =>
    have : caps = [] := by
      cases caps with
      | nil => rfl
      | cons y ys =>
        have h1 := List.all_eq_true.1 hc y (by simp)
        have h2 := hp y (by simp)
        cases y <;> simp_all [qhs, q29]
    subst this
    exact .func f [] vs (by simp) hs (by simp)
theorem q16 {l : LT} {cs : List AV} {k : Nat} {x : AV} (hx : gC cs k = x) (h : fitL l x = true) {v : Value} (hv : VRel g m w x v) : VRel g m w (etaF l cs k) v := by
  rcases q06 hx h with h1 | ⟨e, rfl, h1⟩ | ⟨h2, h1⟩
  · rw [h1]; exact hv
  · rw [h1, qou hv]; exact .c (qs6 _ _ _)
  · rw [h1]; exact .c (.fv _ _ h2 (q40 h2 hv))
theorem q8y {I : Nat → Nat → Prop} {l : LT} {cs : List AV} {k : Nat} {x : AV} (hx : gC cs k = x) (h : fitL l x = true) {v : Value} (hv : CRel I w x v) : CRel I w (etaF l cs k) v := by
  rcases q06 hx h with h1 | ⟨e, rfl, h1⟩ | ⟨h2, h1⟩
  · rw [h1]; exact hv
  · rw [h1]; cases hv; exact qs6 _ _ _
  · rw [h1]; exact .fv _ _ h2 hv
theorem qz4 {l : LT} (hl : qmv l = true) {cs : List AV} {k : Nat} {x : AV} (hx : gC cs k = x) (h : fitL l x = true) : etaF l cs k = x := by
  cases l <;> cases x <;> simp_all [fitL, etaF, gB, gI, gS, gL, aB, aI, aS, aL, AV.leaf, qmv]
theorem qs7 : ∀ (ls : List LT) (cs : List AV), fitC ls cs = true → cs.length = ls.length ∧ ∀ (k : Nat) (l : LT) (x : AV), ls[k]? = some l → cs[k]? = some x → fitL l x = true
  | [], [], _ => ⟨rfl, by simp⟩
  | [], _ :: _, h => by simp [fitC] at h
  | _ :: _, [], h => by simp [fitC] at h
  | l :: ls, x :: xs, h => by
    simp only [fitC] at h
    split at h
    · rename_i h1
      obtain ⟨h2, h3⟩ := qs7 ls xs h
      refine ⟨by simp [h2], fun k l' x' hl hx => ?_⟩
      cases k with
      | zero => simp at hl hx; subst hl; subst hx; exact h1
      | succ k => exact h3 k l' x' (by simpa using hl) (by simpa using hx)
    · cases h
theorem qym : ∀ (ls : List LT) (cs : List AV) (i k : Nat), (etaC ls cs i)[k]? = (ls[k]?).map fun l => etaF l cs (i + k)
  | [], cs, i, k => by simp [etaC]
  | l :: ls, cs, i, k => by
    cases k with
    | zero => simp [etaC]
    | succ k => simp only [etaC, List.getElem?_cons_succ]; rw [qym ls cs (i + 1) k, Nat.add_right_comm, Nat.add_assoc]
theorem q52 (ls : List LT) (cs : List AV) (i : Nat) : (etaC ls cs i).length = ls.length := by
  induction ls generalizing i with
  | nil => rfl
  | cons l ls ih => simp [etaC, ih]
theorem qrn {ls : List LT} {cs : List AV} (h : fitC ls cs = true) {k : Nat} {y : AV} (hy : (etaC ls cs 0)[k]? = some y) : ∃ l x, cs[k]? = some x ∧ gC cs k = x ∧ fitL l x = true ∧ y = etaF l cs k := by
  obtain ⟨h1, h2⟩ := qs7 ls cs h
  rw [qym] at hy
  obtain ⟨l, hl, rfl⟩ := Option.map_eq_some_iff.1 hy
  have hk : k < cs.length := by have := (List.getElem?_eq_some_iff.1 hl).1; omega
  have hx : cs[k]? = some cs[k] := by simp [hk]
  exact ⟨l, cs[k], hx, q7s hx, h2 k l _ hl hx, by simp⟩
theorem qlf {ls : List LT} (hl : ls.all qmv = true) {cs : List AV} (h : fitC ls cs = true) : etaC ls cs 0 = cs := by
  refine List.ext_getElem? fun k => ?_
  obtain ⟨h1, h2⟩ := qs7 ls cs h
  rw [qym]
  by_cases hk : k < ls.length
  · have hl2 : ls[k]? = some ls[k] := by simp [hk]
    have hx : cs[k]? = some (cs[k]'(by omega)) := by simp <;> omega
    rw [hl2, hx]
    simp only [Option.map_some, Option.some.injEq, Nat.zero_add]
    exact qz4 (List.all_eq_true.1 hl _ (List.getElem_mem hk)) (q7s hx) (h2 k _ _ hl2 hx)
  · have e1 : ls[k]? = none := by simp <;> omega
    have e2 : cs[k]? = none := by simp <;> omega
    rw [e1, e2]; rfl
theorem qs8 {x : AV} (h : isAgg x = true) : ∃ cs, x = .agg cs := by
  cases x with
  | agg cs => exact ⟨cs, rfl⟩
  | _ => simp [isAgg] at h
theorem q7t {k : VK} {x : AV} (hk : q4x k = true) (h : fitV k x = true) : etaV k x = x := by
  cases k with
  | one l =>
    have := qz4 (l := l) (cs := [x]) (k := 0) (x := x) hk rfl h
    rw [← this]
    cases l <;> first | rfl | (simp [q4x, qmv] at hk; done) | (simp only [etaV, etaF]; rw [this])
  | st ls =>
    simp only [fitV] at h
    split at h
    · rename_i hx
      obtain ⟨cs, rfl⟩ := qs8 hx
      simp only [etaV, AV.cells] at h ⊢
      rw [qlf hk h]
    · cases h
theorem qqi {ls : List LT} {cs : List AV} (h : fitC ls cs = true) {v : Value} (hv : VRel g m w (.agg cs) v) : VRel g m w (.agg (etaC ls cs 0)) v := by
  obtain ⟨vs, rfl, hs, hl, hh⟩ := q05 hv
  refine .agg _ _ (fun y hy => ?_) (by rw [q52, hs, (qs7 ls cs h).1]) (fun k y v hy hv => ?_)
  · obtain ⟨k, hk⟩ := List.getElem?_of_mem hy
    obtain ⟨l, x, h1, h2, h3, rfl⟩ := qrn h hk
    exact qvk h2 h3
  · obtain ⟨l, x, h1, h2, h3, rfl⟩ := qrn h hy
    exact q16 h2 h3 (hh k x v h1 hv)
theorem q8z {k : VK} {x : AV} (h : fitV k x = true) {v : Value} (hv : VRel g m w x v) : VRel g m w (etaV k x) v := by
  cases k with
  | one l =>
    have h2 := q16 (l := l) (cs := [x]) (k := 0) (x := x) rfl h hv
    cases l <;> exact h2
  | st ls =>
    simp only [fitV] at h
    split at h
    · rename_i h1
      obtain ⟨cs, rfl⟩ := qs8 h1
      exact qqi h hv
    · cases h
theorem qlg {ls : List LT} {cs : List AV} (h : fitC ls cs = true) {v : Value} (hv : VRel g m w (.cptr cs) v) : VRel g m w (.cptr (etaC ls cs 0)) v := by
  cases hv with
  | c hv =>
    cases hv with
    | cptr _ b o gg hl hc hh =>
      refine .c (.cptr _ b o gg (fun y hy => ?_) (fun k y hy => ?_) (fun k y hy => ?_))
      · obtain ⟨k, hk⟩ := List.getElem?_of_mem hy
        obtain ⟨l, x, h1, h2, h3, rfl⟩ := qrn h hk
        exact qvk h2 h3
      · obtain ⟨l, x, h1, h2, h3, rfl⟩ := qrn h hy
        exact hc k x h1
      · obtain ⟨l, x, h1, h2, h3, rfl⟩ := qrn h hy
        exact q8y h2 h3 (hh k x h1)
theorem OK.reb (hok : OK g m w) {r : Nat} {wf : Bool} {cs cs' : List AV} (hs : m.s r = some (.box wf cs)) (hlen : cs'.length = cs.length) (hl : ∀ x, x ∈ cs' → x.leaf = true)
    (h : ∀ (k : Nat) (x' : AV) (v : Value), cs'[k]? = some x' → (∀ x, cs[k]? = some x → VRel g m w x v) → VRel g m w x' v) :
    OK g (m.set r (.box wf cs')) w ∧ Ext g m w g (m.set r (.box wf cs')) w := by
  refine OK.one r (.box wf cs') hok rfl (Nat.le_refl _) (hok.lt r _ hs) (fun i hi => ⟨rfl, rfl⟩) (fun _ => rfl) (fun _ wf' e' xs' he => by cases he) (fun b hb _ => rfl) (Nat.le_refl _) rfl rfl rfl
    (fun b k hk => hk) (fun b k hk => .inl hk) (fun b k hk => rfl) (fun b k hk => hok.im b k hk) (fun hv => ?_) (fun b hb => .inr ⟨_, hs, by simpa [Ob.blk] using hb⟩)
  obtain ⟨arr, h1, h2, h3, h4, h5⟩ := hok.ob r _ hs
  refine ⟨arr, h1, by omega, hl, fun k x' v hx' hv' => (h k x' v hx' (fun x hx => h4 k x v hx hv')).mono hv, h5⟩
end
end Go.Pev
/- The reckoner is sound (3): objects told anew, numbered anew. -/
namespace Go.Pev
open Go
set_option linter.unusedVariables false
set_option linter.unusedSimpArgs false
section
variable {R : Type} {P : Program} {g : Gh} {m : Mem} {w : World} {t : Env}
theorem q17 : ∀ (kp : List Nat) (r i j : Nat), qlc r kp i = some j → i ≤ j ∧ kp[j - i]? = some r
  | [], r, i, j, h => by simp [qlc] at h
  | x :: xs, r, i, j, h => by
    simp only [qlc] at h
    split at h
    · rename_i hx; simp at h; subst h; subst hx; simp
    · obtain ⟨h1, h2⟩ := q17 xs r (i + 1) j h
      refine ⟨by omega, ?_⟩
      have e : j - i = (j - (i + 1)) + 1 := by omega
      rw [e]; simpa using h2
theorem qhm {kp : List Nat} {r j : Nat} (h : qlc r kp 0 = some j) : kp[j]? = some r := by simpa using (q17 kp r 0 j h).2
def Gh.ren (g : Gh) (kp : List Nat) : Gh := { I := g.I, jb := fun j => g.jb ((kp[j]?).getD 0), ja := fun j => g.ja ((kp[j]?).getD 0) }
structure Rend (kp : List Nat) (m m' : Mem) : Prop where
  n : m'.n = kp.length
  some : ∀ (j : Nat) (ob' : Ob), m'.s j = some ob' → ∃ r ob, kp[j]? = some r ∧ m.s r = some ob ∧ qhk kp (some ob) = some (some ob')
  nd : kp.Nodup
  lt : ∀ r, r ∈ kp → r < m.n
theorem qvl {kp : List Nat} {ob : Ob} {wf : Bool} {e : Nat} {xs : List AV} (h : qhk kp (some ob) = some (some (.arr wf e xs))) : ob = .arr wf e xs := by
  cases ob with
  | box w cs => simp only [qhk] at h; split at h <;> simp at h
  | arr w e xs => simp [qhk] at h; obtain ⟨rfl, rfl, rfl⟩ := h; rfl
  | map es => simp [qhk] at h
theorem qvm {kp : List Nat} {m' : Mem} (hR : Rend kp m m') {x y : AV} (h : qd4 kp x = some y) {v : Value} (hv : VRel g m w x v) : VRel (g.ren kp) m' w y v := by
  have hlt : ∀ r j, qlc r kp 0 = some j → j < m'.n := by
    intro r j hp
    rw [hR.n]; exact (List.getElem?_eq_some_iff.1 (qhm hp)).1
  have keep : ∀ {v : Value}, CRel g.I w x v → x = y → VRel (g.ren kp) m' w y v := fun hc he => .c (by rw [← he]; exact hc)
  cases x with
  | ptr r off =>
    simp only [qd4] at h
    split at h
    · rename_i j hp
      simp at h; subst h
      cases hv with
      | c hc => cases hc
      | ptr _ _ hr =>
        have := VRel.ptr (g := g.ren kp) (m := m') (w := w) j off (hlt _ _ hp)
        simp only [Gh.ren, qhm hp, Option.getD_some] at this
        exact this
    · cases h
  | own r n =>
    simp only [qd4] at h
    split at h
    · rename_i j hp
      simp at h; subst h
      cases hv with
      | c hc => cases hc
      | own _ _ a c hr hh =>
        refine .own j n a c (hlt _ _ hp) (fun wf e xs hs => ?_)
        obtain ⟨r', ob, h1, h2, h3⟩ := hR.some j _ hs
        rw [qhm hp] at h1; cases h1
        have := qvl h3
        subst this
        have h4 := hh wf e xs h2
        simp only [Gh.ren, qhm hp, Option.getD_some]
        exact h4
    · cases h
  | eptr r n i off =>
    simp only [qd4] at h
    split at h
    · rename_i j hp
      simp at h; subst h
      cases hv with
      | c hc => cases hc
      | eptr _ _ _ _ v hr h1 hh =>
        refine .eptr j n i off v (hlt _ _ hp) h1 (fun wf e xs hs => ?_)
        obtain ⟨r', ob, h1, h2, h3⟩ := hR.some j _ hs
        rw [qhm hp] at h1; cases h1
        have := qvl h3
        subst this
        have h4 := hh wf e xs h2
        simp only [Gh.ren, qhm hp, Option.getD_some]
        exact h4
    · cases h
  | map r =>
    simp only [qd4] at h
    split at h
    · rename_i j hp
      simp at h; subst h
      cases hv with
      | c hc => cases hc
      | map _ hr =>
        have := VRel.map (g := g.ren kp) (m := m') (w := w) j (hlt _ _ hp)
        simp only [Gh.ren, qhm hp, Option.getD_some] at this
        exact this
    · cases h
  | func f cs =>
    cases cs with
    | nil =>
      simp [qd4] at h; subst h
      cases hv with
      | c hc => exact .c hc
      | func _ _ vs hp hs hh =>
        obtain rfl : vs = #[] := by simpa using hs
        exact .c (.func f [] #[] (by simp) rfl (by simp))
    | cons x xs => simp [qd4] at h
  | agg cs => simp [qd4] at h
  | tup cs => simp [qd4] at h
  | fr w e xs => simp [qd4] at h
  | _ =>
    simp [qd4] at h; subst h
    cases hv with
    | c hc => exact .c hc
theorem qxm {kp : List Nat} : ∀ (xs ys : List AV), qn5 kp xs = some ys → ys.length = xs.length ∧ ∀ (k : Nat) (x y : AV), xs[k]? = some x → ys[k]? = some y → q29 y = true ∧ qd4 kp x = some y
  | [], ys, h => by simp [qn5] at h; subst h; simp
  | x :: xs, ys, h => by
    cases x with
    | ptr r off =>
      simp only [qn5] at h
      split at h
      · rename_i j ys' h1 h2
        simp at h; subst h
        obtain ⟨h3, h4⟩ := qxm xs ys' h2
        refine ⟨by simp [h3], fun k x y hx hy => ?_⟩
        cases k with
        | zero => simp at hx hy; subst hx; subst hy; exact ⟨rfl, by simp [qd4, h1]⟩
        | succ k => exact h4 k x y (by simpa using hx) (by simpa using hy)
      · cases h
    | _ => simp [qn5] at h
theorem qqj {kp : List Nat} {m' : Mem} (hR : Rend kp m m') {x y : AV} (h : qor kp x = some y) {v : Value} (hv : VRel g m w x v) : VRel (g.ren kp) m' w y v := by
  unfold qor at h
  split at h
  · rename_i f cs
    split at h
    · rename_i ys hy
      simp at h; subst h
      obtain ⟨vs, rfl, hs, hh⟩ := qyh hv
      obtain ⟨h1, h2⟩ := qxm _ _ hy
      refine .func f ys vs (fun y hy => ?_) (by omega) (fun k y v hy hv => ?_)
      · obtain ⟨k, hk⟩ := List.getElem?_of_mem hy
        have hlt := (List.getElem?_eq_some_iff.1 hk).1
        have hx : cs[k]? = some (cs[k]'(by omega)) := by simp <;> omega
        exact (h2 k _ y hx hk).1
      · have hlt := (List.getElem?_eq_some_iff.1 hy).1
        have hx : cs[k]? = some (cs[k]'(by omega)) := by simp <;> omega
        exact qvm hR (h2 k _ y hx hy).2 (hh k _ v hx hv)
    · cases h
  · exact qvm hR h hv
theorem q41 {kp : List Nat} {x y : AV} (h : qd4 kp x = some y) (hl : x.leaf = true) : y.leaf = true := by
  cases x <;> simp only [qd4] at h <;> (try split at h) <;> simp_all <;> (subst h; rfl)
theorem q53 {kp : List Nat} {x y : AV} (h : qor kp x = some y) (hl : x.leaf = true) : y.leaf = true := by
  unfold qor at h
  split at h
  · split at h <;> simp at h
    subst h; rfl
  · exact q41 h hl
theorem qlh {kp : List Nat} : ∀ (xs ys : List AV), qj5 kp xs = some ys → ys.length = xs.length ∧ ∀ (k : Nat) (x y : AV), xs[k]? = some x → ys[k]? = some y → qor kp x = some y
  | [], ys, h => by simp [qj5] at h; subst h; simp
  | x :: xs, ys, h => by
    simp only [qj5] at h
    split at h
    · rename_i y ys' h1 h2
      simp at h; subst h
      obtain ⟨h3, h4⟩ := qlh xs ys' h2
      refine ⟨by simp [h3], fun k x y hx hy => ?_⟩
      cases k with
      | zero => simp at hx hy; subst hx; subst hy; exact h1
      | succ k => exact h4 k x y (by simpa using hx) (by simpa using hy)
    · cases h
theorem qtr {kp : List Nat} {xs ys : List AV} (h : qj5 kp xs = some ys) (hl : ∀ x, x ∈ xs → x.leaf = true) : ∀ y, y ∈ ys → y.leaf = true := by
  intro y hy
  obtain ⟨h1, h2⟩ := qlh _ _ h
  obtain ⟨k, hk⟩ := List.getElem?_of_mem hy
  have hlt := (List.getElem?_eq_some_iff.1 hk).1
  have hx : xs[k]? = some (xs[k]'(by omega)) := by simp <;> omega
  exact q53 (h2 k _ y hx hk) (hl _ (List.mem_of_getElem? hx))
theorem qbaq {kp : List Nat} {m' : Mem} (hR : Rend kp m m') {x y : AV} (h : ren kp x = some y) {v : Value} (hv : VRel g m w x v) : VRel (g.ren kp) m' w y v := by
  unfold ren at h
  split at h
  · rename_i cs
    split at h
    · rename_i ys hy
      simp at h; subst h
      obtain ⟨vs, rfl, hs, hl, hh⟩ := q05 hv
      obtain ⟨h1, h2⟩ := qlh _ _ hy
      refine .agg ys vs (qtr hy hl) (by omega) (fun k y v hy hv => ?_)
      have hlt := (List.getElem?_eq_some_iff.1 hy).1
      have hx : cs[k]? = some (cs[k]'(by omega)) := by simp <;> omega
      exact qqj hR (h2 k _ y hx hy) (hh k _ v hx hv)
    · cases h
  · exact qqj hR h hv
theorem qz5 {kp : List Nat} : ∀ (ks : List Nat) (l : List (Nat × AV)), qvh kp t ks = some l → ∀ i, ql l i = .any ∨ ren kp (t i) = some (ql l i)
  | [], l, h => by simp [qvh] at h; subst h; intro i; exact .inl rfl
  | k :: ks, l, h => by
    simp only [qvh] at h
    split at h
    · rename_i v l' h1 h2
      simp at h; subst h
      intro i
      simp only [ql]
      split
      · rename_i hi; subst hi; exact .inr h1
      · exact qz5 ks l' h2 i
    · cases h
theorem qz6 {kp : List Nat} : ∀ (rs : List Nat) (l : List (Option Ob)), qvi kp m rs = some l → l.length = rs.length ∧ ∀ (j r : Nat) (o : Option Ob), rs[j]? = some r → l[j]? = some o → qhk kp (m.s r) = some o
  | [], l, h => by simp [qvi] at h; subst h; simp
  | r :: rs, l, h => by
    simp only [qvi] at h
    split at h
    · rename_i o l' h1 h2
      simp at h; subst h
      obtain ⟨h3, h4⟩ := qz6 rs l' h2
      refine ⟨by simp [h3], fun j r' o' hr ho => ?_⟩
      cases j with
      | zero => simp at hr ho; subst hr; subst ho; exact h1
      | succ j => exact h4 j r' o' (by simpa using hr) (by simpa using ho)
    · cases h
theorem q18 : ∀ (n : Nat) (l : List Nat) (i : Nat), qwa n l i = true → n ≤ l.length ∧ ∀ j, j < n → l[j]? = some (i + j)
  | 0, l, i, _ => ⟨Nat.zero_le _, fun j hj => by omega⟩
  | n + 1, [], i, h => by simp [qwa] at h
  | n + 1, x :: xs, i, h => by
    simp only [qwa, Bool.and_eq_true] at h
    obtain ⟨h1, h2⟩ := q18 n xs (i + 1) h.2
    have hx := Nat.eq_of_beq_eq_true h.1
    refine ⟨by simp; omega, fun j hj => ?_⟩
    cases j with
    | zero => simp [hx]
    | succ j => simp; rw [h2 j (by omega)]; congr 1; omega
theorem OK.renum (hok : OK g m w) {kp : List Nat} {m' : Mem} (hR : Rend kp m m') {g0 : Gh} {m0 : Mem} {w0 : World} (he : Ext g0 m0 w0 g m w) (hp : qwa m0.n kp 0 = true) :
    OK (g.ren kp) m' w ∧ Ext g0 m0 w0 (g.ren kp) m' w := by
  obtain ⟨hp1, hp2⟩ := q18 _ _ _ hp
  have hblk : ∀ (j r : Nat) (ob ob' : Ob), kp[j]? = some r → qhk kp (some ob) = some (some ob') → ob'.blk (g.ren kp) j = ob.blk g r := by
    intro j r ob ob' hj ho
    cases ob with
    | box w cs =>
      simp only [qhk] at ho
      split at ho <;> simp at ho
      subst ho
      simp [Ob.blk, Gh.ren, hj]
    | arr w e xs => simp [qhk] at ho; subst ho; simp [Ob.blk, Gh.ren, hj]
    | map es => simp [qhk] at ho; subst ho; simp [Ob.blk, Gh.ren, hj]
  refine ⟨⟨fun j ob' hs => ?_, fun j ob' hs => ?_, fun j j' ob ob' b hs hs' hb hb' => ?_, hok.im, hok.tb.obs (fun _ _ hk => hk) fun j ob b hs hb => by
    obtain ⟨r, o, h1, h2, h3⟩ := hR.some j ob hs
    exact .inr ⟨r, o, h2, by rw [← hblk j r o ob h1 h3]; exact hb⟩⟩, ⟨he.im, fun r hr => ?_, fun r hr wf' e' xs' hs => ?_, by rw [hR.n]; omega, he.fr, he.inew, fun j ob' b hs hb => ?_, he.size, he.os, he.tape, he.output⟩⟩
  · obtain ⟨r, ob, h1, _⟩ := hR.some j ob' hs
    rw [hR.n]; exact (List.getElem?_eq_some_iff.1 h1).1
  · obtain ⟨r, ob, h1, h2, h3⟩ := hR.some j ob' hs
    have hob := hok.ob r ob h2
    cases ob with
    | box wf cs =>
      simp only [qhk] at h3
      split at h3
      · rename_i ys hy
        simp at h3; subst h3
        obtain ⟨arr, g1, g2, g3, g4, g5⟩ := hob
        obtain ⟨c1, c2⟩ := qlh _ _ hy
        have ej : (g.ren kp).jb j = g.jb r := by simp [Gh.ren, h1]
        refine ⟨arr, by rw [ej]; exact g1, by omega, qtr hy g3, fun k y v hy' hv => ?_, fun k => by rw [ej]; exact g5 k⟩
        have hlt := (List.getElem?_eq_some_iff.1 hy').1
        have hx : cs[k]? = some (cs[k]'(by omega)) := by simp <;> omega
        exact qqj hR (c2 k _ y hx hy') (g4 k _ v hx hv)
      · simp at h3
    | arr wf e xs =>
      simp [qhk] at h3; subst h3
      have ej : (g.ren kp).ja j = g.ja r := by simp [Gh.ren, h1]
      simp only [qmc, ej] at hob ⊢
      exact hob
    | map es =>
      simp [qhk] at h3; subst h3
      have ej : (g.ren kp).jb j = g.jb r := by simp [Gh.ren, h1]
      simp only [qmc, ej] at hob ⊢
      exact hob
  · obtain ⟨r, o, h1, h2, h3⟩ := hR.some j ob hs
    obtain ⟨r', o', h1', h2', h3'⟩ := hR.some j' ob' hs'
    rw [hblk j r o ob h1 h3] at hb
    rw [hblk j' r' o' ob' h1' h3'] at hb'
    have := hok.ne r r' o o' b h2 h2' hb hb'
    subst this
    exact (List.getElem?_inj (List.getElem?_eq_some_iff.1 h1).1 hR.nd).1 (h1.trans h1'.symm)
  · have := hp2 r hr
    simp only [Gh.ren, this, Option.getD_some, Nat.zero_add]
    exact he.jb r hr
  · obtain ⟨r', ob, h1, h2, h3⟩ := hR.some r _ hs
    have h4 := hp2 r hr
    rw [h1] at h4
    simp only [Nat.zero_add, Option.some.injEq] at h4
    subst h4
    have := qvl h3
    subst this
    obtain ⟨wf, e, xs, g1, g2, g3, g4⟩ := he.ja r' hr _ _ _ h2
    refine ⟨wf, e, xs, g1, g2, g3, fun hx => ?_⟩
    simp only [Gh.ren, h1, Option.getD_some]
    exact g4 hx
  · obtain ⟨r, ob, h1, h2, h3⟩ := hR.some j ob' hs
    rw [hblk j r ob ob' h1 h3] at hb
    exact he.onew r ob b h2 hb
end
end Go.Pev
/- The reckoner is sound (4): marks. -/
namespace Go.Pev
open Go
set_option linter.unusedVariables false
set_option linter.unusedSimpArgs false
section
variable {R : Type} {P : Program} {g : Gh} {m : Mem} {w : World} {t : Env}
theorem ARel.told' {nt : Nat} {a : Act} (hr : ARel g m w nt t a) {k : Nat} {y : AV} (h : VRel g m w y (a.tmps.getD k undef)) : ARel g m w nt (upd t (some k) y) a := by
  refine ⟨fun i => ?_, hr.n, hr.d⟩
  simp only [upd]
  split
  · rename_i hi; subst hi; exact h
  · exact hr.r i
theorem qov (l : List Nat) (x : AV) : qu (m.frz l) x = qu m x := by
  unfold qu
  cases x with
  | own r n =>
    simp only [Mem.frz]
    by_cases hr : r ∈ l
    · rw [if_pos hr]
      cases m.s r with
      | none => rfl
      | some ob => cases ob <;> rfl
    · rw [if_neg hr]
  | _ => rfl
theorem q6u {r : Nat} {w' : World} (hn : r < m.n) (hs : ∀ wf e xs, m.s r = some (.arr wf e xs) → xs = [] ∧ (g.ja r).nil = true) : VRel g m w' (.own r 0) (.slice none 0 0) := by
  refine .own r 0 none 0 hn (fun wf e xs h => ?_)
  obtain ⟨rfl, h2⟩ := hs wf e xs h
  refine ⟨Nat.zero_le _, fun _ => ?_⟩
  simp [Bk.val, h2]
theorem qvn {cs : List AV} {off : Nat} {x y : AV} (h : cs[off]? = some x) : (putCells cs off [y]).length = cs.length ∧ ∀ k, (putCells cs off [y])[k]? = if k = off then some y else cs[k]? := by
  have hlt := (List.getElem?_eq_some_iff.1 h).1
  refine ⟨qsm _ _ _ (by simp; omega), fun k => ?_⟩
  rw [qv6 _ _ _ _ (by simp; omega)]
  by_cases hk : k = off
  · subst hk
    rw [if_pos ⟨Nat.le_refl _, by simp⟩]
    simp
  · rw [if_neg (by simp; omega), if_neg hk]
theorem q80 {z : AV} (h : clsd z = true) (m : Mem) : qu m z = some z ∧ qv z = [] := by
  cases z <;> first | (simp [clsd] at h; done) | skip
  all_goals first | exact ⟨rfl, rfl⟩ | skip
  unfold clsd at h
  exact ⟨by simp [qu]; simpa using h, rfl⟩
theorem qbcn (hok : OK g m w) {r : Nat} {wf : Bool} {cs : List AV} (hs : m.s r = some (.box wf cs)) (hcl : cs.all clsd = true) :
    ∃ g1, OK g1 (m.set r (.box false cs)) w ∧ Ext g m w g1 (m.set r (.box false cs)) w ∧ CRel g1.I w (.cptr cs) (.pointer (some ⟨g.jb r, 0, none⟩)) := by
  have hrn := hok.lt r _ hs
  obtain ⟨arr, hb1, hb2, hb3, hb4, hb5⟩ := hok.ob r _ hs
  have hc1 : ∀ z, z ∈ cs → qu m z = some z ∧ qv z = [] := fun z hz => q80 (List.all_eq_true.1 hcl z hz) m
  have hclosed : ∀ (k : Nat) (z : AV) (u : Value), cs[k]? = some z → arr[k]? = some u → CRel g.I w z u := fun k z u hz hu =>
    (qil (hb4 k z u hz hu) (hc1 z (List.mem_of_getElem? hz)).1 (hc1 z (List.mem_of_getElem? hz)).2).1
  let g1 : Gh := { g with I := fun b k => g.I b k ∨ (b = g.jb r ∧ k < arr.size) }
  obtain ⟨hok1, hext1⟩ := OK.one (g := g) (m := m) (w := w) (g1 := g1) (w1 := w) (m1 := m.set r (.box false cs)) r (.box false cs) hok rfl (Nat.le_refl _) hrn
    (fun _ _ => ⟨rfl, rfl⟩) (fun _ => rfl) (fun _ wf' e' xs' h => by cases h) (fun _ _ _ => rfl) (Nat.le_refl _) rfl rfl rfl (fun _ _ h => .inl h)
    (fun b k hk => by
      rcases hk with hk | ⟨rfl, hk⟩
      · exact .inl hk
      · exact .inr (.inr ⟨_, hs, rfl⟩)) (fun _ _ _ => rfl)
    (fun b k hk => by
      rcases hk with hk | ⟨rfl, hk⟩
      · exact hok.im b k hk
      · exact ⟨arr[k], by rw [qr hb1]; simp [hk]⟩)
    (fun hvx => ⟨arr, hb1, hb2, hb3, fun k x v hx hv => (hb4 k x v hx hv).mono hvx, fun k => ⟨fun hk => by
        rcases hk with hk | ⟨_, hk⟩
        · exact ⟨rfl, ((hb5 k).1 hk).2⟩
        · exact ⟨rfl, hk⟩, fun hk => .inr ⟨rfl, hk.2⟩⟩⟩)
    (fun b hb => .inr ⟨_, hs, by simpa [Ob.blk] using hb⟩)
  refine ⟨g1, hok1, hext1, .cptr cs (g.jb r) 0 (fun q => arr.getD q Go.undef) hb3 (fun k y hy => ?_) (fun k y hy => ?_)⟩
  · have hi : k < arr.size := by rw [hb2]; exact (List.getElem?_eq_some_iff.1 hy).1
    rw [Nat.zero_add]
    exact ⟨.inr ⟨rfl, hi⟩, by rw [qr hb1]; simp [hi]⟩
  · have hi : k < arr.size := by rw [hb2]; exact (List.getElem?_eq_some_iff.1 hy).1
    have : arr.getD k Go.undef = arr[k] := by simp [hi]
    rw [this]
    exact (hclosed k y arr[k] hy (by simp [hi])).mono (fun b k hk => ⟨.inl hk, rfl⟩)
theorem qny {nb nt : Nat} {g0 : Gh} {m0 : Mem} {w0 : World} (hnb : m0.n = nb) {s : Stp} {K : Env → Mem → Option R} {r : R} {a : Act} (h : vstp nb s t m K = some r)
    (hok : OK g m w) (hr : ARel g m w nt t a) (he : Ext g0 m0 w0 g m w) : ∃ g' t' m', OK g' m' w ∧ ARel g' m' w nt t' a ∧ Ext g0 m0 w0 g' m' w ∧ K t' m' = some r := by
  cases s with
  | cls k =>
    simp only [vstp] at h
    split at h
    · rename_i q hk
      split at h
      · rename_i wf cs hs
        obtain ⟨h1, h2⟩ := qg h
        obtain ⟨g1, k1, k2, k3⟩ := qbcn hok hs h1
        refine ⟨g1, _, _, k1, (hr.ext k2).told' ?_, he.trans k2, h2⟩
        have h3 := hr.r k
        rw [hk] at h3
        generalize a.tmps.getD k undef = pv at h3
        cases h3 with
        | c h => cases h
        | ptr _ _ _ => exact .c k3
      · cases h
    · cases h
  | hd k =>
    simp only [vstp] at h
    split at h
    · rename_i q n hk
      split at h
      · rename_i wf e xs hs
        obtain ⟨h1, h2⟩ := qg h
        have hn : xs.length = n := Nat.eq_of_beq_eq_true h1
        have ht : upd t (some k) (.own q xs.length) = t := by
          funext i
          simp only [upd]
          split
          · rename_i hik
            rw [hik, hk, hn]
          · rfl
        rw [ht] at h2
        exact ⟨g, _, m, hok, hr, he, h2⟩
      · cases h
    · exact ⟨g, _, m, hok, hr, he, h⟩
  | eta k v =>
    simp only [vstp] at h
    obtain ⟨h1, h2⟩ := qg h
    exact ⟨g, _, m, hok, hr.told' (q8z h1 (hr.r k)), he, h2⟩
  | etac k ls =>
    simp only [vstp] at h
    split at h
    · rename_i cs hk
      obtain ⟨h1, h2⟩ := qg h
      have h3 := hr.r k
      rw [hk] at h3
      exact ⟨g, _, m, hok, hr.told' (qlg h1 h3), he, h2⟩
    · cases h
  | own k e =>
    simp only [vstp] at h
    split at h
    · rename_i hk
      have h3 := hr.r k
      rw [hk] at h3
      have h4 := qou h3
      obtain ⟨h5, h6⟩ := hok.newNil e
      refine ⟨_, _, _, h5, (hr.ext h6).told' ?_, he.trans h6, h⟩
      rw [h4]
      refine q6u (by simp [Mem.new]) (fun wf e xs hs => ?_)
      simp [Mem.new] at hs
      exact ⟨hs.2.2, by simp [Gh.adda]⟩
    · exact ⟨g, t, m, hok, hr, he, h⟩
    · cases h
  | ownc q off e =>
    simp only [vstp] at h
    split at h
    · rename_i wf cs hs
      split at h
      · rename_i hc
        obtain ⟨h5, h6⟩ := hok.newNil e
        have hq := hok.lt q _ hs
        have hs1 : (m.new (.arr true e [])).s q = some (.box wf cs) := by simp [Mem.new]; rw [if_neg (by omega)]; exact hs
        obtain ⟨p1, p2⟩ := qvn (y := .own m.n 0) hc
        obtain ⟨_, _, _, hl0, _⟩ := hok.ob q _ hs
        obtain ⟨h7, h8⟩ := h5.reb (cs' := putCells cs off [.own m.n 0]) hs1 p1 (fun x hx => by
            obtain ⟨k, hk⟩ := List.getElem?_of_mem hx
            rw [p2] at hk
            split at hk
            · simp at hk; subst hk; rfl
            · exact hl0 x (List.mem_of_getElem? hk)) (fun k x' v hx' hold => by
            rw [p2] at hx'
            split at hx'
            · rename_i hk
              simp at hx'; subst hx'; subst hk
              rw [qou (hold _ hc)]
              refine q6u (by simp [Mem.new]) (fun wf e xs hs => ?_)
              simp [Mem.new] at hs
              exact ⟨hs.2.2, by simp [Gh.adda]⟩
            · exact hold _ hx')
        exact ⟨_, t, _, h7, (hr.ext h6).ext h8, (he.trans h6).trans h8, h⟩
      · exact ⟨g, t, m, hok, hr, he, h⟩
      · cases h
    · cases h
  | nilc q off e =>
    simp only [vstp] at h
    split at h
    · rename_i wf cs hs
      split at h
      · rename_i hc
        obtain ⟨p1, p2⟩ := qvn (y := .sl e []) hc
        obtain ⟨_, _, _, hl0, _⟩ := hok.ob q _ hs
        obtain ⟨h7, h8⟩ := hok.reb (cs' := putCells cs off [.sl e []]) hs p1 (fun x hx => by
            obtain ⟨k, hk⟩ := List.getElem?_of_mem hx
            rw [p2] at hk
            split at hk
            · simp at hk; subst hk; rfl
            · exact hl0 x (List.mem_of_getElem? hk)) (fun k x' v hx' hold => by
            rw [p2] at hx'
            split at hx'
            · rename_i hk
              simp at hx'; subst hx'; subst hk
              rw [qou (hold _ hc)]
              exact .c (qs6 _ _ _)
            · exact hold _ hx')
        exact ⟨_, t, _, h7, hr.ext h8, he.trans h8, h⟩
      · exact ⟨g, t, m, hok, hr, he, h⟩
      · cases h
    · cases h
  | snap k =>
    simp only [vstp] at h
    obtain ⟨y, h1, h2⟩ := qz1 h
    rw [qkk] at h2
    have h3 := (qeu hok (hr.r k) h1 (l := ids (t k)) (fun _ h => h)).1
    have h4 := Ext.frz hok (ids (t k))
    exact ⟨_, _, _, (hok.frz (ids (t k))).1, (hr.ext h4).told' (.c h3), he.trans h4, h2⟩
  | snapb q =>
    simp only [vstp] at h
    split at h
    · rename_i wf cs hs
      obtain ⟨ys, h1, h2⟩ := qle _ _ _ h
      rw [qkk] at h2
      have h4 := Ext.frz hok (cs.flatMap qv)
      have h5 := (hok.frz (cs.flatMap qv)).1
      obtain ⟨c1, c2⟩ := qht _ _ h1
      have hs1 : (m.frz (cs.flatMap qv)).s q = some (.box wf cs) := by
        simp only [Mem.frz]; split
        · rw [hs]; rfl
        · exact hs
      have key : ∀ (k : Nat) (x' : AV), ys[k]? = some x' → ∃ x, cs[k]? = some x ∧ qu m x = some x' := by
        intro k x' hx'
        have hlt := (List.getElem?_eq_some_iff.1 hx').1
        have hx : cs[k]? = some (cs[k]'(by omega)) := by simp <;> omega
        exact ⟨_, hx, c2 k _ x' hx hx'⟩
      have hsn : ∀ x : AV, ∀ y : AV, qu m x = some y → x.leaf = true → snap m x = some y := by
        intro x y h hl
        unfold snap
        split
        · simp [AV.leaf] at hl
        · exact h
      obtain ⟨_, _, _, hl0, _⟩ := hok.ob q _ hs
      obtain ⟨h7, h8⟩ := h5.reb (cs' := ys) hs1 c1 (fun x' hx' => by
          obtain ⟨k, hk⟩ := List.getElem?_of_mem hx'
          obtain ⟨x, h9, h10⟩ := key k x' hk
          have hl := hl0 x (List.mem_of_getElem? h9)
          cases x <;> simp [qu, AV.leaf] at h10 hl <;> first | (subst h10; rfl) | (split at h10 <;> simp at h10; obtain ⟨_, rfl⟩ := h10; rfl) | (obtain ⟨_, rfl⟩ := h10; rfl)) (fun k x' v hx' hold => by
          obtain ⟨x, h9, h10⟩ := key k x' hx'
          have hl := hl0 x (List.mem_of_getElem? h9)
          have h11 : snap (m.frz (cs.flatMap qv)) x = some x' := by
            unfold snap
            split
            · simp [AV.leaf] at hl
            · rw [qov]; exact h10
          have h12 := (qeu h5 (hold x h9) h11 (l := ids x) (fun _ h => h)).1
          have h13 : ((g.shut m (cs.flatMap qv)).shut (m.frz (cs.flatMap qv)) (ids x)).I = (g.shut m (cs.flatMap qv)).I :=
            qv7 h5 (qsv m (cs.flatMap qv) (fun r hr => by
              simp only [List.mem_flatMap]
              refine ⟨x, List.mem_of_getElem? h9, ?_⟩
              cases x <;> first | exact hr | (simp [AV.leaf] at hl)))
          rw [h13] at h12
          exact .c h12)
      exact ⟨_, t, _, h7, (hr.ext h4).ext h8, (he.trans h4).trans h8, h2⟩
    · cases h
  | frz l =>
    simp only [vstp] at h
    have h4 := Ext.frz hok l
    exact ⟨_, _, _, (hok.frz l).1, hr.ext h4, he.trans h4, h⟩
  | sel kt keep =>
    simp only [vstp] at h
    split at h
    · rename_i hc
      simp only [Bool.and_eq_true] at hc
      obtain ⟨⟨c1, c2⟩, c3⟩ := hc
      split at h
      · rename_i l os h1 h2
        obtain ⟨o1, o2⟩ := qz6 _ _ h2
        have hR : Rend keep m (qf os) := by
          refine ⟨o1, fun j ob' hs => ?_, qp2 _ c1, fun r hr => ?_⟩
          · have hs' : (os[j]?).getD none = some ob' := hs
            cases hj : os[j]? with
            | none => rw [hj] at hs'; simp at hs'
            | some o =>
              rw [hj] at hs'
              simp only [Option.getD_some] at hs'
              subst hs'
              have hlt := (List.getElem?_eq_some_iff.1 hj).1
              have hr : keep[j]? = some (keep[j]'(by omega)) := by simp <;> omega
              have h3 := o2 j _ _ hr hj
              refine ⟨keep[j]'(by omega), ?_⟩
              cases hm : m.s (keep[j]'(by omega)) with
              | none => rw [hm] at h3; simp [qhk] at h3
              | some ob => rw [hm] at h3; exact ⟨ob, hr, rfl, h3⟩
          · have := List.all_eq_true.1 c3 r hr
            exact Nat.lt_of_succ_le (Nat.le_of_ble_eq_true this)
        subst hnb
        obtain ⟨h3, h4⟩ := hok.renum hR he c2
        refine ⟨_, _, _, h3, ⟨fun i => ?_, hr.n, hr.d⟩, h4, h⟩
        rcases qz5 _ _ h1 i with h5 | h5
        · rw [h5]; exact .c (.any _)
        · exact qbaq hR h5 (hr.r i)
      · cases h
    · cases h
theorem qxn {nb nt : Nat} {g0 : Gh} {m0 : Mem} {w0 : World} (hnb : m0.n = nb) {r : R} {a : Act} : ∀ (l : List Stp) (t : Env) (m : Mem) (g : Gh) (K : Env → Mem → Option R), q3g nb l t m K = some r →
    OK g m w → ARel g m w nt t a → Ext g0 m0 w0 g m w → ∃ g' t' m', OK g' m' w ∧ ARel g' m' w nt t' a ∧ Ext g0 m0 w0 g' m' w ∧ K t' m' = some r
  | [], t, m, g, K, h, hok, hr, he => ⟨g, t, m, hok, hr, he, h⟩
  | s :: l, t, m, g, K, h, hok, hr, he => by
    simp only [q3g] at h
    obtain ⟨g1, t1, m1, h1, h2, h3, h4⟩ := qny hnb h hok hr he
    exact qxn hnb l t1 m1 g1 K h4 h1 h2 h3
end
end Go.Pev
/- The reckoner is sound (5): calls, regions. -/
namespace Go.Pev
open Go
set_option linter.unusedVariables false
set_option linter.unusedSimpArgs false
section
variable {R : Type} {P : Program} {T : Tab} {nt : Nat}
def qhn (P : Program) (f : FuncId) (e : List AV → (AV → Option R) → Option R) : Prop :=
  ∀ as_ K r, e as_ K = some r → ∃ z, qmr P f as_ (· = z) ∧ K z = some r
def qli (P : Program) (f : FuncId) (e : List AV → (AV → Option R) → Option R) : Prop :=
  ∀ as_ K r, e as_ K = some r → ∃ z, qq8 P f as_ (· = z) ∧ K z = some r
theorem qli.ok {P : Program} {f : FuncId} {e : List AV → (AV → Option R) → Option R} (h : qli P f e) : qhn P f e := fun as_ K r hr => by
  obtain ⟨z, h1, h2⟩ := h as_ K r hr
  exact ⟨z, .inl h1, h2⟩
theorem qjj {P : Program} {f : FuncId} {as_ : List AV} {Q Q' : AV → Prop} (h : qmr P f as_ Q) (hq : ∀ z, Q z → Q' z) : qmr P f as_ Q' := by
  rcases h with ⟨hE, h⟩ | h
  · exact .inl ⟨hE, fun g w args hok hs hr => (h g w args hok hs hr).mono fun e w' ⟨v, y, g2, m2, he, ⟨z, hz, hzz⟩, rest⟩ => ⟨v, y, g2, m2, he, ⟨z, hz, hq z hzz⟩, rest⟩⟩
  · exact .inr fun g w args hok hs hr => by
      obtain ⟨v, y, h1, ⟨z, hz, hzz⟩, h2⟩ := h g w args hok hs hr
      exact ⟨v, y, h1, ⟨z, hz, hq z hzz⟩, h2⟩
def qju (P : Program) (f : FuncId) (e : List AV → Mem → (AV → Mem → Option R) → Option R) : Prop :=
  ∀ vs m K r, e vs m K = some r → q7a P f vs m fun y m' => K y m' = some r
variable {g : Gh} {m : Mem} {w : World} {t : Env}
theorem qxo {so : SOp} {f : FuncId} {vs : List AV} {K : AV → Mem → Prop} (h : qzu t so = some (f, vs)) (hw : qq9 P f vs m K) : WpOp P t m K so := by
  unfold qzu at h
  split at h
  · simp at h; obtain ⟨rfl, rfl⟩ := h; exact hw
  · split at h
    · rename_i hx
      simp at h; obtain ⟨rfl, rfl⟩ := h
      simp only [WpOp, hx]; exact hw
    · cases h
  · cases h
theorem q54 {so : SOp} {f : FuncId} {e : List AV → (AV → Option R) → Option R} (he : qhn P f e) {K : AV → Mem → Option R} {r : R} (h : q7m t m so f e K = some r) : WpOp P t m (fun v m' => K v m' = some r) so := by
  unfold q7m at h
  split at h
  · rename_i f' vs hc
    split at h
    · rename_i hf
      have hf' := Nat.eq_of_beq_eq_true hf
      subst hf'
      obtain ⟨as_, h1, h2⟩ := qdt _ _ _ h
      obtain ⟨z, h3, h4⟩ := he _ _ _ h2
      refine qxo hc (.inl ⟨as_, (· = z), h1, h3, fun y hy => ?_⟩)
      subst hy
      split at h4
      · rename_i hfl
        rw [if_pos hfl, q4a hfl]; exact h4
      · rename_i hfl
        rw [if_neg (by simp [hfl]), ← qkk]; exact h4
    · cases h
  · cases h
theorem q42 {so : SOp} {f : FuncId} {e : List AV → Mem → (AV → Mem → Option R) → Option R} (he : qju P f e) {K : AV → Mem → Option R} {r : R} (h : q4w t m so f e K = some r) : WpOp P t m (fun v m' => K v m' = some r) so := by
  unfold q4w at h
  split at h
  · rename_i f' vs hc
    split at h
    · rename_i hf hv
      have hf' := Nat.eq_of_beq_eq_true hf
      subst hf'
      exact qxo hc (.inr ⟨hv, _, he _ _ _ _ h, fun y m' hq => hq⟩)
    · cases h
  · cases h
theorem qbe3 (t : Env) (i : Nat) : ev t (.t i) = t i := rfl
theorem qdd {x : Nat} {v : AV} (h : t x = v) : upd t (some x) v = t := by
  funext i
  simp only [upd]
  split
  · rename_i hi; subst hi; exact h.symm
  · rfl
theorem qts (l : List Nat) : ∀ xs : List AV, qck (m.frz l) xs = qck m xs
  | [] => rfl
  | x :: xs => by simp only [qck, qov, qts l xs]
theorem qbar (l : List Nat) (x : AV) : snap (m.frz l) x = snap m x := by
  unfold snap; split
  · rw [qts]
  · exact qov l x
theorem q19 (l : List Nat) : ∀ xs : List AV, qcd (m.frz l) xs = qcd m xs
  | [] => rfl
  | x :: xs => by simp only [qcd, qbar, q19 l xs]
theorem q55 (hT : T.ok P) (hok : OK g m w) {a : Act} (hr : ARel g m w nt t a) {o : Oper} {so : SOp} (hc : cOpT T o.op = some so) {f : FuncId} {e : List AV → (AV → Option R) → Option R} (he : qhn P f e) {K : AV → Mem → Option R} {r : R}
    (h : q4v t m so f e K = some r) {next : Act → World → Prop} {Q : Exit → Act → World → Prop}
    (hK : ∀ v cv m' g' w', K v m' = some r → VRel g' m' w' v cv → OK g' m' w' → Ext g m w g' m' w' → next (a.put o.dst cv) w') : o.wp P a w next Q := by
  unfold q4v at h
  split at h
  · rename_i f' xs
    split at h
    · rename_i hf
      have hf' := Nat.eq_of_beq_eq_true hf
      subst hf'
      obtain ⟨as_, h1, h2⟩ := qdt _ _ _ h
      obtain ⟨z, h3, h4⟩ := he _ _ _ h2
      rw [qkk] at h4
      have hx := Ext.frz hok (idss (evs t xs))
      have hq : qbq P (idss (evs t xs)) t (m.frz (idss (evs t xs))) (fun v => K v (m.frz (idss (evs t xs))) = some r) (.call f xs) := by
        exact ⟨as_, clo z, by rw [q19]; exact h1, qjj h3 (fun z' hz' => by rw [hz']), .inr (by simp), h4⟩
      refine qnu hT (m0 := m) rfl (hok.frz _).1 (hr.ext hx).r hc hq (fun v cv g' w' hKv hv hok' hext => ?_)
      exact hK v cv _ g' w' hKv hv hok' (hx.trans hext)
    · cases h
  · cases h
def ApOk (P : Program) (ap : AV → List AV → Option Bool) : Prop :=
  ∀ (q : AV) (as_ : List AV) (b : Bool), ap q as_ = some b → ∃ f caps, q = .func f caps ∧ caps.all qhs = true ∧ qmr P f (as_ ++ caps) (· = .bool b)
theorem qvo : ∀ (xs ys as_ bs : List AV), qcd m xs = some as_ → qcd m ys = some bs → qcd m (xs ++ ys) = some (as_ ++ bs)
  | [], ys, as_, bs, h1, h2 => by simp [qcd] at h1; subst h1; exact h2
  | x :: xs, ys, as_, bs, h1, h2 => by
    simp only [qcd] at h1
    split at h1
    · rename_i y ys' e1 e2
      simp at h1; subst h1
      simp only [List.cons_append, qcd, e1, qvo xs ys ys' bs e2 h2]
    · cases h1
theorem qs9 : ∀ (ys : List AV), ys.all qhs = true → qcd m ys = some ys
  | [], _ => rfl
  | y :: ys, h => by
    simp only [List.all_cons, Bool.and_eq_true] at h
    cases y <;> first | (cases h.1; done) | skip
    simp only [qcd, snap, qu, qs9 ys h.2]
theorem q2a {F : List Nat} {so : SOp} {ap : AV → List AV → Option Bool} (ha : ApOk P ap) {K : AV → Option R} {r : R} (h : qmu t m so ap K = some r) : qbq P F t m (fun v => K v = some r) so := by
  unfold qmu at h
  split at h
  · split at h
    · rename_i q hev
      obtain ⟨as_, h1, h2⟩ := qdt _ _ _ h
      obtain ⟨b, h3, h4⟩ := qb5 h2
      obtain ⟨f, caps, rfl, h5, h6⟩ := ha _ _ _ h3
      exact ⟨f, caps, .inr hev, as_ ++ caps, .bool b, qvo _ _ _ _ h1 (qs9 _ h5), qjj h6 (fun z hz => by rw [hz]; rfl), .inl rfl, h4⟩
    · cases h
  · cases h
theorem q81 {so : SOp} {ap : AV → List AV → Option Bool} (ha : ApOk P ap) {K : AV → Option R} {r : R} (h : qmu t m so ap K = some r) : WpOp P t m (fun v m' => m' = m ∧ K v = some r) so := by
  unfold qmu at h
  split at h
  · split at h
    · rename_i q hev
      obtain ⟨as_, h1, h2⟩ := qdt _ _ _ h
      obtain ⟨b, h3, h4⟩ := qb5 h2
      obtain ⟨f, caps, rfl, h5, h6⟩ := ha _ _ _ h3
      simp only [WpOp, hev]
      refine .inl ⟨as_ ++ caps, (· = .bool b), qvo _ _ _ _ h1 (qs9 _ h5), h6, fun y hy => ?_⟩
      subst hy
      exact ⟨rfl, h4⟩
    · cases h
  · cases h
def AOp.ok (P : Program) : List (AOp R) → Prop
  | [] => True
  | .call _ f e :: l => qhn P f e ∧ AOp.ok P l
  | .callc _ f e :: l => qhn P f e ∧ AOp.ok P l
  | .callr _ f e :: l => qju P f e ∧ AOp.ok P l
  | .callq _ ap :: l => ApOk P ap ∧ AOp.ok P l
  | .op _ :: l => AOp.ok P l
  | .st _ :: l => AOp.ok P l
  | .stg _ _ _ :: l => AOp.ok P l
  | .et _ _ :: l => AOp.ok P l
  | .grp _ _ _ _ _ :: l => AOp.ok P l
theorem qbas {ops : Array Oper} {o : Oper} {s : SOper} (hs : qbc T nt ops o = some s) {a : Act} (hr : ERel g m w t a) {go : Env → Option R} {K : Env → Mem → Option R} {r : R} (h : gd t s.g s.dst m go K = some r) {C : Prop}
    (run : Region.wanted o (yielded ops a.tmps) = true → go t = some r → C) (skip : Region.wanted o (yielded ops a.tmps) = false → K (upd t s.dst .undef) m = some r → C) : C := by
  obtain ⟨hdst, hop, hdn, hg⟩ := qq hs
  rcases hg with ⟨hg1, hg2⟩ | ⟨j, b, oj, d, hg1, hj, hd, hg2⟩
  · rw [hg2] at h
    exact run (by simp [Region.wanted, hg1]) h
  · rw [hg2] at h
    obtain ⟨hw1, hw2⟩ := qkg (o := o) hr hg1 hj hd
    cases b with
    | true =>
      simp only [gd] at h
      split at h
      · rename_i q hq
        cases q with
        | true => rw [qdd hq] at h; exact run (by rw [hw1 _ hq]; rfl) h
        | false => rw [qdd hq] at h; exact skip (by rw [hw1 _ hq]; rfl) h
      · rename_i hq
        exact skip (hw2 hq) h
      · cases h
    | false =>
      simp only [gd] at h
      split at h
      · rename_i q hq
        cases q with
        | true => rw [qdd hq] at h; exact skip (by rw [hw1 _ hq]; rfl) h
        | false => rw [qdd hq] at h; exact run (by rw [hw1 _ hq]; rfl) h
      · rename_i hq
        exact skip (hw2 hq) h
      · cases h
theorem qxp (hT : T.ok P) {ops : Array Oper} {Q : Exit → Act → World → Prop} {x : Nat} {want : Bool} {rest : List SOper} {t' : Env} {g0 : Gh} {m0 : Mem} {w0 : World} :
    ∀ (sl : List SOper) (l : List Oper) (t : Env) (g : Gh) (a : Act) (w : World), l.mapM (qbc T nt ops) = some (sl ++ rest) → OK g m w → ARel g m w nt t a → Ext g0 m0 w0 g m w → t x = .bool want → qhv x want m sl t = some t' →
      (∀ l2 g' a' w', l2.mapM (qbc T nt ops) = some rest → OK g' m w' → ARel g' m w' nt t' a' → Ext g0 m0 w0 g' m w' → t' x = .bool want → wpList P ops Q l2 a' w') → wpList P ops Q l a w
  | [], l, t, g, a, w, hl, hok, hr, he, hx, hv, hK => by
    simp only [qhv, Option.some.injEq] at hv; subst hv
    exact hK l g a w hl hok hr he hx
  | s :: sl, l, t, g, a, w, hl, hok, hr, he, hx, hv, hK => by
    simp only [qhv] at hv
    split at hv
    · rename_i hc
      simp only [Bool.and_eq_true] at hc
      obtain ⟨⟨⟨c1, c2⟩, c3⟩, c4⟩ := hc
      split at hv
      · rename_i v hpv
        cases l with
        | nil => simp at hl
        | cons o l' =>
          simp only [List.cons_append, List.mapM_cons, Option.bind_eq_bind, Option.pure_def, Option.bind_eq_some_iff, Option.some.injEq] at hl
          obtain ⟨s', hs', sl', hl', hcs⟩ := hl
          cases hcs
          obtain ⟨hdst, hop, hdn, hg⟩ := qq hs'
          have hw : Region.wanted o (yielded ops a.tmps) = true := by
            rcases hg with ⟨hg1, hg2⟩ | ⟨j, b, oj, d, hg1, hj, hd, hg2⟩
            · rw [hg2] at c1; simp [qrh] at c1
            · obtain ⟨hw1, hw2⟩ := qkg (o := o) hr.r hg1 hj hd
              rw [hg2] at c1
              simp only [qrh, Bool.and_eq_true] at c1
              have e1 := Nat.eq_of_beq_eq_true c1.1
              subst e1
              rw [hw1 want hx]
              exact c1.2
          unfold wpList
          rw [if_pos hw]
          refine .inl (qj4 hT hok hr.r hop (K := fun v' m' => v = v' ∧ m = m') (qbd c3 (fun f xs e => by rw [e] at c4; simp [q6t] at c4) hpv ⟨rfl, rfl⟩) fun v' cv m' g' w' hK' hv' hok' hext => ?_)
          obtain ⟨rfl, rfl⟩ := hK'
          refine qxp hT sl l' _ g' _ w' hl' hok' ((hr.ext hext).put hdn hv') (he.trans hext) ?_ (by rw [← hdst]; exact hv) hK
          rw [← hdst]
          cases hd : s.dst with
          | none => exact hx
          | some d =>
            rw [hd] at c2
            simp only [upd]
            rw [if_neg (fun h => by subst h; simp [q03] at c2)]
            exact hx
      · cases hv
    · cases hv
def qow : List SOper → Env → Env
  | [], t => t
  | s :: r, t => qow r (upd t s.dst .undef)
theorem qxq (hT : T.ok P) {ops : Array Oper} {Q : Exit → Act → World → Prop} {x : Nat} {want : Bool} {rest : List SOper} {te : Env} :
    ∀ (sl : List SOper) (l : List Oper) (t tv : Env) (a : Act), l.mapM (qbc T nt ops) = some (sl ++ rest) → ARel g m w nt t a → t x = .bool (!want) → qhv x want m sl tv = some te →
      (∀ l2 a', l2.mapM (qbc T nt ops) = some rest → ARel g m w nt (qow sl t) a' → qow sl t x = .bool (!want) → wpList P ops Q l2 a' w) → wpList P ops Q l a w
  | [], l, t, tv, a, hl, hr, hx, hv, hK => hK l a hl hr hx
  | s :: sl, l, t, tv, a, hl, hr, hx, hv, hK => by
    simp only [qhv] at hv
    split at hv
    · rename_i hc
      simp only [Bool.and_eq_true] at hc
      obtain ⟨⟨⟨c1, c2⟩, c3⟩, c4⟩ := hc
      split at hv
      · rename_i v hpv
        cases l with
        | nil => simp at hl
        | cons o l' =>
          simp only [List.cons_append, List.mapM_cons, Option.bind_eq_bind, Option.pure_def, Option.bind_eq_some_iff, Option.some.injEq] at hl
          obtain ⟨s', hs', sl', hl', hcs⟩ := hl
          cases hcs
          obtain ⟨hdst, hop, hdn, hg⟩ := qq hs'
          have hw : Region.wanted o (yielded ops a.tmps) = false := by
            rcases hg with ⟨hg1, hg2⟩ | ⟨j, b, oj, d, hg1, hj, hd, hg2⟩
            · rw [hg2] at c1; simp [qrh] at c1
            · obtain ⟨hw1, hw2⟩ := qkg (o := o) hr.r hg1 hj hd
              rw [hg2] at c1
              simp only [qrh, Bool.and_eq_true] at c1
              have e1 := Nat.eq_of_beq_eq_true c1.1
              subst e1
              rw [hw1 _ hx]
              have := c1.2
              cases want <;> cases b <;> simp_all
          unfold wpList
          rw [if_neg (by simp [hw])]
          have hput : ARel g m w nt (upd t s.dst .undef) (a.put o.dst undef) := by rw [hdst]; exact hr.put hdn (.c .undef)
          refine qxq hT sl l' (upd t s.dst .undef) (upd tv s.dst v) _ hl' hput ?_ hv hK
          cases hd : s.dst with
          | none => exact hx
          | some d =>
            rw [hd] at c2
            simp only [upd]
            rw [if_neg (fun h => by subst h; simp [q03] at c2)]
            exact hx
      · cases hv
    · cases hv
theorem q2b : ∀ (sl : List SOper) (t : Env) (i : Nat), qri sl t i = .any ∨ (qri sl t i = t i ∧ ∀ s, s ∈ sl → s.dst ≠ some i)
  | [], t, i => .inr ⟨rfl, by simp⟩
  | s :: sl, t, i => by
    rcases q2b sl (upd t s.dst .any) i with h | ⟨h1, h2⟩
    · exact .inl h
    · simp only [qri]
      rw [h1]
      cases hd : s.dst with
      | none => exact .inr ⟨rfl, fun s' hs' => by
          rcases List.mem_cons.1 hs' with rfl | h
          · simp [hd]
          · exact h2 s' h⟩
      | some d =>
        simp only [upd]
        by_cases hi : i = d
        · rw [if_pos hi]; exact .inl rfl
        · rw [if_neg hi]
          exact .inr ⟨rfl, fun s' hs' => by
            rcases List.mem_cons.1 hs' with rfl | h
            · rw [hd]; intro he; simp at he; exact hi he.symm
            · exact h2 s' h⟩
theorem qz7 {x : Nat} {want : Bool} : ∀ (sl : List SOper) (t t' : Env), qhv x want m sl t = some t' → ∀ i, (∀ s, s ∈ sl → s.dst ≠ some i) → t' i = t i
  | [], t, t', h, i, _ => by simp only [qhv, Option.some.injEq] at h; subst h; rfl
  | s :: sl, t, t', h, i, hi => by
    simp only [qhv] at h
    split at h
    · split at h
      · rw [qz7 sl _ t' h i (fun s' hs' => hi s' (List.mem_cons_of_mem _ hs'))]
        have := hi s (List.mem_cons_self ..)
        cases hd : s.dst with
        | none => rfl
        | some d =>
          simp only [upd]
          rw [if_neg (fun he => this (by rw [hd, he]))]
      · cases h
    · cases h
theorem qxr : ∀ (sl : List SOper) (t : Env) (i : Nat), (∀ s, s ∈ sl → s.dst ≠ some i) → qow sl t i = t i
  | [], t, i, _ => rfl
  | s :: sl, t, i, hi => by
    simp only [qow]
    rw [qxr sl _ i (fun s' hs' => hi s' (List.mem_cons_of_mem _ hs'))]
    have := hi s (List.mem_cons_self ..)
    cases hd : s.dst with
    | none => rfl
    | some d =>
      simp only [upd]
      rw [if_neg (fun he => this (by rw [hd, he]))]
theorem ARel.less {t t' : Env} {a : Act} (hr : ARel g m w nt t a) (h : ∀ i, t' i = .any ∨ t' i = t i) : ARel g m w nt t' a :=
  ⟨fun i => by
    rcases h i with h | h
    · rw [h]; exact .c (.any _)
    · rw [h]; exact hr.r i, hr.n, hr.d⟩
theorem qi3 (hT : T.ok P) {nb : Nat} {ops : Array Oper} {Q : Exit → Act → World → Prop} {K : Env → Mem → Option R} {r : R} {g0 : Gh} {m0 : Mem} {w0 : World} (hnb : m0.n = nb)
    (hQ : ∀ t' m' g' a' w', OK g' m' w' → ARel g' m' w' nt t' a' → Ext g0 m0 w0 g' m' w' → K t' m' = some r → Q .normal a' w') :
    ∀ (al : List (AOp R)), AOp.ok P al → ∀ (l : List Oper), l.mapM (qbc T nt ops) = some (AOp.er al) → ∀ (t : Env) (m : Mem) (g : Gh) (a : Act) (w : World), OK g m w → ARel g m w nt t a → Ext g0 m0 w0 g m w → dOps nb al t m K = some r → wpList P ops Q l a w := by
  intro al
  induction al with
  | nil =>
    intro _ l hl t m g a w hok hr he h
    cases l with
    | nil => exact hQ t m g a w hok hr he h
    | cons o l =>
      simp only [AOp.er, List.mapM_cons, Option.bind_eq_bind, Option.pure_def, Option.bind_eq_some_iff, Option.some.injEq] at hl
      obtain ⟨s, _, sl, _, hx⟩ := hl
      cases hx
  | cons x al ih =>
    intro hk l hl t m g a w hok hr he h
    have step : ∀ (s : SOper), AOp.er (x :: al) = s :: AOp.er al → AOp.ok P al →
        (∀ (o : Oper) (go : Env → Option R), qbc T nt ops o = some s → gd t s.g s.dst m go (fun t' m' => dOps nb al t' m' K) = some r →
          (∀ (next : Act → World → Prop), (∀ v cv m' g' w', dOps nb al (upd t s.dst v) m' K = some r → VRel g' m' w' v cv → OK g' m' w' → Ext g m w g' m' w' → next (a.put o.dst cv) w') → go t = some r → o.wp P a w next Q) →
          ∀ l', l = o :: l' → wpList P ops Q l a w) := by
      intro s hs hk2 o go ho hgd hrun l' hl'
      subst hl'
      obtain ⟨hdst, hop, hdn, hg⟩ := qq ho
      have hl2 : l'.mapM (qbc T nt ops) = some (AOp.er al) := by
        rw [hs] at hl
        simp only [List.mapM_cons, Option.bind_eq_bind, Option.pure_def, Option.bind_eq_some_iff, Option.some.injEq] at hl
        obtain ⟨s', _, sl, hsl, hx⟩ := hl
        cases hx
        exact hsl
      refine qbas ho hr.r hgd (fun hw hgo => ?_) (fun hw hK => ?_)
      · unfold wpList
        rw [if_pos hw]
        refine .inl (hrun _ (fun v cv m' g' w' hKv hv hok' hext => ?_) hgo)
        rw [hdst] at hKv
        exact ih hk2 l' hl2 _ m' g' _ w' hok' ((hr.ext hext).put hdn hv) (he.trans hext) hKv
      · unfold wpList
        rw [if_neg (by simp [hw])]
        rw [hdst] at hK
        exact ih hk2 l' hl2 _ m g _ w hok (hr.put hdn (.c .undef)) he hK
    have split : ∀ (s : SOper), AOp.er (x :: al) = s :: AOp.er al → ∃ o l', l = o :: l' ∧ qbc T nt ops o = some s := by
      intro s hs
      rw [hs] at hl
      cases l with
      | nil => simp at hl
      | cons o l' =>
        simp only [List.mapM_cons, Option.bind_eq_bind, Option.pure_def, Option.bind_eq_some_iff, Option.some.injEq] at hl
        obtain ⟨s', hs', sl, hsl, hx⟩ := hl
        cases hx
        exact ⟨o, l', rfl, hs'⟩
    cases x with
    | op s =>
      obtain ⟨o, l', hl', ho⟩ := split s rfl
      obtain ⟨hdst, hop, hdn, hg⟩ := qq ho
      exact step s rfl hk o _ ho h (fun next hn hgo => qj4 hT hok hr.r hop (q15 hgo) hn) l' hl'
    | call s f e =>
      obtain ⟨o, l', hl', ho⟩ := split s rfl
      obtain ⟨hdst, hop, hdn, hg⟩ := qq ho
      exact step s rfl hk.2 o _ ho h (fun next hn hgo => qj4 hT hok hr.r hop (q54 hk.1 hgo) hn) l' hl'
    | callc s f e =>
      obtain ⟨o, l', hl', ho⟩ := split s rfl
      obtain ⟨hdst, hop, hdn, hg⟩ := qq ho
      exact step s rfl hk.2 o _ ho h (fun next hn hgo => q55 hT hok hr hop hk.1 hgo hn) l' hl'
    | callr s f e =>
      obtain ⟨o, l', hl', ho⟩ := split s rfl
      obtain ⟨hdst, hop, hdn, hg⟩ := qq ho
      exact step s rfl hk.2 o _ ho h (fun next hn hgo => qj4 hT hok hr.r hop (q42 hk.1 hgo) hn) l' hl'
    | callq s ap =>
      obtain ⟨o, l', hl', ho⟩ := split s rfl
      obtain ⟨hdst, hop, hdn, hg⟩ := qq ho
      exact step s rfl hk.2 o _ ho h (fun next hn hgo => qj4 hT hok hr.r hop (q81 hk.1 hgo) (fun v cv m' g' w' ⟨hm, hKv⟩ => by rw [← hm] at hKv; exact hn v cv m' g' w' hKv)) l' hl'
    | st v =>
      simp only [dOps] at h
      obtain ⟨g1, t1, m1, h1, h2, h3, h4⟩ := qny hnb h hok hr he
      exact ih hk l hl t1 m1 g1 a w h1 h2 h3 h4
    | stg x want v =>
      simp only [dOps] at h
      split at h
      · split at h
        · obtain ⟨g1, t1, m1, h1, h2, h3, h4⟩ := qny hnb h hok hr he
          exact ih hk l hl t1 m1 g1 a w h1 h2 h3 h4
        · obtain ⟨g1, t1, m1, h1, h2, h3, h4⟩ := qny hnb h hok hr he
          exact ih hk l hl t1 m1 g1 a w h1 h2 h3 h4
        · exact ih hk l hl t m g a w hok hr he h
        · exact ih hk l hl t m g a w hok hr he h
      · exact ih hk l hl t m g a w hok hr he h
      · cases h
    | et k ls =>
      simp only [dOps] at h
      split at h
      · rename_i cs hc
        obtain ⟨h1, h2⟩ := qg h
        have h3 := hr.r k
        rw [hc] at h3
        exact ih hk l hl _ m g a w hok (hr.told' (qlg h1 h3)) he h2
      · rename_i cs hc
        obtain ⟨h1, h2⟩ := qg h
        have h3 := hr.r k
        rw [hc] at h3
        exact ih hk l hl _ m g a w hok (hr.told' (qqi h1 h3)) he h2
      · exact ih hk l hl _ m g a w hok hr he h
      · cases h
    | grp x want sl d y =>
      simp only [dOps] at h
      split at h
      case h_2 => cases h
      rename_i q hq
      split at h
      case h_2 => cases h
      rename_i te hte
      split at h
      case h_2 => cases h
      rename_i b hb
      have h' : dOps nb al (upd (qri sl t) (some d) (.bool (qrg want q b))) m K = some r := h
      have hl' : l.mapM (qbc T nt ops) = some (sl ++ (⟨some d, (qrf x want y), none⟩ :: AOp.er al)) := hl
      have fin : ∀ (tx : Env) (l2 : List Oper) (g' : Gh) (a' : Act) (w' : World), l2.mapM (qbc T nt ops) = some (⟨some d, (qrf x want y), none⟩ :: AOp.er al) → OK g' m w' → ARel g' m w' nt tx a' → Ext g0 m0 w0 g' m w' →
          (∀ i, (∀ s, s ∈ sl → s.dst ≠ some i) → tx i = t i) → qa tx m (qrf x want y) = some (.bool (qrg want q b)) → wpList P ops Q l2 a' w' := by
        intro tx l2 g' a' w' hl2 hok' hr' he' htx hpv
        cases l2 with
        | nil => simp at hl2
        | cons o l3 =>
          simp only [List.mapM_cons, Option.bind_eq_bind, Option.pure_def, Option.bind_eq_some_iff, Option.some.injEq] at hl2
          obtain ⟨s', hs', sl', hl3, hcs⟩ := hl2
          cases hcs
          obtain ⟨hdst, hop, hdn, hg⟩ := qq hs'
          have hw : Region.wanted o (yielded ops a'.tmps) = true := by
            rcases hg with ⟨hg1, hg2⟩ | ⟨j, b, oj, d, hg1, hj, hd, hg2⟩
            · simp [Region.wanted, hg1]
            · cases hg2
          unfold wpList
          rw [if_pos hw]
          refine .inl (qj4 hT hok' hr'.r hop (K := fun v' m' => v' = .bool (qrg want q b) ∧ m' = m) (qbd (by cases want <;> rfl) (fun f xs e => by cases want <;> cases e) hpv ⟨rfl, rfl⟩) fun v' cv m' g2 w2 hK' hv' hok2 hext => ?_)
          obtain ⟨rfl, rfl⟩ := hK'
          have hp := (hr'.ext hext).put hdn hv'
          refine ih hk l3 hl3 _ _ g2 _ w2 hok2 (hp.less (fun i => ?_)) (he'.trans hext) h'
          rw [← hdst]
          simp only [upd]
          by_cases hi : i = d
          · rw [if_pos hi, if_pos hi]; exact .inr rfl
          · rw [if_neg hi, if_neg hi]
            rcases q2b sl t i with h1 | ⟨h1, h2⟩
            · exact .inl h1
            · exact .inr (by rw [h1, htx i h2])
      by_cases hqw : q = want
      · subst hqw
        refine qxp hT sl l t g a w hl' hok hr he hq hte (fun l2 g' a' w' hl2 hok' hr' he' hx => ?_)
        refine fin te l2 g' a' w' hl2 hok' hr' he' (fun i hi => qz7 sl t te hte i hi) ?_
        cases q <;> simp [qrf, qrg, qa, qbe3, hx, hb] <;> rfl
      · have hq' : t x = .bool (!want) := by rw [hq]; cases q <;> cases want <;> simp_all
        refine qxq hT sl l t t a hl' hr hq' hte (fun l2 a' hl2 hr' hx => ?_)
        refine fin _ l2 g a' w hl2 hok hr' he (fun i hi => qxr sl t i hi) ?_
        cases q <;> cases want <;> simp_all [qrf, qrg, qa, ev]
theorem qxs (hT : T.ok P) {nb : Nat} {ops : Array Oper} {Q : Exit → Act → World → Prop} {K : Env → Mem → Option R} {r : R} {g0 : Gh} {m0 : Mem} {w0 : World} (hnb : m0.n = nb)
    (hQ : ∀ t' m' g' a' w', OK g' m' w' → ARel g' m' w' nt t' a' → Ext g0 m0 w0 g' m' w' → K t' m' = some r → Q .normal a' w') {gL : Gh} {wL : World} {R0 : Nat → Prop} :
    ∀ (al : List (AOp R)), qi1 al = true → ∀ (l : List Oper), l.mapM (qbc T nt ops) = some (AOp.er al) → ∀ (Z : List Nat) (t : Env) (m : Mem) (g : Gh) (a : Act) (w : World), OK g m w → ARel g m w nt t a → Ext g0 m0 w0 g m w →
      (∀ r, R0 r → boxQ m r = true ∧ g.jb r = gL.jb r ∧ w.heap[gL.jb r]? = wL.heap[gL.jb r]?) → qix Z (AOp.er al) = true → (∀ z, z ∈ Z → ∃ r off, t z = .ptr r off ∧ ¬ R0 r) →
      dOps nb al t m K = some r → qd3 P ops Q (Same gL wL R0) l a w := by
  intro al
  induction al with
  | nil =>
    intro _ l hl Z t m g a w hok hr he hR hB hZ h
    cases l with
    | nil => exact hQ t m g a w hok hr he h
    | cons o l =>
      simp only [AOp.er, List.mapM_cons, Option.bind_eq_bind, Option.pure_def, Option.bind_eq_some_iff, Option.some.injEq] at hl
      obtain ⟨s, _, sl, _, hx⟩ := hl
      cases hx
  | cons x al ih =>
    intro hk l hl Z t m g a w hok hr he hR hB hZ h
    cases x with
    | et k ls =>
      simp only [qi1] at hk
      simp only [dOps] at h
      have keep : ∀ (u : AV), (∀ r off, t k ≠ .ptr r off) → ∀ z, z ∈ Z → ∃ r off, upd t (some k) u z = .ptr r off ∧ ¬ R0 r := fun u hne z hz => by
        obtain ⟨r, off, h1, h2⟩ := hZ z hz
        refine ⟨r, off, ?_, h2⟩
        simp only [upd]
        by_cases e : z = k
        · subst e; exact absurd h1 (hne r off)
        · rw [if_neg e]; exact h1
      split at h
      · rename_i cs hc
        obtain ⟨h1, h2⟩ := qg h
        have h3 := hr.r k
        rw [hc] at h3
        exact ih hk l hl Z _ m g a w hok (hr.told' (qlg h1 h3)) he hR hB (keep _ (by simp [hc])) h2
      · rename_i cs hc
        obtain ⟨h1, h2⟩ := qg h
        have h3 := hr.r k
        rw [hc] at h3
        exact ih hk l hl Z _ m g a w hok (hr.told' (qqi h1 h3)) he hR hB (keep _ (by simp [hc])) h2
      · exact ih hk l hl Z _ m g a w hok hr he hR hB hZ h
      · cases h
    | op s =>
      simp only [qi1] at hk
      cases l with
      | nil => simp [AOp.er] at hl
      | cons o l =>
      simp only [AOp.er, List.mapM_cons, Option.bind_eq_bind, Option.pure_def, Option.bind_eq_some_iff, Option.some.injEq, List.cons.injEq] at hl
      obtain ⟨s', hs, sl', hl', rfl, rfl⟩ := hl
      obtain ⟨hdst, hop, hdn, hg⟩ := qq hs
      simp only [AOp.er, qix, Bool.and_eq_true, Option.isNone_iff_eq_none] at hB
      obtain ⟨hgn, hB⟩ := hB
      have hgo : o.guard = none := by
        rcases hg with ⟨h1, _⟩ | ⟨j, b, oj, d, _, _, _, h4⟩
        · exact h1
        · rw [hgn] at h4; cases h4
      simp only [dOps, hgn, gd, hdst] at h
      unfold qd3
      rw [if_pos (by simp [Region.wanted, hgo])]
      refine .inl ?_
      have hc : ∀ so, s'.op = so → so ≠ .stuck → cOp T o.op = some so := fun so hso hne => by
        unfold cOpT at hop
        cases hq : cOp T o.op with
        | none => rw [hq] at hop; simp at hop; exact absurd (hop.trans hso).symm hne
        | some x => rw [hq] at hop; simp at hop; rw [hop, hso]
      have pure : ∀ so v, s'.op = so → so ≠ .stuck → qa t m so = some v → (∀ Z', qix Z' (AOp.er al) = true → (∀ z, z ∈ Z' → ∃ r off, upd t o.dst v z = .ptr r off ∧ ¬ R0 r) → dOps nb al (upd t o.dst v) m K = some r → o.wp P a w (fun a' w' => Same gL wL R0 w' ∧ qd3 P ops Q (Same gL wL R0) l a' w') Q) := by
        intro so v hso hne hpv Z' hB' hZ' h'
        obtain ⟨cv, hv, hrun⟩ := qiz hT hok hr.r (hc so hso hne) hpv
        unfold Oper.wp
        rw [hrun w (Old.refl w), Oper.upon_value]
        exact ⟨fun r hRr => (hR r hRr).2.2, ih hk l hl' Z' _ m g _ w hok (hr.put hdn hv) he hR hB' hZ' h'⟩
      have keep : ∀ v z, z ∈ Z → (∀ d, o.dst = some d → z ≠ d) → ∃ r off, upd t o.dst v z = .ptr r off ∧ ¬ R0 r := by
        intro v z hz hd
        obtain ⟨r, off, h1, h2⟩ := hZ z hz
        refine ⟨r, off, ?_, h2⟩
        cases hod : o.dst with
        | none => exact h1
        | some d => simp only [upd]; rw [if_neg (hd d hod)]; exact h1
      have wipe : ∀ v d Z0, o.dst = some d → Z0 = Z.filter (· != d) → ∀ z, z ∈ Z0 → ∃ r off, upd t o.dst v z = .ptr r off ∧ ¬ R0 r := by
        intro v d Z0 hd hZ0 z hz
        rw [hZ0] at hz
        obtain ⟨h1, h2⟩ := List.mem_filter.1 hz
        exact keep v z h1 (fun d' hd' => by rw [hd] at hd'; cases hd'; simpa using h2)
      split at hB
      · rename_i sz i y hso
        simp only [Bool.and_eq_true, Option.isNone_iff_eq_none] at hB
        obtain ⟨⟨hzi, hdn0⟩, hB⟩ := hB
        rw [hso] at h
        obtain ⟨r0, off, hp, hR0⟩ := hZ i (by simpa using hzi)
        have hev : ev t (.t i) = .ptr r0 off := hp
        simp only [dOp, hev] at h
        cases hm : wr m sz (.ptr r0 off) (ev t y) with
        | none => rw [hm] at h; cases h
        | some m' =>
          rw [hm] at h
          have hm : qd t m (.store sz (.t i) y) = some (.undef, m') := by simp [qd, hev, hm]
          generalize hv0 : AV.undef = v at hm h
          simp only [oI] at h
          obtain ⟨nx, cv, w', g', hrun, hnx, hv, hok', hext, hsame⟩ := q7d hT hok hr.r (hc _ hso (by simp)) hm (x := .t i) hp hR0 (fun r hr => (hR r hr).1)
          have hR' : ∀ r, R0 r → boxQ m' r = true ∧ g'.jb r = gL.jb r ∧ w'.heap[gL.jb r]? = wL.heap[gL.jb r]? := fun r hRr => by
            obtain ⟨k1, k2, k3⟩ := hsame r hRr
            obtain ⟨j1, j2, j3⟩ := hR r hRr
            rw [j2] at k2 k3
            exact ⟨k1, k2, k3.trans j3⟩
          have hdo : o.dst = none := by rw [← hdst]; exact hdn0
          have fin : ∀ cv, VRel g' m' w' v cv → Same gL wL R0 w' ∧ qd3 P ops Q (Same gL wL R0) l (a.put o.dst cv) w' := fun cv hv =>
            ⟨fun r hRr => (hR' r hRr).2.2, ih hk l hl' Z _ m' g' _ w' hok' ((hr.ext hext).put hdn hv) (he.trans hext) hR' hB (fun z hz => keep v z hz (fun d hd => by rw [hdo] at hd; cases hd)) h⟩
          unfold Oper.wp
          rw [hrun]
          rcases hnx with rfl | ⟨rfl, rfl⟩
          · rw [Oper.upon_value]; exact fin cv hv
          · simp only [Oper.upon]; exact fin Go.undef hv
      · rename_i off i hso
        rw [hso] at h
        rw [Bool.and_eq_true] at hB
        obtain ⟨hzi, hB⟩ := hB
        obtain ⟨r0, k, hp, hR0⟩ := hZ i (by simpa using hzi)
        have hev : ev t (.t i) = .ptr r0 k := hp
        have hpv : qa t m (.fa off (.t i)) = some (.ptr r0 (k + off)) := by simp [qa, hev, vfa]
        simp only [dOp, hev, vfa, oI] at h
        split at hB
        · rename_i d hd
          rw [hdst] at hd
          refine pure _ _ hso (by simp) hpv _ hB (fun z hz => ?_) h
          by_cases hzd : z = d
          · exact ⟨r0, k + off, by rw [hd, hzd]; simp [upd], hR0⟩
          · rcases List.mem_cons.1 hz with h0 | hz
            · exact absurd h0 hzd
            · exact keep _ z hz (fun d' hd' => by rw [hd] at hd'; cases hd'; exact hzd)
        · rename_i hd
          rw [hdst] at hd
          exact pure _ _ hso (by simp) hpv _ hB (fun z hz => keep _ z hz (fun d' hd' => by rw [hd] at hd'; cases hd')) h
      · rename_i x hso
        rw [hso] at h
        simp only [dOp, SOp.quiet] at h
        cases hpv : qa t m (.mv x) with
        | none => rw [hpv] at h; cases h
        | some v =>
          rw [hpv] at h
          simp only [oI] at h
          split at hB
          · rename_i d hd
            rw [hdst] at hd
            exact pure _ v hso (by simp) hpv _ hB (fun z hz => wipe v d _ hd rfl z hz) h
          · rename_i hd
            rw [hdst] at hd
            exact pure _ v hso (by simp) hpv _ hB (fun z hz => keep v z hz (fun d' hd' => by rw [hd] at hd'; cases hd')) h
      · rename_i x k hso
        rw [hso] at h
        simp only [dOp, SOp.quiet] at h
        cases hpv : qa t m (.ext x k) with
        | none => rw [hpv] at h; cases h
        | some v =>
          rw [hpv] at h
          simp only [oI] at h
          split at hB
          · rename_i d hd
            rw [hdst] at hd
            exact pure _ v hso (by simp) hpv _ hB (fun z hz => wipe v d _ hd rfl z hz) h
          · rename_i hd
            rw [hdst] at hd
            exact pure _ v hso (by simp) hpv _ hB (fun z hz => keep v z hz (fun d' hd' => by rw [hd] at hd'; cases hd')) h
      · cases hB
    | _ => simp [qi1] at hk
theorem q56 {F : List Nat} {so : SOp} {K : AV → Prop} (hq : so.quiet = true) (hn : ∀ f xs, so ≠ .call f xs) {v : AV} (h : qa t m so = some v) (hK : K v) : qbq P F t m K so := by
  cases so <;> first | (simp only [qbq, hq, if_true, h, oP]; exact hK) | (exact absurd rfl (hn _ _)) | (simp [SOp.quiet] at hq)
theorem q07 {so : SOp} {K : AV → Mem → Prop} (hq : so.quiet = true) (hn : ∀ f xs, so ≠ .call f xs) (h : WpOp P t m K so) : ∃ v, qa t m so = some v ∧ K v m := by
  have h' : oP (qa t m so) fun v => K v m := by
    cases so <;> first | (simpa only [WpOp, hq, if_true] using h) | (exact absurd rfl (hn _ _)) | (simp [SOp.quiet] at hq)
  cases hp : qa t m so with
  | none => rw [hp] at h'; exact h'.elim
  | some v => rw [hp] at h'; exact ⟨v, rfl, h'⟩
theorem qz8 {F : List Nat} {so : SOp} {K : AV → Option R} {r : R} (h : dQop F t m so K = some r) : qbq P F t m (fun v => K v = some r) so := by
  unfold dQop at h
  split at h
  · split at h
    · rename_i a b h1 h2 ha hb
      obtain ⟨xs, h3, h4⟩ := ql3 h
      obtain ⟨ys, h5, h6⟩ := qb5 h4
      refine ⟨h1, h2, ?_⟩
      simp only [h3, oP, qz3 ha hb h5]
      exact h6
    · cases h
  · split at h
    · rename_i h1
      obtain ⟨xs, h2, h3⟩ := qdt _ _ _ h
      split at h3
      · rename_i h4
        refine ⟨h1, ?_⟩
        simp only [h2, oP]
        exact ⟨h4, h3⟩
      · cases h3
    · cases h
  · cases h
  · rename_i hn
    split at h
    · rename_i hq
      obtain ⟨v, h1, h2⟩ := q07 (P := P) hq (fun f xs he => hn f xs he) (q15 h)
      exact q56 hq (fun f xs he => hn f xs he) h1 h2
    · cases h
theorem qvp {F : List Nat} {so : SOp} {f : FuncId} {e : List AV → (AV → Option R) → Option R} (he : qhn P f e) {K : AV → Option R} {r : R} (h : qzv F t m so f e K = some r) : qbq P F t m (fun v => K v = some r) so := by
  unfold qzv at h
  split at h
  · split at h
    · rename_i hf
      have hf' := Nat.eq_of_beq_eq_true hf
      subst hf'
      obtain ⟨as_, h1, h2⟩ := qdt _ _ _ h
      obtain ⟨z, h3, h4⟩ := he _ _ _ h2
      split at h4
      · rename_i h5
        exact ⟨as_, clo z, h1, qjj h3 (fun z' hz' => by rw [hz']), by simpa using h5, h4⟩
      · cases h4
    · cases h
  · split at h
    · rename_i f' hev
      split at h
      · rename_i hf
        have hf' := Nat.eq_of_beq_eq_true hf
        subst hf'
        obtain ⟨as_, h1, h2⟩ := qdt _ _ _ h
        obtain ⟨z, h3, h4⟩ := he _ _ _ h2
        split at h4
        · rename_i h5
          exact ⟨_, [], .inl ⟨hev, rfl⟩, as_, clo z, by rw [List.append_nil]; exact h1, qjj h3 (fun z' hz' => by rw [hz']), by rw [List.append_nil]; simpa using h5, h4⟩
        · cases h4
      · cases h
    · cases h
  · cases h
theorem qgb {F : List Nat} {s : SOper} {go : Env → Option R} {K : Env → Option R} {r : R} (h : gdQ t s.g s.dst go K = some r) {l : List SOper} {Q : Env → Prop}
    (run : go t = some r → qbq P F t m (fun v => WpQs P F m l (upd t s.dst v) Q) s.op) (skip : K (upd t s.dst .undef) = some r → WpQs P F m l (upd t s.dst .undef) Q) : WpQs P F m (s :: l) t Q := by
  unfold WpQs
  cases hg : s.g with
  | none => rw [hg] at h; exact run h
  | some p =>
    obtain ⟨x, b⟩ := p
    rw [hg] at h
    cases b with
    | true =>
      simp only [gdQ] at h
      split at h
      · rename_i q hq
        simp only [hq]
        cases q with
        | true => rw [qdd hq] at h; exact ⟨fun _ => run h, fun h => by simp at h⟩
        | false => rw [qdd hq] at h; exact ⟨fun h => by simp at h, fun _ => skip h⟩
      · rename_i hq
        simp only [hq]
        exact skip h
      · cases h
    | false =>
      simp only [gdQ] at h
      split at h
      · rename_i q hq
        simp only [hq]
        cases q with
        | true => rw [qdd hq] at h; exact ⟨fun h => by simp at h, fun _ => skip h⟩
        | false => rw [qdd hq] at h; exact ⟨fun _ => run h, fun h => by simp at h⟩
      · rename_i hq
        simp only [hq]
        exact skip h
      · cases h
theorem qkl {v : Stp} {K : Env → Option R} {r : R} (h : dQst t v K = some r) : K t = some r := by
  unfold dQst at h
  split at h
  · rename_i k v
    split at h
    · rename_i hx
      obtain ⟨h1, h2⟩ := qg h
      rw [q7t hx h1, qdd rfl] at h2
      exact h2
    · cases h
  · cases h
theorem qca {F : List Nat} {K : Env → Option R} {r : R} : ∀ (al : List (AOp R)), AOp.ok P al → ∀ (t : Env), dQs F m al t K = some r → WpQs P F m (AOp.er al) t fun t' => K t' = some r
  | [], _, t, h => h
  | .op s :: al, hk, t, h => qgb h (fun hgo => qd0 (fun v hv => qca al hk _ hv) (qz8 hgo)) (fun hs => qca al hk _ hs)
  | .call s f e :: al, hk, t, h => qgb h (fun hgo => qd0 (fun v hv => qca al hk.2 _ hv) (qvp hk.1 hgo)) (fun hs => qca al hk.2 _ hs)
  | .callq s ap :: al, hk, t, h => qgb h (fun hgo => qd0 (fun v hv => qca al hk.2 _ hv) (q2a hk.1 hgo)) (fun hs => qca al hk.2 _ hs)
  | .callc s f e :: al, hk, t, h => by simp [dQs] at h
  | .callr s f e :: al, hk, t, h => by simp [dQs] at h
  | .st v :: al, hk, t, h => qca al hk t (qkl h)
  | .stg x want v :: al, hk, t, h => by
    simp only [dQs] at h
    split at h
    · split at h
      · exact qca al hk t (qkl h)
      · exact qca al hk t (qkl h)
      · exact qca al hk t h
      · exact qca al hk t h
    · exact qca al hk t h
    · cases h
  | .grp .. :: al, hk, t, h => by simp [dQs] at h
  | .et k ls :: al, hk, t, h => by
    simp only [dQs] at h
    simp only [AOp.er]
    split at h
    · rename_i hx
      split at h
      · rename_i cs hc
        obtain ⟨h1, h2⟩ := qg h
        rw [qlf hx h1, qdd hc] at h2
        exact qca al hk t h2
      · rename_i cs hc
        obtain ⟨h1, h2⟩ := qg h
        rw [qlf hx h1, qdd hc] at h2
        exact qca al hk t h2
      · exact qca al hk t h
      · cases h
    · cases h
theorem q43 {mk : List Nat} {s : SOper} (h : ∀ f xs, s.op ≠ .call f xs) : mkF mk s = s := by
  have e : mkOp s.op = s.op := by
    cases hs : s.op <;> first | rfl | exact absurd hs (h _ _)
  unfold mkF
  split
  · split
    · rw [e]
    · rfl
  · rfl
theorem qbb1 (mk : List Nat) (s : SOper) : (mkF mk s).g = s.g := by
  unfold mkF
  split
  · split <;> rfl
  · rfl
theorem qbco {mk : List Nat} {s : SOper} (h : mkD mk s.dst = true) : mkF mk s = { s with op := mkOp s.op } := by
  unfold mkF
  cases hd : s.dst with
  | none => rw [hd] at h; simp [mkD] at h
  | some d =>
    rw [hd] at h
    simp only [mkD] at h
    simp only [h, if_true]
theorem qbat {mk : List Nat} {s : SOper} (h : mkD mk s.dst = false) : mkF mk s = s := by
  unfold mkF
  cases hd : s.dst with
  | none => rfl
  | some d =>
    rw [hd] at h
    simp only [mkD] at h
    simp only [h, Bool.false_eq_true, if_false]
theorem q25 {F : List Nat} {so : SOp} {f : FuncId} {e : List AV → (AV → Option R) → Option R} (he : qhn P f e) {K : AV → Option R} {r : R} (h : q04 F t m so f e K = some r) : qbq P F t m (fun v => K v = some r) (mkOp so) := by
  unfold q04 at h
  split at h
  · split at h
    · rename_i hf
      have hf' := Nat.eq_of_beq_eq_true hf
      subst hf'
      obtain ⟨as_, h1, h2⟩ := qdt _ _ _ h
      obtain ⟨z, h3, h4⟩ := he _ _ _ h2
      split at h4
      · rename_i sz ys
        split at h4
        · rename_i h5
          exact ⟨as_, sz, ys, h1, qjj h3 (fun z' hz' => by rw [hz']), h5, h4⟩
        · cases h4
      · cases h4
    · cases h
  · cases h
theorem qbh {F mk : List Nat} {K : Env → Option R} {r : R} : ∀ (al : List (AOp R)), AOp.ok P al → ∀ (t : Env), dQs3 F mk m al t K = some r → WpQs P F m ((AOp.er al).map (mkF mk)) t fun t' => K t' = some r
  | [], _, t, h => h
  | .op s :: al, hk, t, h => by
    simp only [dQs3] at h
    simp only [AOp.er, List.map_cons]
    by_cases hc : ∃ f xs, s.op = .call f xs
    · obtain ⟨f, xs, hs⟩ := hc
      rw [← qbb1 mk s, ← qv8 mk s] at h
      exact qgb h (fun hgo => by rw [hs] at hgo; simp [dQop] at hgo) (fun hs => qbh al hk _ hs)
    · rw [q43 (fun f xs hs => hc ⟨f, xs, hs⟩)]
      exact qgb h (fun hgo => qd0 (fun v hv => qbh al hk _ hv) (qz8 hgo)) (fun hs => qbh al hk _ hs)
  | .call s f e :: al, hk, t, h => by
    simp only [dQs3] at h
    simp only [AOp.er, List.map_cons]
    split at h
    · rename_i hm
      rw [qbco hm]
      exact qgb (s := { s with op := mkOp s.op }) h (fun hgo => qd0 (fun v hv => qbh al hk.2 _ hv) (q25 hk.1 hgo)) (fun hs => qbh al hk.2 _ hs)
    · rename_i hm
      rw [qbat hm]
      exact qgb h (fun hgo => qd0 (fun v hv => qbh al hk.2 _ hv) (qvp hk.1 hgo)) (fun hs => qbh al hk.2 _ hs)
  | .callq s ap :: al, hk, t, h => by
    simp only [dQs3] at h
    simp only [AOp.er, List.map_cons]
    by_cases hc : ∃ f xs, s.op = .call f xs
    · obtain ⟨f, xs, hs⟩ := hc
      rw [← qbb1 mk s, ← qv8 mk s] at h
      exact qgb h (fun hgo => by rw [hs] at hgo; simp [qmu] at hgo) (fun hs => qbh al hk.2 _ hs)
    · rw [q43 (fun f xs hs => hc ⟨f, xs, hs⟩)]
      exact qgb h (fun hgo => qd0 (fun v hv => qbh al hk.2 _ hv) (q2a hk.1 hgo)) (fun hs => qbh al hk.2 _ hs)
  | .callc s f e :: al, hk, t, h => by simp [dQs3] at h
  | .callr s f e :: al, hk, t, h => by simp [dQs3] at h
  | .st v :: al, hk, t, h => qbh al hk t (qkl h)
  | .stg x want v :: al, hk, t, h => by
    simp only [dQs3] at h
    split at h
    · split at h
      · exact qbh al hk t (qkl h)
      · exact qbh al hk t (qkl h)
      · exact qbh al hk t h
      · exact qbh al hk t h
    · exact qbh al hk t h
    · cases h
  | .grp .. :: al, hk, t, h => by simp [dQs3] at h
  | .et k ls :: al, hk, t, h => by
    simp only [dQs3] at h
    simp only [AOp.er]
    split at h
    · rename_i hx
      split at h
      · rename_i cs hc
        obtain ⟨h1, h2⟩ := qg h
        rw [qlf hx h1, qdd hc] at h2
        exact qbh al hk t h2
      · rename_i cs hc
        obtain ⟨h1, h2⟩ := qg h
        rw [qlf hx h1, qdd hc] at h2
        exact qbh al hk t h2
      · exact qbh al hk t h
      · cases h
    · cases h
def H5.ok (P : Program) : List (H5 R) → Prop
  | [] => True
  | .w _ :: l => H5.ok P l
  | .c _ f e :: l => q7i P f e ∧ H5.ok P l
theorem q2c : ∀ l : List Nat, hand.nodupL l = qlb l
  | [] => rfl
  | x :: xs => by simp only [hand.nodupL, qlb, q2c xs]
theorem q7u {f : FuncId} {e : List AV → (AV → Option R) → Option R} (he : q7i P f e) {vs : List AV} {m : Mem} {K : AV → Mem → Option R} {r : R} (h : q7n e vs m K = some r) :
    ∃ as_ z, hand m vs = some as_ ∧ qrd P f as_ (· = z) ∧ K (imp z (m.dels (vs.flatMap ids))).1 (imp z (m.dels (vs.flatMap ids))).2 = some r := by
  unfold q7n at h
  split at h
  · rename_i h1
    obtain ⟨as_, h2, h3⟩ := qs5 _ _ _ h
    split at h3
    · rename_i h4
      obtain ⟨z, h5, h6⟩ := he _ _ _ h3
      refine ⟨as_, z, ?_, h5, h6⟩
      unfold hand
      rw [q2c, h1]
      simp only [h2, h4]
    · cases h3
  · cases h
theorem q08 {K : Env → Mem → Option R} {x : R} {fl : List Opd} {ps : List (Opd × Opd)} : ∀ (J : List (Nat × SOper)) (h : List (H5 R)) (t : Env) (m : Mem), H5.er h = J.map (·.2) ++ [⟨none, .held fl ps, none⟩] → H5.ok P h → dH5 h t m K = some x →
    (∀ p, p ∈ J → ∀ a b, p.2.op ≠ .held a b) → (dsts (J.map (·.2))).Nodup → qb7 (J.map (·.2)) = true →
    ∃ tF mF, K tF mF = some x ∧ Tr5 P tF J m mF ∧ (∀ i, i ∉ dsts (J.map (·.2)) → tF i = t i) ∧ (evs tF fl).all flat = true ∧ ps.all (qns mF tF) = true
  | [], h, t, m, her, hk, hx, _, _, _ => by
    cases h with
    | nil => simp [H5.er] at her
    | cons y h =>
      cases y with
      | w s =>
        simp only [H5.er, List.map_nil, List.nil_append, List.cons.injEq] at her
        obtain ⟨rfl, her⟩ := her
        cases h with
        | cons y h => cases y <;> simp [H5.er] at her
        | nil =>
          simp only [dH5] at hx
          split at hx
          · rename_i hc
            simp only [Bool.and_eq_true] at hc
            exact ⟨t, m, hx, .nil m, fun _ _ => rfl, hc.1, hc.2⟩
          · cases hx
      | c s f e =>
        simp only [H5.er, List.map_nil, List.nil_append, List.cons.injEq] at her
        obtain ⟨rfl, _⟩ := her
        simp [dH5] at hx
  | p :: J, h, t, m, her, hk, hx, hnh, hnd, hrd => by
    cases h with
    | nil => simp [H5.er] at her
    | cons y h =>
      simp only [List.map_cons, qb7, Bool.and_eq_true, List.all_eq_true] at hrd
      obtain ⟨hrd1, hrd2⟩ := hrd
      have hnd2 : (dsts (J.map (·.2))).Nodup := by
        unfold dsts at hnd ⊢
        simp only [List.map_cons, List.filterMap_cons] at hnd
        split at hnd
        · exact hnd
        · exact (List.nodup_cons.1 hnd).2
      have hself : ∀ d, p.2.dst = some d → d ∉ dsts (J.map (·.2)) := by
        intro d hd
        unfold dsts at hnd ⊢
        simp only [List.map_cons, List.filterMap_cons, hd] at hnd
        exact (List.nodup_cons.1 hnd).1
      have hreads : ∀ d, p.2.reads d = true → d ∉ dsts ((p :: J).map (·.2)) := by
        intro d hd hm
        obtain ⟨o, ho, hod⟩ := qbi.1 hm
        have := hrd1 o (by simpa using ho)
        rw [hod] at this
        simp [hd] at this
      have hnh' := fun q hq => hnh q (List.mem_cons_of_mem _ hq)
      -- what the rest gives
      have rest : ∀ (v : AV) (tF : Env), (∀ i, i ∉ dsts (J.map (·.2)) → tF i = upd t p.2.dst v i) →
          (∀ i, i ∉ dsts ((p :: J).map (·.2)) → tF i = t i) ∧ (∀ d, p.2.dst = some d → tF d = v) ∧ ∀ q, q ∈ p.2.op.opds → ev t q = ev tF q := by
        intro v tF h2
        have hout : ∀ i, i ∉ dsts ((p :: J).map (·.2)) → tF i = t i := by
          intro i hi
          have hir : i ∉ dsts (J.map (·.2)) := fun hm => hi (by
            obtain ⟨o, ho, hod⟩ := qbi.1 hm
            exact qbi.2 ⟨o, by simp only [List.map_cons, List.mem_cons]; exact .inr ho, hod⟩)
          rw [h2 i hir]
          cases hsd : p.2.dst with
          | none => rfl
          | some d =>
            simp only [upd]
            rw [if_neg]
            intro e
            exact hi (qbi.2 ⟨p.2, by simp, by rw [hsd, e]⟩)
        refine ⟨hout, fun d hd => ?_, fun q hq => (qyi fun d hd => hout d (hreads d ?_)).symm⟩
        · rw [h2 d (hself d hd), hd]; simp [upd]
        · simp only [SOper.reads, Bool.or_eq_true, List.any_eq_true]
          exact .inl ⟨q, hq, hd⟩
      cases y with
      | w s =>
        simp only [H5.er, List.map_cons, List.cons_append, List.cons.injEq] at her
        obtain ⟨rfl, her⟩ := her
        simp only [dH5] at hx
        split at hx
        · rename_i hg
          split at hx
          · rename_i a b hh
            exact absurd hh (hnh p List.mem_cons_self a b)
          · split at hx
            · rename_i v hv
              obtain ⟨tF, mF, h1, h2, h3, h4⟩ := q08 J h _ m her hk hx hnh' hnd2 hrd2
              obtain ⟨k1, k2, k3⟩ := rest v tF h3
              refine ⟨tF, mF, h1, .word p J m mF ⟨hg, ?_, v, qbao hv k3, k2⟩ h2, k1, h4⟩
              cases hc : qcq p.2.op with
              | false => rfl
              | true =>
                exfalso
                cases hop : p.2.op <;> rw [hop] at hc hv <;> simp [qcq, w5, dW1] at hc hv
            · cases hx
        · cases hx
      | c s f e =>
        simp only [H5.er, List.map_cons, List.cons_append, List.cons.injEq] at her
        obtain ⟨rfl, her⟩ := her
        simp only [dH5] at hx
        split at hx
        · rename_i hg
          split at hx
          · rename_i f' xs hop
            split at hx
            · rename_i hf hall
              have hf' := Nat.eq_of_beq_eq_true hf
              subst hf'
              obtain ⟨as_, z, j1, j2, j3⟩ := q7u hk.1 hx
              obtain ⟨tF, mF, h1, h2, h3, h4⟩ := q08 J h _ _ her hk.2 j3 hnh' hnd2 hrd2
              obtain ⟨k1, k2, k3⟩ := rest _ tF h3
              have hevs : evs tF xs = evs t xs := by
                unfold evs
                exact List.map_congr_left fun q hq => (k3 q (by rw [hop]; exact hq)).symm
              refine ⟨tF, mF, h1, .main p J m _ mF ⟨hg, f, evs t xs, as_, z, ?_, j1, hall, j2, rfl, k2⟩ h2, k1, h4⟩
              simp only [hop, q3d, hevs]
            · cases hx
          · cases hx
        · cases hx
end
end Go.Pev
/- The reckoner is sound (6): code, loops, functions. -/
namespace Go.Pev
open Go
set_option linter.unusedVariables false
set_option linter.unusedSimpArgs false
section
variable {R : Type} {P : Program} {T : Tab} {nt nb : Nat} {KR : Env → Mem → Option R}
theorem q82 {c : Code} {l : List SOper} (h : qt T nt c = some (.reg l)) : ∃ id ops, c = .region id ops false ∧ ops.toList.mapM (qbc T nt ops) = some l := by
  cases c with
  | region id ops d =>
    simp only [qt, Option.bind_eq_bind, Option.bind_eq_some_iff] at h
    obtain ⟨l', hl, h⟩ := h
    cases d with
    | true => simp only [if_true] at h; split at h <;> (try split at h) <;> simp at h
    | false =>
      simp at h; subst h
      exact ⟨id, ops, rfl, hl⟩
  | cond q a b => simp only [qt] at h; split at h <;> simp [Option.bind_eq_some_iff] at h
  | _ => simp [qt, Option.bind_eq_some_iff] at h
theorem qnz {c : Code} {A B : List SOper} (h : qt T nt c = some (.draw A B)) : ∃ id ops l n, c = .region id ops true ∧ ops.toList.mapM (qbc T nt ops) = some l ∧
    ((qsj ops l n = true ∧ A = l.take n ∧ B = l.drop n) ∨ (qq7 ops l n = true ∧ A = hd2 ops l n (qb4 l n) ∧ B = tl2 l n (qb4 l n))) := by
  cases c with
  | region id ops d =>
    simp only [qt, Option.bind_eq_bind, Option.bind_eq_some_iff] at h
    obtain ⟨l', hl, h⟩ := h
    cases d with
    | true =>
      simp only [if_true] at h
      split at h
      · rename_i n hn
        simp at h
        exact ⟨id, ops, l', n, rfl, hl, .inl ⟨List.find?_some hn, h.1.symm, h.2.symm⟩⟩
      · split at h
        · rename_i n hn
          simp at h
          exact ⟨id, ops, l', n, rfl, hl, .inr ⟨List.find?_some hn, h.1.symm, h.2.symm⟩⟩
        · simp at h
    | false => simp at h
  | cond q a b => simp only [qt] at h; split at h <;> simp [Option.bind_eq_some_iff] at h
  | _ => simp [qt, Option.bind_eq_some_iff] at h
theorem q83 {c : Code} {x y : SC} (h : qt T nt c = some (.seq x y)) : ∃ a b, c = .seq a b ∧ qt T nt a = some x ∧ qt T nt b = some y := by
  cases c with
  | region id ops d =>
    simp only [qt, Option.bind_eq_bind, Option.bind_eq_some_iff] at h
    obtain ⟨l', hl, h⟩ := h
    cases d with
    | true => simp only [if_true] at h; split at h <;> (try split at h) <;> simp at h
    | false => simp at h
  | cond q a b => simp only [qt] at h; split at h <;> simp [Option.bind_eq_some_iff] at h
  | seq a b =>
    simp only [qt, Option.bind_eq_bind, Option.bind_eq_some_iff, Option.some.injEq] at h
    obtain ⟨x', hx, y', hy, h⟩ := h
    cases h
    exact ⟨a, b, rfl, hx, hy⟩
  | _ => simp [qt, Option.bind_eq_some_iff] at h
theorem q7v {c : Code} {o : Opd} {x y : SC} (h : qt T nt c = some (.cond o x y)) : ∃ q a b, c = .cond q a b ∧ cOpd q = some o ∧ qt T nt a = some x ∧ qt T nt b = some y := by
  cases c with
  | region id ops d =>
    simp only [qt, Option.bind_eq_bind, Option.bind_eq_some_iff] at h
    obtain ⟨l', hl, h⟩ := h
    cases d with
    | true => simp only [if_true] at h; split at h <;> (try split at h) <;> simp at h
    | false => simp at h
  | cond q a b =>
    simp only [qt] at h
    split at h
    · rename_i o' ho
      simp only [Option.bind_eq_bind, Option.bind_eq_some_iff, Option.some.injEq] at h
      obtain ⟨x', hx, y', hy, h⟩ := h
      cases h
      exact ⟨q, a, b, rfl, ho, hx, hy⟩
    · simp at h
  | _ => simp [qt, Option.bind_eq_some_iff] at h
theorem q57 {c : Code} {i : Nat} {x : SC} (h : qt T nt c = some (.block i x)) : ∃ a, c = .block i a ∧ qt T nt a = some x := by
  cases c with
  | region id ops d =>
    simp only [qt, Option.bind_eq_bind, Option.bind_eq_some_iff] at h
    obtain ⟨l', hl, h⟩ := h
    cases d with
    | true => simp only [if_true] at h; split at h <;> (try split at h) <;> simp at h
    | false => simp at h
  | cond q a b => simp only [qt] at h; split at h <;> simp [Option.bind_eq_some_iff] at h
  | block id a =>
    simp only [qt, Option.bind_eq_bind, Option.bind_eq_some_iff, Option.some.injEq] at h
    obtain ⟨x', hx, h⟩ := h
    cases h
    exact ⟨a, rfl, hx⟩
  | _ => simp [qt, Option.bind_eq_some_iff] at h
theorem q7w {c : Code} {x : SC} (h : qt T nt c = some (.loop x)) : ∃ a, c = .loop a ∧ qt T nt a = some x := by
  cases c with
  | region id ops d =>
    simp only [qt, Option.bind_eq_bind, Option.bind_eq_some_iff] at h
    obtain ⟨l', hl, h⟩ := h
    cases d with
    | true => simp only [if_true] at h; split at h <;> (try split at h) <;> simp at h
    | false => simp at h
  | cond q a b => simp only [qt] at h; split at h <;> simp [Option.bind_eq_some_iff] at h
  | loop a =>
    simp only [qt, Option.bind_eq_bind, Option.bind_eq_some_iff, Option.some.injEq] at h
    obtain ⟨x', hx, h⟩ := h
    cases h
    exact ⟨a, rfl, hx⟩
  | _ => simp [qt, Option.bind_eq_some_iff] at h
theorem q7x {c : Code} {i : Nat} (h : qt T nt c = some (.exit i)) : c = .exit i := by
  cases c with
  | region id ops d =>
    simp only [qt, Option.bind_eq_bind, Option.bind_eq_some_iff] at h
    obtain ⟨l', hl, h⟩ := h
    cases d with
    | true => simp only [if_true] at h; split at h <;> (try split at h) <;> simp at h
    | false => simp at h
  | cond q a b => simp only [qt] at h; split at h <;> simp [Option.bind_eq_some_iff] at h
  | exit id => simp [qt] at h; rw [h]
  | _ => simp [qt, Option.bind_eq_some_iff] at h
theorem q84 {c : Code} (h : qt T nt c = some .ret) : c = .ret := by
  cases c with
  | region id ops d =>
    simp only [qt, Option.bind_eq_bind, Option.bind_eq_some_iff] at h
    obtain ⟨l', hl, h⟩ := h
    cases d with
    | true => simp only [if_true] at h; split at h <;> (try split at h) <;> simp at h
    | false => simp at h
  | cond q a b => simp only [qt] at h; split at h <;> simp [Option.bind_eq_some_iff] at h
  | ret => rfl
  | _ => simp [qt, Option.bind_eq_some_iff] at h
theorem q7y {c : Code} (h : qt T nt c = some .skip) : c = .skip := by
  cases c with
  | region id ops d =>
    simp only [qt, Option.bind_eq_bind, Option.bind_eq_some_iff] at h
    obtain ⟨l', hl, h⟩ := h
    cases d with
    | true => simp only [if_true] at h; split at h <;> (try split at h) <;> simp at h
    | false => simp at h
  | cond q a b => simp only [qt] at h; split at h <;> simp [Option.bind_eq_some_iff] at h
  | skip => rfl
  | _ => simp [qt, Option.bind_eq_some_iff] at h
theorem q58 (hT : T.ok P) (hm : P.follows .mixedOrders = true) {id : Nat} {ops : Array Oper} {l : List SOper} {n : Nat} (hmap : ops.toList.mapM (qbc T nt ops) = some l) (hB : qsj ops l n = true) {Q : Exit → Act → World → Prop} {gS : Gh} {mS : Mem} {wS : World}
    {t : Env} {m : Mem} {g : Gh} {a : Act} {w : World} {F : List Nat} {post : Env → Prop}
    (hQ : ops.toList.drop n = ops.toList.drop n → (ops.toList.drop n).mapM (qbc T nt ops) = some (l.drop n) → ∀ tF g a w, OK g (m.frz F) w → ARel g (m.frz F) w nt tF a → Ext gS mS wS g (m.frz F) w → post tF → wpList P ops Q (ops.toList.drop n) a w)
    (hok : OK g m w) (hr : ARel g m w nt t a) (he : Ext gS mS wS g m w)
    (h : WpQs P F (m.frz F) (l.take n) t post) : (Code.region id ops true).wp P Q a w := by
  have hF := qmf hB
  have hlen : l.length = ops.size := by have := (qbx _ _ _ hmap).1; simpa using this
  have hrd : qb7 (l.take n) = true := by
    refine qki _ (fun i j s o d h1 h2 h3 h4 => ?_)
    have hjn : j < n := by have := (List.getElem?_eq_some_iff.1 h1).1; simp at this; omega
    have hin : i < n := by have := (List.getElem?_eq_some_iff.1 h2).1; simp at this; omega
    rw [List.getElem?_take_of_lt hjn] at h1
    rw [List.getElem?_take_of_lt hin] at h2
    have hjs : j < ops.size := by have := hF.le; omega
    have his : i < ops.size := by have := hF.le; omega
    have hoj : ops[j]? = some ops[j] := by simp [hjs]
    have hoi : ops[i]? = some ops[i] := by simp [his]
    obtain ⟨s2, hs2, hc2⟩ := qb9 hmap hoi
    rw [h2] at hs2; cases hs2
    obtain ⟨hd2, _⟩ := qq hc2
    exact ((hF.head j _ s hjn hoj h1).reads i _ d hin hoi (by rw [← hd2]; exact h3) h4).1
  obtain ⟨tF, h1, h2, h3⟩ := qsw (l.take n) t _ h hF.nodup hrd
  have hfr := hok.frz F
  have hfe := Ext.frz hok F
  obtain ⟨h4, h5⟩ := hfr.1.same (w' := { w with drawn := w.drawn + 1 }) rfl rfl rfl rfl
  have h6 := (he.trans hfe).trans h5
  have hr2 := (hr.ext hfe).ext h5
  have hmap2 : (ops.toList.drop n).mapM (qbc T nt ops) = some (l.drop n) := by
    have hgen : ∀ (xs : List Oper) (ys : List SOper) (n : Nat), xs.mapM (qbc T nt ops) = some ys → (xs.drop n).mapM (qbc T nt ops) = some (ys.drop n) := by
      intro xs
      induction xs with
      | nil => intro ys n h; simp at h; subst h; simp
      | cons x xs ih =>
        intro ys n h
        cases n with
        | zero => simpa using h
        | succ n =>
          simp only [List.mapM_cons, Option.bind_eq_bind, Option.pure_def, Option.bind_eq_some_iff, Option.some.injEq] at h
          obtain ⟨y, _, ys', hys, rfl⟩ := h
          simpa using ih ys' n hys
    exact hgen _ _ n hmap
  refine wp_region_any hm ?_
  have inv0 : HeadInv .any ops n (Array.replicate ops.size false) :=
    ⟨by simp, fun j oj _ hl => (by rw [getD_replicate_false] at hl; cases hl), fun t _ ht => getD_in (by simpa using ht) (getD_replicate_false _ _)⟩
  have := q8h (gS := gS) (mS := mS) (wS := wS) hT hmap hF (m0 := m) (F := F) rfl (t := t) (tF := tF) h2 h3 (Q := Q) (fun a w g hok hr hext => hQ rfl hmap2 tF g a w hok hr hext h1)
    n (Array.replicate ops.size false) a { w with drawn := w.drawn + 1 } (qms _ n hF.le) inv0 ⟨_, h4, ?_, h6⟩
  · rw [show n + (ops.size - n) = ops.size by have := hF.le; omega] at this
    exact this
  · have henv : midE l n t tF (Array.replicate ops.size false) = t := by
      funext i
      unfold midE
      rw [if_neg]
      rintro ⟨j, hj, hl, _⟩
      have : j < ops.size := by have := hF.le; omega
      simp [this] at hl
    rw [henv]
    exact hr2
theorem q44 {m : Mem} {t t' : Env} {s : SOper} (h : qrc m t s) (hr : ∀ d, s.reads d = true → t d = t' d) (hd : ∀ d, s.dst = some d → t d = t' d) : qrc m t' s := by
  obtain ⟨h1, v, h2, h3⟩ := h
  exact ⟨h1, v, qpz h2 (qe4 hr), fun d hs => by rw [← hd d hs]; exact h3 d hs⟩
theorem q45 (a b : List SOper) : dsts (a ++ b) = dsts a ++ dsts b := by unfold dsts; rw [List.filterMap_append]
theorem qta {a b : List SOper} (h : qb7 (a ++ b) = true) : qb7 a = true ∧ qb7 b = true ∧ ∀ s o d, s ∈ a → o ∈ b → o.dst = some d → s.reads d = false := by
  induction a with
  | nil => exact ⟨rfl, h, fun s o d hs => by simp at hs⟩
  | cons x a ih =>
    simp only [List.cons_append, qb7, Bool.and_eq_true, List.all_eq_true] at h ⊢
    obtain ⟨h1, h2⟩ := h
    obtain ⟨i1, i2, i3⟩ := ih h2
    refine ⟨⟨fun o ho => h1 o ?_, i1⟩, i2, fun s o d hs ho hd => ?_⟩
    · rcases List.mem_cons.1 ho with rfl | ho
      · exact List.mem_cons_self
      · exact List.mem_cons_of_mem _ (List.mem_append_left _ ho)
    · rcases List.mem_cons.1 hs with rfl | hs
      · have := h1 o (List.mem_cons_of_mem _ (List.mem_append_right _ ho))
        rw [hd] at this
        simpa using this
      · exact i3 s o d hs ho hd
theorem q7z {ops : Array Oper} {l : List SOper} {n : Nat} (hmap : ops.toList.mapM (qbc T nt ops) = some l) (hF : DrawFacts ops l n) : qb7 (l.take n) = true := by
  refine qki _ (fun i j s o d h1 h2 h3 h4 => ?_)
  have hjn : j < n := by have := (List.getElem?_eq_some_iff.1 h1).1; simp at this; omega
  have hin : i < n := by have := (List.getElem?_eq_some_iff.1 h2).1; simp at this; omega
  rw [List.getElem?_take_of_lt hjn] at h1
  rw [List.getElem?_take_of_lt hin] at h2
  have hjs : j < ops.size := by have := hF.le; omega
  have his : i < ops.size := by have := hF.le; omega
  have hoj : ops[j]? = some ops[j] := by simp [hjs]
  have hoi : ops[i]? = some ops[i] := by simp [his]
  obtain ⟨s2, hs2, hc2⟩ := qb9 hmap hoi
  rw [h2] at hs2; cases hs2
  obtain ⟨hd2, _⟩ := qq hc2
  exact ((hF.head j _ s hjn hoj h1).reads i _ d hin hoi (by rw [← hd2]; exact h3) h4).1
def Sem (P : Program) (T : Tab) (nt nb : Nat) (KR : Env → Mem → Option R) (sc : SC) (t : Env) (m : Mem) (K : Ex → Env → Mem → Option R) (r : R) : Prop :=
  ∀ (c : Code), qt T nt c = some sc → ∀ (g0 : Gh) (m0 : Mem) (w0 : World) (Q : Exit → Act → World → Prop), m0.n = nb →
    (∀ e t' m' g' a' w', OK g' m' w' → ARel g' m' w' nt t' a' → Ext g0 m0 w0 g' m' w' → exOf e ≠ .ret → K e t' m' = some r → Q (exOf e) a' w') →
    (∀ t' m' g' a' w', OK g' m' w' → ARel g' m' w' nt t' a' → Ext g0 m0 w0 g' m' w' → KR t' m' = some r → Q .ret a' w') →
    ∀ (g : Gh) (a : Act) (w : World), OK g m w → ARel g m w nt t a → Ext g0 m0 w0 g m w → c.wp P Q a w
def qwd (P : Program) (T : Tab) (nt nb : Nat) (KR : Env → Mem → Option R) (c : SC) (e : Env → Mem → (Ex → Env → Mem → Option R) → Option R) : Prop :=
  ∀ t m K r, e t m K = some r → Sem P T nt nb KR c t m K r
theorem qbcp {α β : Type} {o : Option α} {f : α → Option β} {y : β} (h : ∀ x, f x ≠ some y) : (o >>= f) ≠ some y := by
  cases o with
  | none => simp
  | some x => exact h x
set_option maxHeartbeats 1000000 in
theorem qbau {T : Tab} {op : Op} {a : List Opd} {b : List (Opd × Opd)} : cOp T op ≠ some (.held a b) := by
  unfold cOp
  split
  all_goals repeat' first
    | (refine qbcp fun _ => ?_)
    | (simp; done)
    | split
theorem qbav {T : Tab} {op : Op} {a : List Opd} {b : List (Opd × Opd)} (h : cOpT T op = some (.held a b)) : False := by
  unfold cOpT at h
  cases hq : cOp T op with
  | none => rw [hq] at h; simp at h
  | some x =>
    rw [hq] at h
    simp only [Option.getD_some, Option.some.injEq] at h
    subst h
    exact qbau hq
def tl5B (h : List (H5 R)) (l : List (AOp R)) : Bool :=
  tl1B l && qi1 l && ch5 (H5.er h) none && match (H5.er h).getLast? with
    | some ⟨none, .held .., none⟩ => (H5.er h).dropLast.all fun s => match s.op with
      | .held .. => false
      | _ => true
    | _ => false
theorem q09 : ∀ (a b : List SOper) (T : Option (List Nat)), ch5 (a ++ b) T = true → ch5 a T = true
  | [], _, _, _ => rfl
  | s :: a, b, T, h => by
    simp only [List.cons_append, ch5] at h ⊢
    split at h
    · simp only [Bool.and_eq_true] at h ⊢
      refine ⟨h.1, ?_⟩
      have h2 := h.2
      split at h2
      · exact q09 a b _ h2
      · cases h2
    · exact q09 a b _ h
def AC.ok (P : Program) (T : Tab) (nt nb : Nat) (KR : Env → Mem → Option R) : AC R → Prop
  | .reg l => AOp.ok P l
  | .draw _ h l => AOp.ok P h ∧ AOp.ok P l ∧ tl2B h l = true
  | .draw3 _ mk h l => AOp.ok P h ∧ AOp.ok P l ∧ mk3B h mk = true
  | .draw4 _ _ f sz _ _ F _ l => qzm P f sz F ∧ AOp.ok P l
  | .draw5 _ h l => H5.ok P h ∧ AOp.ok P l ∧ tl5B h l = true
  | .seq a b => AC.ok P T nt nb KR a ∧ AC.ok P T nt nb KR b
  | .cond _ a b => AC.ok P T nt nb KR a ∧ AC.ok P T nt nb KR b
  | .block _ c => AC.ok P T nt nb KR c
  | .sub c e => qwd P T nt nb KR c e
  | .skip => True
  | .exit _ => True
  | .ret => True
  | .view _ => True
theorem qvq : ∀ (L : List (Nat × List AV)) (tl : List (AOp R)) (rest : List SOper), tl1B tl = true → AOp.er tl = L.map (fun p => (⟨some p.1, .alloc p.2, none⟩ : SOper)) ++ rest →
    ∃ tl', tl = L.map (fun p => AOp.op (⟨some p.1, .alloc p.2, none⟩ : SOper)) ++ tl' ∧ AOp.er tl' = rest ∧ ∀ P : Program, AOp.ok P tl → AOp.ok P tl'
  | [], tl, rest, _, h => ⟨tl, rfl, h, fun _ h => h⟩
  | p :: L, tl, rest, hB, h => by
    cases tl with
    | nil => simp [AOp.er] at h
    | cons x tl =>
      cases x with
      | op s =>
        simp only [AOp.er, List.map_cons, List.cons_append, List.cons.injEq] at h
        obtain ⟨rfl, h⟩ := h
        simp only [tl1B, qog, Bool.not_true, Bool.false_or] at hB
        obtain ⟨tl', h1, h2, h3⟩ := qvq L tl rest hB h
        exact ⟨tl', by rw [h1]; rfl, h2, fun P hk => h3 P hk⟩
      | _ => simp only [tl1B] at hB; rw [h] at hB; simp [qog] at hB
theorem qvr : ∀ (a b : List (AOp R)), qi1 (a ++ b) = true → qi1 b = true
  | [], _, h => h
  | x :: a, b, h => by
    cases x <;> simp only [List.cons_append, qi1] at h <;> first | exact qvr a b h | cases h
theorem qvs (nb : Nat) (K : Env → Mem → Option R) (tl' : List (AOp R)) : ∀ (L : List (Nat × List AV)) (t : Env) (m : Mem), (∀ p, p ∈ L → p.2.all AV.leaf = true) →
    dOps nb (L.map (fun p => AOp.op (⟨some p.1, .alloc p.2, none⟩ : SOper)) ++ tl') t m K = dOps nb tl' (qk9 L m t) (qk8 L m) K
  | [], t, m, _ => rfl
  | p :: L, t, m, hz => by
    simp only [List.map_cons, List.cons_append, dOps, gd, dOp, SOp.quiet, qd, hz p List.mem_cons_self, if_true, oI]
    exact qvs nb K tl' L _ _ (fun q hq => hz q (List.mem_cons_of_mem _ hq))
theorem q46 {g0 : Gh} {m0 : Mem} {w0 : World} (hnb : m0.n = nb) {r : R} {a : Act} {w : World} : ∀ (ac : AC R), ac.isV = true → ∀ (t : Env) (m : Mem) (g : Gh) (K : Ex → Env → Mem → Option R), den nb KR ac t m K = some r →
    OK g m w → ARel g m w nt t a → Ext g0 m0 w0 g m w → ∃ g' t' m', OK g' m' w ∧ ARel g' m' w nt t' a ∧ Ext g0 m0 w0 g' m' w ∧ K .norm t' m' = some r := by
  intro ac
  induction ac with
  | view l => intro _ t m g K h hok hr he; exact qxn hnb l t m g (K .norm) h hok hr he
  | seq x y ihx ihy =>
    intro hv t m g K h hok hr he
    simp only [AC.isV, Bool.and_eq_true] at hv
    obtain ⟨g1, t1, m1, h1, h2, h3, h4⟩ := ihx hv.1 t m g _ h hok hr he
    exact ihy hv.2 t1 m1 g1 K h4 h1 h2 h3
  | _ => intro hv; simp [AC.isV] at hv
theorem qvt (hT : T.ok P) (hm : P.follows .mixedOrders = true) : ∀ (ac : AC R), ac.ok P T nt nb KR → ∀ (sc : SC), ac.er = some sc → ∀ t m K r, den nb KR ac t m K = some r → Sem P T nt nb KR sc t m K r := by
  intro ac
  induction ac with
  | skip =>
    intro _ sc her t m K r h c hc g0 m0 w0 Q hnb hQ hR g a w hok hr he
    simp only [AC.er, Option.some.injEq] at her; subst her
    have := q7y hc; subst this
    exact wp_skip (hQ .norm t m g a w hok hr he (by simp [exOf]) h)
  | reg l =>
    intro hk sc her t m K r h c hc g0 m0 w0 Q hnb hQ hR g a w hok hr he
    simp only [AC.er, Option.some.injEq] at her; subst her
    obtain ⟨id, ops, rfl, hl⟩ := q82 hc
    exact wp_region_list (qi3 hT hnb (K := K .norm) (r := r) (fun t' m' g' a' w' h1 h2 h3 h4 => hQ .norm t' m' g' a' w' h1 h2 h3 (by simp [exOf]) h4) l hk ops.toList hl t m g a w hok hr he h)
  | draw F hd tl =>
    intro hk sc her t m K r h c hc g0 m0 w0 Q hnb hQ hR g a w hok hr he
    simp only [AC.er, Option.some.injEq] at her; subst her
    obtain ⟨id, ops, l, n, rfl, hl, hdc⟩ := qnz hc
    simp only [den, qkk] at h
    have h1 := qca (P := P) hd hk.1 t h
    rcases hdc with ⟨hB, hA1, hA2⟩ | ⟨hB, hA1, hA2⟩
    · rw [hA1] at h1
      refine q58 hT hm hl hB (fun _ hmap2 tF g' a' w' h2 h3 h4 h5 => ?_) hok hr he h1
      rw [← hA2] at hmap2
      exact qi3 hT hnb (K := K .norm) (r := r) (fun t' m' g' a' w' h1 h2 h3 h4 => hQ .norm t' m' g' a' w' h1 h2 h3 (by simp [exOf]) h4) tl hk.2.1 _ hmap2 tF _ g' a' w' h2 h3 h4 h5
    · rw [hA1] at h1
      have hk3 := hk.2.2
      simp only [tl2B, Bool.and_eq_true, Bool.or_eq_true] at hk3
      have hmap2 := qpy ops.toList l n hl
      have hA := (qmg hB).alf
      obtain ⟨n1, n2, n3⟩ := qmh (qb4 l n) hA
      have herr : AOp.er tl = (qd1 l (qb4 l n)).map (fun p => (⟨some p.1, .alloc p.2, none⟩ : SOper)) ++ l.drop n := by rw [hA2, ← n1]; rfl
      obtain ⟨tl', h2, h3, h4⟩ := qvq _ tl _ hk3.1 herr
      have hleaf : ∀ p, p ∈ qd1 l (qb4 l n) → p.2.all AV.leaf = true := fun p hp => List.all_eq_true.2 fun x hx => by
        obtain ⟨i, hi, hs⟩ := n3 p hp
        obtain ⟨d, z, o, s, hA⟩ := hA i hi
        rw [qpx hA] at hs
        simp only [Option.some.injEq, SOper.mk.injEq, SOp.alloc.injEq, and_true] at hs
        have := List.all_eq_true.1 hA.z x (by rw [hs.2]; exact hx)
        cases x <;> simp [qh8] at this <;> rfl
      refine q5x hT hm hl hB (Q := Q) (gS := g0) (mS := m0) (wS := w0) (post := fun t' => dOps nb tl t' (m.frz F) (K .norm) = some r) (Tl := fun t m => dOps nb tl' t m (K .norm) = some r) (fun Q' hQ' t m g a w hok hr hext hp => ?_) (fun hne Q' hQ' gL wL R0 Z t m g a w hok hr hext hR0 hcB hZ hp => ?_) (fun _ t' hp => ?_) hok hr he h1
      · rw [← h3] at hmap2
        exact qi3 hT hnb (K := K .norm) (r := r) (fun t' m' g' a' w' h1 h2 h3 h4 => hQ' a' w' (hQ .norm t' m' g' a' w' h1 h2 h3 (by simp [exOf]) h4)) tl' (h4 P hk.2.1) _ hmap2 t m g a w hok hr hext hp
      · have hcal : qi1 tl' = true := by
          rcases hk3.2 with hh | hh
          · exfalso
            refine hne (qbah (als := qb4 l n) ?_)
            unfold qbbz at hh
            rw [hA1] at hh
            have := List.all_eq_true.1 hh ⟨none, .held (fls2 ops l n) (prs2 ops l n (qb4 l n)), none⟩ (by unfold hd2; simp)
            simpa using this
          · rw [h2] at hh; exact qvr _ _ hh
        rw [← h3] at hmap2 hcB
        exact qxs hT hnb (K := K .norm) (r := r) (fun t' m' g' a' w' h1 h2 h3 h4 => hQ' a' w' (hQ .norm t' m' g' a' w' h1 h2 h3 (by simp [exOf]) h4)) tl' hcal _ hmap2 Z t m g a w hok hr hext hR0 hcB hZ hp
      · rw [h2] at hp
        exact (qvs nb (K .norm) tl' _ t' _ hleaf).symm.trans hp
  | draw3 F mk hd tl =>
    intro hk sc her t m K r h c hc g0 m0 w0 Q hnb hQ hR g a w hok hr he
    simp only [AC.er, Option.some.injEq] at her; subst her
    obtain ⟨id, ops, l, n, rfl, hl, hdc⟩ := qnz hc
    simp only [den, qkk] at h
    have h1 := qbh (P := P) hd hk.1 t h
    have hk3 := hk.2.2
    simp only [mk3B, Bool.and_eq_true] at hk3
    rcases hdc with ⟨hB, hA1, hA2⟩ | ⟨hB, hA1, hA2⟩
    · rw [hA1] at h1 hk3
      refine q5z (gS := g0) (mS := m0) (wS := w0) (x := r) (K := fun t2 m2 => dOps nb tl t2 m2 (K .norm)) hT hm hl hB hk3.1 (fun hmap2 t' m' g' a' w' h2 h3 h4 h5 => ?_) hok hr he h1
      rw [← hA2] at hmap2
      exact qi3 hT hnb (K := K .norm) (r := r) (fun t' m' g' a' w' h1 h2 h3 h4 => hQ .norm t' m' g' a' w' h1 h2 h3 (by simp [exOf]) h4) tl hk.2.1 _ hmap2 t' m' g' a' w' h2 h3 h4 h5
    · exfalso
      rw [hA1] at hk3
      have := List.all_eq_true.1 hk3.2 ⟨none, .held (fls2 ops l n) (prs2 ops l n (qb4 l n)), none⟩ (by unfold hd2; simp)
      simp at this
  | draw5 F hd tl =>
    intro hk sc her t m K r h c hc g0 m0 w0 Q hnb hQ hR g a w hok hr he
    simp only [AC.er, Option.some.injEq] at her; subst her
    obtain ⟨id, ops, l, n, rfl, hl, hdc⟩ := qnz hc
    simp only [den, qkk] at h
    have hk3 := hk.2.2
    simp only [tl5B, Bool.and_eq_true] at hk3
    obtain ⟨⟨⟨hk4, hk5⟩, hk6⟩, hk7⟩ := hk3
    split at hk7
    case h_2 => cases hk7
    rename_i fl0 ps0 hlast
    have hheld : ∀ s, s ∈ l → ∀ a b, s.op ≠ .held a b := fun s hs a b e => by
      obtain ⟨k, hk, hke⟩ := List.mem_iff_getElem.1 hs
      obtain ⟨hlen, hget⟩ := qbx _ _ _ hl
      have hko : k < ops.size := by have : l.length = ops.size := by simpa using hlen
                                    omega
      have hcs := hget k ops[k] s (by simp [hko]) (by simp [hk, hke])
      obtain ⟨_, hop, _⟩ := qq hcs
      rw [e] at hop
      exact qbav hop
    rcases hdc with ⟨hB, hA1, hA2⟩ | ⟨hB, hA1, hA2⟩
    · exfalso
      rw [hA1] at hlast
      have := List.mem_of_getLast? hlast
      exact hheld _ (List.mem_of_mem_take this) fl0 ps0 rfl
    · have hF := qmg hB
      rw [hA1] at hk6
      unfold hd2 at hA1 hk6
      rw [← qre] at hA1
      have hlen : l.length = ops.size := by have := (qbx _ _ _ hl).1; simpa using this
      have hnl := hF.lt
      have hrd0 : qb7 (l.take n) = true := by
        refine qki _ (fun i j s o d h1 h2 h3 h4 => ?_)
        have hjn : j < n := by have := (List.getElem?_eq_some_iff.1 h1).1; simp at this; omega
        have hin : i < n := by have := (List.getElem?_eq_some_iff.1 h2).1; simp at this; omega
        rw [List.getElem?_take_of_lt hjn] at h1
        rw [List.getElem?_take_of_lt hin] at h2
        have hoj : ops[j]? = some ops[j] := by simp [show j < ops.size by omega]
        have hoi : ops[i]? = some ops[i] := by simp [show i < ops.size by omega]
        obtain ⟨s2, hs2, hc2⟩ := qb9 hl hoi
        rw [h2] at hs2; cases hs2
        obtain ⟨hd2, _⟩ := qq hc2
        by_cases hja : j ∈ qb4 l n
        · obtain ⟨d2, z, o2, s3, hA⟩ := hF.alf j hja
          have : s3 = s := Option.some.inj (hA.hs.symm.trans h1)
          subst this
          simp [SOper.reads, hA.op, hA.g, SOp.opds] at h4
        · exact ((hF.head j _ s hjn hja hoj h1).reads i _ d hin hoi (by rw [← hd2]; exact h3) h4).1
      have hsub := qyj l (qb4 l n) n
      obtain ⟨tF, mF, h1, h2, h3, h4, h5⟩ := q08 (P := P) (jp5 l n (qb4 l n)) hd t (m.frz F) hA1 hk.1 h (fun p hp => hheld p.2 (List.mem_of_getElem? (qkj.1 hp).2.2))
        (by rw [qre]; exact q4g hsub hF.nodup) (by rw [qre]; exact qzh hsub hrd0)
      obtain ⟨n1, n2, n3⟩ := qmh (qb4 l n) hF.alf
      have htl : AOp.er tl = (qd1 l (qb4 l n)).map (fun p => (⟨some p.1, .alloc p.2, none⟩ : SOper)) ++ l.drop n := by rw [hA2]; unfold tl2; rw [n1]
      obtain ⟨tl', t1, t2, t3⟩ := qvq (qd1 l (qb4 l n)) tl (l.drop n) hk4 htl
      have hleaf : ∀ p, p ∈ qd1 l (qb4 l n) → p.2.all AV.leaf = true := fun p hp => List.all_eq_true.2 fun x hx => by
        obtain ⟨i, hi, hs⟩ := n3 p hp
        obtain ⟨d, z, o, s, hA⟩ := hF.alf i hi
        rw [qpx hA] at hs
        simp only [Option.some.injEq, SOper.mk.injEq, SOp.alloc.injEq, and_true] at hs
        have := List.all_eq_true.1 hA.z x (by rw [hs.2]; exact hx)
        cases x <;> simp [qh8] at this <;> rfl
      have hmap2 := qpy (nt := nt) ops.toList l n hl
      have hcal : qi1 tl' = true := by rw [t1] at hk5; exact qvr _ _ hk5
      rw [t1] at h1
      have h1 := (qvs nb (K .norm) tl' _ tF mF hleaf).symm.trans h1
      rw [qre] at h3
      have hfe := Ext.frz hok F
      refine q51 hT hm hl hB (Q := Q) (gS := g0) (mS := m0) (wS := w0) (Tl := fun t m => dOps nb tl' t m (K .norm) = some r) h2 (q09 _ _ none hk6) h3 h4 h5
        (fun Q' hQ' t m g a w hok hr hext hp => ?_) (fun hne Q' hQ' gL wL R0 Z t m g a w hok hr hext hR0 hcB hZ hp => ?_) (fun _ => h1) (hok.frz F).1 (hr.ext hfe) (he.trans hfe)
      · rw [← t2] at hmap2
        exact qi3 hT hnb (K := K .norm) (r := r) (fun t' m' g' a' w' h1 h2 h3 h4 => hQ' a' w' (hQ .norm t' m' g' a' w' h1 h2 h3 (by simp [exOf]) h4)) tl' (t3 P hk.2.1) _ hmap2 t m g a w hok hr hext hp
      · rw [← t2] at hmap2 hcB
        exact qxs hT hnb (K := K .norm) (r := r) (fun t' m' g' a' w' h1 h2 h3 h4 => hQ' a' w' (hQ .norm t' m' g' a' w' h1 h2 h3 (by simp [exOf]) h4)) tl' hcal _ hmap2 Z t m g a w hok hr hext hR0 hcB hZ hp
  | draw4 h1 dg f sz y ys F h2 tl =>
    intro hk sc her t m K r h c hc g0 m0 w0 Q hnb hQ hR g a w hok hr he
    simp only [AC.er, Option.some.injEq] at her; subst her
    obtain ⟨id, ops, l, n, rfl, hl, hdc⟩ := qnz hc
    simp only [den] at h
    -- the walk
    have walk : ∀ (nd : (dsts (h1 ++ (⟨some dg, .call f (y :: ys), none⟩ : SOper) :: h2)).Nodup) (rd : qb7 (h1 ++ (⟨some dg, .call f (y :: ys), none⟩ : SOper) :: h2) = true),
        ∃ (r0 : Nat) (xs0 zs : List AV) (tF : Env), ev tF y = .own r0 xs0.length ∧ m.s r0 = some (.arr true sz xs0) ∧ (evs tF ys).all qmt = true ∧ F xs0 (evs tF ys) = some zs ∧ tF dg = .own r0 zs.length ∧
          (∀ i, i ∉ dsts (h1 ++ (⟨some dg, .call f (y :: ys), none⟩ : SOper) :: h2) → tF i = t i) ∧ (∀ s, s ∈ h1 ++ h2 → qrc m tF s) ∧ dOps nb tl tF (m.set r0 (.arr true sz zs)) (K .norm) = some r := by
      intro nd rd
      have ed : dsts ((⟨some dg, .call f (y :: ys), none⟩ : SOper) :: h2) = dg :: dsts h2 := rfl
      rw [q45, ed] at nd
      obtain ⟨n1, n2, n3⟩ := List.nodup_append.1 nd
      obtain ⟨n4, n5⟩ := List.nodup_cons.1 n2
      obtain ⟨r1, r2, r3⟩ := qta rd
      obtain ⟨_, r4, r5⟩ := qta (a := [(⟨some dg, .call f (y :: ys), none⟩ : SOper)]) (b := h2) r2
      obtain ⟨t1, k1, k2, k3⟩ := q4o h1 t h n1 r1
      split at k1
      case h_2 => cases k1
      rename_i r0 k hy
      split at k1
      case h_2 => cases k1
      rename_i e xs0 hob
      split at k1
      case h_2 => cases k1
      rename_i he1 hcl
      obtain ⟨hh, k4⟩ := qg k1
      obtain ⟨zs, k5, k6⟩ := qb5 k4
      have he' := Nat.eq_of_beq_eq_true he1
      have hk' := qnx hh
      subst he' hk'
      obtain ⟨tF, j1, j2, j3⟩ := q4o h2 _ k6 n5 r4
      have keep : ∀ i, i ≠ dg → i ∉ dsts h2 → tF i = t1 i := fun i hi hi2 => by
        rw [j2 i hi2]; simp only [upd]; rw [if_neg hi]
      have hcr : ∀ q, q ∈ (y :: ys) → ev tF q = ev t1 q := fun q hq => by
        refine qyi fun d hd => ?_
        have hrd : SOper.reads (⟨some dg, .call f (y :: ys), none⟩ : SOper) d = true := by
          simp only [SOper.reads, Bool.or_eq_true, List.any_eq_true]
          exact .inl ⟨q, hq, hd⟩
        refine keep d (fun e => ?_) (fun hm => ?_)
        · subst e
          have := (show qb7 [(⟨some d, .call f (y :: ys), none⟩ : SOper)] = true from (qta (a := [(⟨some d, .call f (y :: ys), none⟩ : SOper)]) (b := h2) r2).1)
          simp only [qb7, List.all_cons, List.all_nil, Bool.and_true, Bool.not_eq_true'] at this
          rw [hrd] at this; cases this
        · obtain ⟨o, ho, hod⟩ := qbi.1 hm
          have := r5 _ o d (List.mem_singleton.2 rfl) ho hod
          rw [hrd] at this; cases this
      have hys : evs tF ys = evs t1 ys := qga fun q hq => hcr q (List.mem_cons_of_mem _ hq)
      refine ⟨r0, xs0, zs, tF, by rw [hcr y List.mem_cons_self]; exact hy, hob, by rw [hys]; exact hcl, by rw [hys]; exact k5, by rw [j2 dg n4]; simp [upd], fun i hi => ?_, fun s hs => ?_, j1⟩
      · rw [q45, ed] at hi
        simp only [List.mem_append, List.mem_cons, not_or] at hi
        rw [keep i hi.2.1 hi.2.2, k2 i hi.1]
      · rcases List.mem_append.1 hs with hs | hs
        · refine q44 (k3 s hs) (fun d hd => ?_) (fun d hd => ?_)
          · refine (keep d (fun e => ?_) (fun hm => ?_)).symm
            · subst e
              have := r3 s (⟨some d, .call f (y :: ys), none⟩ : SOper) d hs List.mem_cons_self rfl
              rw [hd] at this; cases this
            · obtain ⟨o, ho, hod⟩ := qbi.1 hm
              have := r3 s o d hs (List.mem_cons_of_mem _ ho) hod
              rw [hd] at this; cases this
          · have hd1 : d ∈ dsts h1 := qbi.2 ⟨s, hs, hd⟩
            refine (keep d (fun e => ?_) (fun hm => ?_)).symm
            · exact n3 d hd1 d (by rw [e]; exact List.mem_cons_self) rfl
            · exact n3 d hd1 d (List.mem_cons_of_mem _ hm) rfl
        · obtain ⟨i1, v, i2, i3⟩ := j3 s hs
          refine ⟨i1, v, qve i2 fun r' wf cs hb => ?_, i3⟩
          simp only [Mem.set] at hb
          split at hb
          · cases hb
          · exact hb
    rcases hdc with ⟨hB, hA1, hA2⟩ | ⟨hB, hA1, hA2⟩
    · have hF := qmf hB
      have nd := hF.nodup
      have rd := q7z hl hF
      rw [← hA1] at nd rd
      obtain ⟨r0, xs0, zs, tF, k1, k2, k3, k4, k5, k6, k7, k8⟩ := walk nd rd
      refine q50 (gS := g0) (mS := m0) (wS := w0) (x := r) (K := fun t2 m2 => dOps nb tl t2 m2 (K .norm)) hT hm hl hB hA1.symm hk.1 (fun hmap2 t' m' g' a' w' h2 h3 h4 h5 => ?_) hok hr he k1 k2 k3 k4 k5 (by rw [← hA1]; exact k6) k7 k8
      rw [← hA2] at hmap2
      exact qi3 hT hnb (K := K .norm) (r := r) (fun t' m' g' a' w' h1 h2 h3 h4 => hQ .norm t' m' g' a' w' h1 h2 h3 (by simp [exOf]) h4) tl hk.2 _ hmap2 t' m' g' a' w' h2 h3 h4 h5
    · exfalso
      -- a pseudo word among these
      have hmem : (⟨none, .held (fls2 ops l n) (prs2 ops l n (qb4 l n)), none⟩ : SOper) ∈ h1 ++ (⟨some dg, .call f (y :: ys), none⟩ : SOper) :: h2 := by rw [hA1]; unfold hd2; simp
      have noheld : ∀ (hd : List SOper) (t : Env) (m : Mem) (K : Env → Option R) (x : R), dW hd t m K = some x → ∀ fl ps, (⟨none, .held fl ps, none⟩ : SOper) ∉ hd := by
        intro hd
        induction hd with
        | nil => intro t m K x _ fl ps hm; simp at hm
        | cons s hd ih =>
          intro t m K x hx fl ps hm
          simp only [dW] at hx
          split at hx
          · split at hx
            · rename_i hg v hv
              rcases List.mem_cons.1 hm with rfl | hm
              · simp [dW1] at hv
              · exact ih _ _ _ _ hx fl ps hm
            · cases hx
          · cases hx
      have cont : ∀ (hd : List SOper) (t : Env) (m : Mem) (K : Env → Option R) (x : R), dW hd t m K = some x → ∃ t', K t' = some x := by
        intro hd
        induction hd with
        | nil => intro t m K x hx; exact ⟨t, hx⟩
        | cons s hd ih =>
          intro t m K x hx
          simp only [dW] at hx
          split at hx
          · split at hx
            · exact ih _ _ _ _ hx
            · cases hx
          · cases hx
      rcases List.mem_append.1 hmem with hm | hm
      · exact noheld h1 _ _ _ _ h _ _ hm
      · rcases List.mem_cons.1 hm with hm | hm
        · cases hm
        · obtain ⟨t1, k1⟩ := cont _ _ _ _ _ h
          split at k1
          case h_2 => cases k1
          split at k1
          case h_2 => cases k1
          split at k1
          case h_2 => cases k1
          obtain ⟨_, k4⟩ := qg k1
          obtain ⟨zs, _, k6⟩ := qb5 k4
          exact noheld h2 _ _ _ _ k6 _ _ hm
  | seq x y ihx ihy =>
    intro hk sc her t m K r h c hc g0 m0 w0 Q hnb hQ hR g a w hok hr he
    simp only [AC.er] at her
    simp only [den] at h
    split at her
    · rename_i hv
      refine ihx hk.1 sc her t m _ r h c hc g0 m0 w0 Q hnb (fun e t' m' g' a' w' h1 h2 h3 h4 h5 => ?_) hR g a w hok hr he
      cases e with
      | norm =>
        obtain ⟨g2, t2, m2, k1, k2, k3, k4⟩ := q46 hnb y hv t' m' g' K h5 h1 h2 h3
        exact hQ .norm t2 m2 g2 a' w' k1 k2 k3 h4 k4
      | exit i => exact hQ (.exit i) t' m' g' a' w' h1 h2 h3 h4 h5
      | ret => exact absurd rfl h4
    · rename_i hv1 hv2
      obtain ⟨g2, t2, m2, k1, k2, k3, k4⟩ := q46 hnb x hv2 t m g _ h hok hr he
      exact ihy hk.2 sc her t2 m2 K r k4 c hc g0 m0 w0 Q hnb hQ hR g2 a w k1 k2 k3
    · split at her
      · rename_i sx sy hx hy
        simp only [Option.some.injEq] at her; subst her
        obtain ⟨ca, cb, rfl, h1, h2⟩ := q83 hc
        refine wp_seq (ihx hk.1 sx hx t m _ r h ca h1 g0 m0 w0 (Exit.then (Code.wp P cb Q) Q) hnb (fun e t' m' g' a' w' k1 k2 k3 k4 k5 => ?_) (fun t' m' g' a' w' k1 k2 k3 k4 => hR t' m' g' a' w' k1 k2 k3 k4) g a w hok hr he)
        cases e with
        | norm => exact ihy hk.2 sy hy t' m' K r k5 cb h2 g0 m0 w0 Q hnb hQ hR g' a' w' k1 k2 k3
        | exit i => exact hQ (.exit i) t' m' g' a' w' k1 k2 k3 k4 k5
        | ret => exact absurd rfl k4
      · cases her
  | cond q x y ihx ihy =>
    intro hk sc her t m K r h c hc g0 m0 w0 Q hnb hQ hR g a w hok hr he
    simp only [AC.er] at her
    split at her
    · rename_i sx sy hx hy
      simp only [Option.some.injEq] at her; subst her
      obtain ⟨o, ca, cb, rfl, h0, h1, h2⟩ := q7v hc
      have hrel := qe hr.r h0
      simp only [den] at h
      split at h
      · rename_i i
        split at h
        · rename_i b hb
          simp only [ev, hb] at hrel
          cases b with
          | true => rw [qdd hb] at h; exact wp_cond_true hrel.bool_inv (ihx hk.1 sx hx t m K r h ca h1 g0 m0 w0 Q hnb hQ hR g a w hok hr he)
          | false => rw [qdd hb] at h; exact wp_cond_false hrel.bool_inv (ihy hk.2 sy hy t m K r h cb h2 g0 m0 w0 Q hnb hQ hR g a w hok hr he)
        · cases h
      · rename_i b
        simp only [ev] at hrel
        split at h
        · exact wp_cond_true hrel.bool_inv (ihx hk.1 sx hx t m K r h ca h1 g0 m0 w0 Q hnb hQ hR g a w hok hr he)
        · exact wp_cond_false hrel.bool_inv (ihy hk.2 sy hy t m K r h cb h2 g0 m0 w0 Q hnb hQ hR g a w hok hr he)
      · cases h
    · cases her
  | block id x ih =>
    intro hk sc her t m K r h c hc g0 m0 w0 Q hnb hQ hR g a w hok hr he
    simp only [AC.er] at her
    split at her
    · rename_i sx hx
      simp only [Option.some.injEq] at her; subst her
      obtain ⟨ca, rfl, h1⟩ := q57 hc
      simp only [den] at h
      refine wp_block (ih hk sx hx t m _ r h ca h1 g0 m0 w0 (Exit.inBlock id Q) hnb (fun e t' m' g' a' w' k1 k2 k3 k4 k5 => ?_) (fun t' m' g' a' w' k1 k2 k3 k4 => hR t' m' g' a' w' k1 k2 k3 k4) g a w hok hr he)
      cases e with
      | norm => exact hQ .norm t' m' g' a' w' k1 k2 k3 k4 k5
      | exit i =>
        simp only at k5
        simp only [exOf, Exit.inBlock]
        split at k5
        · rename_i hi
          have := Nat.eq_of_beq_eq_true hi
          rw [if_pos this]
          exact hQ .norm t' m' g' a' w' k1 k2 k3 (by simp [exOf]) k5
        · rename_i hi
          rw [if_neg (fun h => by subst h; simp at hi)]
          exact hQ (.exit i) t' m' g' a' w' k1 k2 k3 (by simp [exOf]) k5
      | ret => exact absurd rfl k4
    · cases her
  | exit i =>
    intro _ sc her t m K r h c hc g0 m0 w0 Q hnb hQ hR g a w hok hr he
    simp only [AC.er, Option.some.injEq] at her; subst her
    have := q7x hc; subst this
    exact wp_exit (hQ (.exit i) t m g a w hok hr he (by simp [exOf]) h)
  | ret =>
    intro _ sc her t m K r h c hc g0 m0 w0 Q hnb hQ hR g a w hok hr he
    simp only [AC.er, Option.some.injEq] at her; subst her
    have := q84 hc; subst this
    exact wp_ret (hR t m g a w hok hr he h)
  | view l => intro _ sc her; simp [AC.er] at her
  | sub c0 e =>
    intro hk sc her t m K r h
    simp only [AC.er, Option.some.injEq] at her; subst her
    exact hk t m K r h
theorem q59 (hT : T.ok P) (hm : P.follows .mixedOrders = true) {ac : AC R} (hk : ac.ok P T nt nb KR) {sc : SC} (her : ac.er = some sc) {n : Nat} {t : Env} {m : Mem} {K : Ex → Env → Mem → Option R} {r : R} (h : qmi (den nb KR ac) n t m K = some r) :
    Sem P T nt nb KR (.loop sc) t m K r := by
  intro c hc g0 m0 w0 Q hnb hQ hR g a w hok hr he
  obtain ⟨x, rfl, hx⟩ := q7w hc
  let J : Act → World → Nat → Prop := fun a w n => ∃ t m g, OK g m w ∧ ARel g m w nt t a ∧ Ext g0 m0 w0 g m w ∧ qmi (den nb KR ac) n t m K = some r
  have hmin : ∀ a w, (∃ n, J a w n) → ∃ n, J a w n ∧ ∀ k, J a w k → n ≤ k := fun a w h => qbbx h
  let M : Act → World → Nat := fun a w => open Classical in if h : ∃ n, J a w n then Classical.choose (hmin a w h) else 0
  have hM : ∀ a w, (∃ n, J a w n) → J a w (M a w) ∧ ∀ k, J a w k → M a w ≤ k := by
    intro a w h
    have e : M a w = Classical.choose (hmin a w h) := by simp only [M, dif_pos h]
    rw [e]
    exact Classical.choose_spec (hmin a w h)
  refine wp_loop (fun a w => ∃ n, J a w n) M ⟨n, t, m, g, hok, hr, he, h⟩ (fun a1 w1 hJ => ?_)
  obtain ⟨⟨t1, m1, g1, hok1, hr1, he1, hI1⟩, hleast⟩ := hM a1 w1 hJ
  cases hn : M a1 w1 with
  | zero => rw [hn] at hI1; simp [qmi] at hI1
  | succ k =>
    rw [hn] at hI1
    simp only [qmi] at hI1
    refine qvt hT hm ac hk sc her t1 m1 _ r hI1 x hx g0 m0 w0 (Exit.then (fun a' w' => (∃ n, J a' w' n) ∧ M a' w' < k + 1) Q) hnb (fun e t' m' g' a' w' h1 h2 h3 h4 h5 => ?_) (fun t' m' g' a' w' h1 h2 h3 h4 => hR t' m' g' a' w' h1 h2 h3 h4) g1 a1 w1 hok1 hr1 he1
    cases e with
    | norm =>
      have hJ' : J a' w' k := ⟨t', m', g', h1, h2, h3, h5⟩
      refine ⟨⟨_, hJ'⟩, ?_⟩
      have := (hM a' w' ⟨_, hJ'⟩).2 _ hJ'
      show M a' w' < k + 1
      omega
    | exit id => exact hQ (.exit id) t' m' g' a' w' h1 h2 h3 h4 h5
    | ret => exact absurd rfl h4
end
end Go.Pev
