/- The evaluator's operations, in compact form, and what each does. -/
import Derived.Test.YtnljpfjoboafoaaDoorEv1
namespace Go.Proofs.YtnljpfjoboafoaaDoor.Ev
set_option linter.all false
open Go Go.RowKit

/-- An operand: a slot, or a constant. -/
inductive X where
  | t (n : Nat)
  | c (v : PV)
  deriving Inhabited

def b8 (c : UInt8) : PV := .int .u8 c.toNat
def bytes8 : List PV → Option (List UInt8)
  | [] => some []
  | .int .u8 z :: r => match bytes8 r with | some l => if 0 ≤ z ∧ z < 256 then some (UInt8.ofNat z.toNat :: l) else none | none => none
  | _ => none

inductive COp where
  | mv (x : X)
  | pick (c a b : X)
  | alloc (zs : List PV)
  | box (x : X)
  | build (zs : List PV) (parts : List (Nat × Nat × X))
  | lit (keep : Bool) (sz n : Nat) (zs : List PV) (parts : List (Nat × Nat × X))
  | litr (sz n : Nat) (zs : List PV) (parts : List (Nat × Nat × X))
  | load (agg : Bool) (n : Nat) (a : X)
  | store (n : Nat) (a v : X)
  | chk (x : X)
  | bin (op : BinOp) (x y : X)
  | beq (neg : Bool) (x y : X)
  | snil (neg : Bool) (x : X)
  | inil (neg : Bool) (x : X)
  | aeq (neg : Bool) (ks : List Nat) (x y : X)
  | un (op : UnOp) (x : X)
  | cvt (k : IntKind) (x : X)
  | cvs (x : X)
  | frz (x : X)
  | s2b (rowed : Bool) (x : X)
  | b2s (x : X)
  | cut (sz : Nat) (x : X) (lo hi : Option X)
  | cut0 (sz : Nat) (x : X)
  | fad (off : Nat) (x : X)
  | iad (sz : Nat) (x i : X)
  | idx (x i : X)
  | ext (x : X) (i : Nat)
  | call (refs keep : Bool) (f : Nat) (args : List X)
  | callv (x : X) (args : List X)
  | callw (keep : Bool) (x : X) (args : List X)
  | prt (agg : Bool) (off n : Nat) (x : X)
  | iaa (sz len : Nat) (x i : X)
  | boxc (x : X)
  | clo (f : Nat) (caps : List X)
  | len (s : Bool) (x : X)
  | app (sz bytes : Nat) (x y : X)
  | appr (sz bytes : Nat) (x y : X)
  | min (x y : X)
  | max (x y : X)
  | dif (x y : X)
  | no
  deriving Inhabited

/-- May it lie in one cell? -/
def PV.one : PV → Bool
  | .bool _ | .int _ _ | .str _ | .sl _ _ _ _ | .row _ _ _ _ | .ptr _ _ | .nilp | .ep _ _ | .fn _ _ => true
  | _ => false
def PV.cells? : PV → Option (List PV)
  | .agg cs => if cs.all PV.one then some cs else none
  | p => if p.one then some [p] else none
def PV.of? (agg : Bool) (n : Nat) (l : List PV) : Option PV :=
  if l.length = n then (if agg then some (.agg l) else match l with | [p] => some p | _ => none) else none
def fillP : List PV → List (Nat × Nat × PV) → Option (List PV)
  | cs, [] => some cs
  | cs, (off, size, p) :: r => match p.cells? with
    | some ps => if ps.length = size ∧ off + size ≤ cs.length then fillP (cs.take off ++ ps ++ cs.drop (off + size)) r else none
    | none => none

def intBin (op : BinOp) (k : IntKind) (a : Int) (k' : IntKind) (b : Int) : Option PV :=
  match op with
  | .shl => if b < 0 then none else some (.int k (k.wrap (a * 2 ^ Nat.min b.toNat k.bits)))
  | .shr => if b < 0 then none else some (.int k (a.fdiv (2 ^ Nat.min b.toNat k.bits)))
  | op => if k ≠ k' then none else match op with
    | .add => some (.int k (k.wrap (a + b)))
    | .sub => some (.int k (k.wrap (a - b)))
    | .mul => some (.int k (k.wrap (a * b)))
    | .quo => if b = 0 then none else some (.int k (k.wrap (a.tdiv b)))
    | .rem => if b = 0 then none else some (.int k (a.tmod b))
    | .and => some (.int k (k.wrap (BitVec.ofInt k.bits a &&& BitVec.ofInt k.bits b).toNat))
    | .or => some (.int k (k.wrap (BitVec.ofInt k.bits a ||| BitVec.ofInt k.bits b).toNat))
    | .xor => some (.int k (k.wrap (BitVec.ofInt k.bits a ^^^ BitVec.ofInt k.bits b).toNat))
    | .andNot => some (.int k (k.wrap (BitVec.ofInt k.bits a &&& ~~~ (BitVec.ofInt k.bits b)).toNat))
    | .eql => some (.bool (decide (a = b)))
    | .neq => some (.bool (!decide (a = b)))
    | .lss => some (.bool (decide (a < b)))
    | .leq => some (.bool (decide (a ≤ b)))
    | .gtr => some (.bool (decide (b < a)))
    | .geq => some (.bool (decide (b ≤ a)))
    | _ => none
def strBin (op : BinOp) (a b : List UInt8) : Option PV :=
  match op with
  | .add => if a.length + b.length ≤ 9223372036854775807 then some (.str (a ++ b)) else none
  | .eql => some (.bool (decide (a = b)))
  | .neq => some (.bool (!decide (a = b)))
  | _ => none
def binP (op : BinOp) : PV → PV → Option PV
  | .int k a, .int k' b => intBin op k a k' b
  | .str a, .str b => strBin op a b
  | _, _ => none

/-- Are two plain values, two structs of such values the same? -/
def scEq : PV → PV → Option Bool
  | .bool a, .bool b => some (a == b)
  | .int k a, .int k' b => if k = k' then some (a == b) else none
  | .str a, .str b => some (decide (a = b))
  | _, _ => none
def kindP : PV → Nat
  | .bool _ => 0
  | .int _ _ => 1
  | .str _ => 2
  | _ => 9
def aggEq : List PV → List PV → Option Bool
  | [], [] => some true
  | p :: ps, q :: qs => match scEq p q with | some true => aggEq ps qs | some false => some false | none => none
  | _, _ => none

def X.ev (tm : List PV) : X → PV
  | .t n => tm.getD n .bot
  | .c v => v

/-- The entry that is pointed to. -/
def PV.id? : PV → Option Nat
  | .ptr id _ => some id
  | .row id _ _ _ => some id
  | _ => none
def PV.isBot : PV → Bool
  | .bot => true
  | _ => false
/-- Bounds of a cut. -/
def lowP : Option PV → Option Nat
  | none => some 0
  | some (.int _ i) => if 0 ≤ i then some i.toNat else none
  | some _ => none
def highP (n : Nat) : Option PV → Option Nat
  | none => some n
  | some (.int _ i) => if 0 ≤ i ∧ i ≤ n then some i.toNat else none
  | some _ => none

/-- What is appended: cells without rights. -/
def tailP : PV → Option (Nat × Nat × List PV)
  | .sl _ sz n cs => some (sz, n, cs)
  | .str l => some (1, l.length, l.map b8)
  | .ne0 => some (0, 0, [])
  | _ => none
def roomMax : Nat := 70368744177664
/-- The same, out of a row that is written in place, too. -/
def tailR (H : Hp) : PV → Option (Nat × Nat × List PV)
  | .row id off sz m => match H[id]? with | some (.cells cs) => if off + m * sz ≤ cs.length then some (sz, m, (cs.drop off).take (m * sz)) else none | _ => none
  | p => tailP p

/-- A row lent to a callee that only reads: what it holds, told for as long as the call takes. -/
def PV.lend (H : Hp) : PV → Option PV
  | .row id off sz n => match H[id]? with
    | some (.cells cs) => if off + n * sz ≤ cs.length then (match PV.cleans ((cs.drop off).take (n * sz)) with | some ds => if ds.all PV.one = true then some (.sl .no sz n ds) else none | none => none) else none
    | _ => none
  | p => some (p.ren fun _ => none)
def lendL (H : Hp) : List PV → Option (List PV)
  | [] => some []
  | p :: ps => match p.lend H, lendL H ps with | some q, some qs => some (q :: qs) | _, _ => none
/-- A value that holds no address. -/
def PV.scal0 : PV → Bool
  | .bot | .und | .bool _ | .int _ _ | .str _ => true
  | _ => false
def PV.scal : PV → Bool
  | .tup vs => vs.all PV.scal0
  | p => p.scal0
/-- What a callee leaves, behind what its caller has. -/
def shift (n : Nat) (H : Hp) : Hp := H.map fun | .tok => .tok | .cells cs => .cells (PV.rens (fun j => some (n + j)) cs) | .dead => .dead

def evalOp (call : Nat → List PV → Hp → Option (PV × Hp)) (tm : List PV) (H : Hp) : COp → Option (PV × Hp)
  | .mv x => some (x.ev tm, H)
  | .pick c a b => match c.ev tm with | .bool t => some (if t = true then a.ev tm else b.ev tm, H) | _ => none
  | .alloc zs => some (.ptr H.length 0, H ++ [.cells zs])
  | .box x => match (x.ev tm).cells? with | some cs => some (.ptr H.length 0, H ++ [.cells cs]) | none => none
  | .build zs parts => match fillP zs (parts.map fun (o, s, x) => (o, s, x.ev tm)) with | some cs => some (.agg cs, H) | none => none
  | .lit keep sz n zs parts => match fillP zs (parts.map fun (o, s, x) => (o, s, x.ev tm)) with
    | some cs => match PV.cleans cs with
      | some ds => if ds.length = n * sz ∧ ds.all PV.one = true then (if keep then some (.sl (.tok H.length) sz n ds, H ++ [.tok]) else some (.sl .no sz n ds, H)) else none
      | none => none
    | none => none
  | .load agg n a => match a.ev tm with
    | .ptr id off => match H[id]? with
      | some (.cells cs) => match PV.of? agg n ((cs.drop off).take n) with | some p => some (p, H) | none => none
      | _ => none
    | .ep cs off => match PV.of? agg n ((cs.drop off).take n) with | some p => some (p, H) | none => none
    | _ => none
  | .store n a v => match a.ev tm, (v.ev tm).cells? with
    | .ptr id off, some vc => match H[id]? with
      | some (.cells cs) => if vc.length = n ∧ off + n ≤ cs.length then some (.und, H.set id (.cells (cs.take off ++ vc ++ cs.drop (off + n)))) else none
      | _ => none
    | _, _ => none
  | .chk x => match x.ev tm with | .ptr id off => some (.ptr id off, H) | .ep cs off => some (.ep cs off, H) | .fn f cs => some (.fn f cs, H) | _ => none
  | .bin op x y => match binP op (x.ev tm) (y.ev tm) with | some p => some (p, H) | none => none
  | .beq neg x y => match x.ev tm, y.ev tm with | .bool a, .bool b => some (.bool (neg ^^ (a == b)), H) | _, _ => none
  | .snil neg x => match x.ev tm with | .sl t _ n _ => (if t = .nil then some (.bool (neg ^^ true), H) else if 0 < n then some (.bool (neg ^^ false), H) else none) | .row _ _ _ _ => some (.bool (neg ^^ false), H) | .ne0 => some (.bool (neg ^^ false), H) | _ => none
  | .inil neg x => match x.ev tm with | .ifc t => some (.bool (neg ^^ t), H) | _ => none
  | .aeq neg ks x y => match x.ev tm, y.ev tm with | .agg as, .agg bs => if as.map kindP = ks ∧ bs.length = ks.length then (match aggEq as bs with | some t => some (.bool (neg ^^ t), H) | none => none) else none | _, _ => none
  | .un op x => match op, x.ev tm with | .not, .bool b => some (.bool (!b), H) | .neg, .int k n => some (.int k (k.wrap (0 - n)), H) | _, _ => none
  | .cvt k x => match x.ev tm with | .int _ n => some (.int k (k.wrap n), H) | _ => none
  | .cvs x => match x.ev tm with | .str l => some (.str l, H) | _ => none
  | .frz x => match x.ev tm with
    | .sl (.tok k) sz n cs => match H[k]? with
      | some .tok => if 0 < n then some (.sl (.tok k) sz n cs, H) else none
      | _ => none
    | _ => none
  | .s2b rowed x => match x.ev tm with
    | .str l => if rowed then some (.row H.length 0 1 l.length, H ++ [.cells (l.map b8)]) else some (.sl (.tok H.length) 1 l.length (l.map b8), H ++ [.tok])
    | _ => none
  | .b2s x => match x.ev tm with
    | .sl _ sz n cs => if n = 0 then some (.str [], H) else if sz = 1 then (match bytes8 cs with | some l => some (.str l, H) | none => none) else none
    | .row id off 1 n => match H[id]? with
      | some (.cells cs) => if off + n ≤ cs.length then (match bytes8 ((cs.drop off).take n) with | some l => some (.str l, H) | none => none) else none
      | _ => none
    | _ => none
  | .cut sz' x lo hi => match x.ev tm with
    | .str l => match highP l.length (hi.map (X.ev tm)) with
      | some h => match lowP (lo.map (X.ev tm)) with | some b => if b ≤ h ∧ sz' = 0 then some (.str ((l.take h).drop b), H) else none | none => none
      | none => none
    | .sl _ sz n cs => match highP n (hi.map (X.ev tm)) with
      | some h => match lowP (lo.map (X.ev tm)) with | some b => if b ≤ h ∧ (n = 0 ∨ sz = sz') ∧ 0 < sz' then some (.sl .no sz (h - b) ((cs.take (h * sz)).drop (b * sz)), H) else none | none => none
      | none => none
    | .row id off sz n => match highP n (hi.map (X.ev tm)) with
      | some h => match lowP (lo.map (X.ev tm)) with | some b => if b ≤ h ∧ sz = sz' ∧ 0 < sz' then some (if b < h then .row id (off + b * sz) sz (h - b) else .sl .no sz 0 [], H) else none | none => none
      | none => none
    | _ => none
  | .cut0 sz x => match x.ev tm with | .sl _ _ _ _ => some (.sl (.tok H.length) sz 0 [], H ++ [.tok]) | .row _ _ _ _ => some (.sl (.tok H.length) sz 0 [], H ++ [.tok]) | _ => none
  | .fad off x => match x.ev tm with | .ptr id o => some (.ptr id (o + off), H) | .ep cs o => some (.ep cs (o + off), H) | _ => none
  | .iad sz x i => match x.ev tm, i.ev tm with
    | .sl _ sz' n cs, .int _ z => if sz = sz' ∧ 0 ≤ z ∧ z < n then some (.ep ((cs.drop (z.toNat * sz)).take sz) 0, H) else none
    | .row id off sz' n, .int _ z => if sz = sz' ∧ 0 ≤ z ∧ z < n then some (.ptr id (off + z.toNat * sz), H) else none
    | _, _ => none
  | .idx x i => match x.ev tm, i.ev tm with
    | .str l, .int _ z => if 0 ≤ z then (match l[z.toNat]? with | some c => some (b8 c, H) | none => none) else none
    | _, _ => none
  | .ext x i => match x.ev tm with | .tup vs => (match vs[i]? with | some p => some (p, H) | none => none) | _ => none
  | .call refs keep f args => if refs then (if keep then (match lendL H (args.map (X.ev tm)) with
      | some ps => (match call f ps [] with | some (r, _) => if r.scal = true then some (r, H) else none | none => none)
      | none => none) else call f (args.map (X.ev tm)) H) else
    match call f (PV.rens (fun _ => none) (args.map (X.ev tm))) [] with
    | some (r, H') => if keep then some (r.ren fun j => some (H.length + j), H ++ shift H.length H') else some (r.ren fun _ => none, H)
    | none => none
  | .callv x args => match x.ev tm with | .fn f caps => call f (args.map (X.ev tm) ++ caps) H | _ => none
  | .callw keep x args => match x.ev tm with
    | .fn f caps => match call f (PV.rens (fun _ => none) (args.map (X.ev tm) ++ caps)) [] with
      | some (r, H') => if keep then some (r.ren fun j => some (H.length + j), H ++ shift H.length H') else some (r.ren fun _ => none, H)
      | none => none
    | _ => none
  | .prt agg off n x => match x.ev tm with | .agg cs => (match PV.of? agg n ((cs.drop off).take n) with | some p => some (p, H) | none => none) | _ => none
  | .iaa sz len x i => match x.ev tm, i.ev tm with
    | .ptr id o, .int _ z => if 0 ≤ z ∧ z < len then some (.ptr id (o + z.toNat * sz), H) else none
    | .ep cs o, .int _ z => if 0 ≤ z ∧ z < len then some (.ep cs (o + z.toNat * sz), H) else none
    | _, _ => none
  | .boxc x => match (x.ev tm).cells? with | some cs => (match PV.cleans cs with | some ds => if ds.all PV.one = true then some (.ep ds 0, H) else none | none => none) | none => none
  | .clo f caps => some (.fn f (caps.map (X.ev tm)), H)
  | .len s x => match s, x.ev tm with | true, .str l => some (.int .i64 l.length, H) | false, .sl _ _ n _ => some (.int .i64 n, H) | false, .row _ _ _ n => some (.int .i64 n, H) | _, _ => none
  | .app sz bytes x y => match x.ev tm, tailP (y.ev tm) with
    | .sl t sz0 n cs, some (sz', m, ds) => if (m = 0 ∨ sz' = sz) ∧ (sz0 = sz ∨ sz0 = 0) ∧ (n + m) * bytes ≤ roomMax then (match t with
      | .nil => some (.sl (.tok H.length) sz (n + m) (cs ++ ds), H ++ [.tok])
      | .tok k => (match H[k]? with | some .tok => some (.sl (.tok H.length) sz (n + m) (cs ++ ds), H.set k .dead ++ [.tok]) | _ => none)
      | .no => none) else none
    | _, _ => none
  | .litr sz n zs parts => match fillP zs (parts.map fun (o, s, x) => (o, s, x.ev tm)) with
    | some cs => if cs.length = n * sz ∧ cs.all PV.one = true then some (.row H.length 0 sz n, H ++ [.cells cs]) else none
    | none => none
  | .appr sz bytes x y => match tailR H (y.ev tm) with
    | some (sz', m, ds) => if (m = 0 ∨ sz' = sz) ∧ ds.all PV.one = true then (match x.ev tm with
      | .row id off sz0 n => (match H[id]? with
        | some (.cells cs) => if sz0 = sz ∧ off = 0 ∧ n * sz = cs.length ∧ cs.all PV.one = true ∧ (n + m) * bytes ≤ roomMax then some (.row H.length 0 sz (n + m), H.set id .dead ++ [.cells (cs ++ ds)]) else none
        | _ => none)
      | .sl t sz0 n cs => if n = 0 ∧ (sz0 = sz ∨ sz0 = 0) ∧ m * bytes ≤ roomMax then (if m = 0 then some (.sl t sz0 n cs, H) else (match t with
        | .nil => some (.row H.length 0 sz m, H ++ [.cells ds])
        | .tok k => (match H[k]? with | some .tok => some (.row H.length 0 sz m, H.set k .dead ++ [.cells ds]) | _ => none)
        | .no => none)) else none
      | _ => none) else none
    | none => none
  | .min x y => match x.ev tm, y.ev tm with | .int k a, .int k' b => if k = k' then some (.int k (if b < a then b else a), H) else none | _, _ => none
  | .max x y => match x.ev tm, y.ev tm with | .int k a, .int k' b => if k = k' then some (.int k (if a < b then b else a), H) else none | _, _ => none
  | .dif x y => if (x.ev tm).isBot = true ∨ (y.ev tm).isBot = true then none else match (x.ev tm).id?, (y.ev tm).id? with | some a, some b => if a ≠ b then some (.und, H) else none | _, _ => some (.und, H)
  | .no => none
end Go.Proofs.YtnljpfjoboafoaaDoor.Ev
