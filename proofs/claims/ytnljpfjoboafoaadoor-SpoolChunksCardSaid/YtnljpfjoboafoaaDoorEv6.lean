/- The model's operations made compact, and that the evaluator tells what they do. -/
import Derived.Test.YtnljpfjoboafoaaDoorEv5
namespace Go.Proofs.YtnljpfjoboafoaaDoor.Ev
set_option linter.all false
open Go Go.RowKit

def isAggD : TypeDesc → Bool
  | .struct _ | .array _ _ => true
  | _ => false
def isSrcD : TypeDesc → Bool
  | .slice _ | .string => true
  | _ => false
def isU8 (P : Program) (e : TypeId) : Bool := match P.underlying e with | some (.int .u8) => true | _ => false
def placesOf (P : Program) : List Field → Option (List (Nat × Nat))
  | [] => some []
  | f :: r => match P.info? f.type, placesOf P r with | some i, some l => some ((f.offset, i.size) :: l) | _, _ => none
/-- Fields that are numbers, truth values or texts, one cell each. -/
def flatF (P : Program) : Nat → List Field → Bool
  | _, [] => true
  | k, f :: r => f.name != "_" && f.offset == k && (match P.underlying f.type with | some .bool | some (.int _) | some .string => true | _ => false) && flatF P (k + 1) r
def kindsF (P : Program) (fs : List Field) : List Nat := fs.map fun f => match P.underlying f.type with | some .bool => 0 | some (.int _) => 1 | some .string => 2 | _ => 8
def isNilI : Operand → Bool
  | .const .nilIface => true
  | _ => false
def isNilC : Operand → Bool
  | .const (.slice none 0 0) => true
  | _ => false

def isZ : Operand → Bool
  | .const (.int _ n) => n == 0
  | _ => false
theorem isZ_eval {x : Operand} (h : isZ x = true) (a : Act) : ∃ k, a.eval x = .int k 0 := by
  unfold isZ at h
  split at h
  · rename_i k n
    have : n = 0 := by simpa using h
    subst this
    exact ⟨k, rfl⟩
  · cases h
def comp (P : Program) (fl : Nat) (o : Oper) : COp :=
  match o.op with
  | .move x | .assign x => .mv (cx x)
  | .pick c a b => .pick (cx c) (cx a) (cx b)
  | .alloc T => match P.info? T with | some i => (match i.zero with | some z => .alloc (z.cells.toList.map cvc) | none => .no) | none => .no
  | .box _ x => if fl == 4 then .boxc (cx x) else .box (cx x)
  | .build T ps => match P.info? T, P.underlying T with
    | some i, some (.struct fields) => (match i.zero, placesOf P fields.toList with
      | some z, some pl => (match ps.toList.mapM (fun (i, x) => (pl[i]?).map fun (o, s) => (o, s, cx x)) with | some cp => .build (z.cells.toList.map cvc) cp | none => .no)
      | _, _ => .no)
    | _, _ => .no
  | .buildSlice T n ps => match P.underlying T with
    | some (.slice e) => (match P.info? e with
      | some i => (match i.zero with
        | some z => if n * i.size ≤ 2 ^ 24 ∧ 0 < i.size then (match ps.toList.mapM (fun (j, x) => (some (j * i.size, i.size)).map fun (o, s) => (o, s, cx x)) with
          | some cp => if fl == 1 then .litr i.size n ((List.range (n * i.size)).map fun j => cvc (z.cells[j % z.cells.size]!)) cp else .lit (fl == 2) i.size n ((List.range (n * i.size)).map fun j => cvc (z.cells[j % z.cells.size]!)) cp
          | none => .no) else .no
        | none => .no)
      | none => .no)
    | _ => .no
  | .load T a => match P.underlying T, P.info? T with | some d, some i => .load (isAggD d) (if isAggD d then i.size else 1) (cx a) | _, _ => .no
  | .store T a v => match P.info? T with | some i => .store i.size (cx a) (cx v) | none => .no
  | .nilCheck x => .chk (cx x)
  | .binOp op T x y _ => match op, P.underlying T with
    | .eql, some .bool => .beq false (cx x) (cx y)
    | .neq, some .bool => .beq true (cx x) (cx y)
    | .eql, some (.slice _) => if isNilC y then .snil false (cx x) else .no
    | .neq, some (.slice _) => if isNilC y then .snil true (cx x) else .no
    | .eql, some (.interface _) => if isNilI y then .inil false (cx x) else .no
    | .neq, some (.interface _) => if isNilI y then .inil true (cx x) else .no
    | .eql, some (.struct fs) => if flatF P 0 fs.toList && !P.stoodInHeld T && !P.eqGuardType P.depth T then .aeq false (kindsF P fs.toList) (cx x) (cx y) else .no
    | .neq, some (.struct fs) => if flatF P 0 fs.toList && !P.stoodInHeld T && !P.eqGuardType P.depth T then .aeq true (kindsF P fs.toList) (cx x) (cx y) else .no
    | op, _ => .bin op (cx x) (cx y)
  | .unOp op _ x => .un op (cx x)
  | .convert s d x => match P.underlying s, P.underlying d with
    | some .string, some .string => .cvs (cx x)
    | some (.int _), some (.int k) => .cvt k (cx x)
    | some .string, some (.slice e) => if (isU8 P e && marks) = true then .s2b (fl == 1) (cx x) else .no
    | some (.slice e), some .string => if isU8 P e then .b2s (cx x) else .no
    | some (.slice _), some (.slice e) => if (s == d && (isU8 P e && marks)) = true then .frz (cx x) else .no
    | _, _ => .no
  | .slice T x lo hi mx => match mx, P.underlying T with
    | none, some .string => .cut 0 (cx x) (lo.map cx) (hi.map cx)
    | none, some (.slice e) => (match P.info? e with | some i => if 0 < i.size then .cut i.size (cx x) (lo.map cx) (hi.map cx) else .no | none => .no)
    | some m, some (.slice e) => if (lo.isNone && hi.any isZ && isZ m) = true then (match P.info? e with | some i => .cut0 i.size (cx x) | none => .no) else .no
    | _, _ => .no
  | .fieldAddr S x f => match P.underlying S with
    | some (.struct fields) => (match fields[f]? with | some fd => (match P.info? fd.type with | some i => if 0 < i.size then .fad fd.offset (cx x) else .no | none => .no) | none => .no)
    | _ => .no
  | .indexAddr T x i => match P.underlying T with
    | some (.slice e) => (match P.info? e with | some ie => .iad ie.size (cx x) (cx i) | none => .no)
    | some (.array len e) => (match P.info? e with | some ie => .iaa ie.size len (cx x) (cx i) | none => .no)
    | _ => .no
  | .field T x f => match P.underlying T with
    | some (.struct fields) => (match fields[f]? with | some fd => (match P.underlying fd.type, P.info? fd.type with | some d, some i => .prt (isAggD d) fd.offset (if isAggD d then i.size else 1) (cx x) | _, _ => .no) | none => .no)
    | _ => .no
  | .index T x i => match P.underlying T with | some .string => .idx (cx x) (cx i) | _ => .no
  | .extract t i => .ext (cx t) i
  | .makeFunc (.func f) first caps => if first.isEmpty then .clo f (caps.toList.map cx) else .no
  | .call c => match c.callee with
    | .builtin .len => (match c.argTypes[0]?, c.args.toList with
      | some T, [x] => (match P.underlying T with | some .string => .len true (cx x) | some (.slice _) => .len false (cx x) | _ => .no)
      | _, _ => .no)
    | .builtin .append => (match c.argTypes[0]?, c.argTypes[1]?, c.args.toList with
      | some T, some U, [x, y] => (match P.underlying T, P.underlying U with
        | some (.slice e), some d => if isSrcD d then (match P.info? e with | some i => if (i.zero.any fun z => z.cells.size == i.size) = true ∧ 0 < i.size ∧ 0 < i.bytes then (if fl == 1 then .appr i.size i.bytes (cx x) (cx y) else .app i.size i.bytes (cx x) (cx y)) else .no | none => .no) else .no
        | _, _ => .no)
      | _, _, _ => .no)
    | .builtin .min => (match c.args.toList with | [x, y] => .min (cx x) (cx y) | _ => .no)
    | .builtin .max => (match c.args.toList with | [x, y] => .max (cx x) (cx y) | _ => .no)
    | .builtin _ => .no
    | .value (.func f) => .call (fl == 3 || fl == 6) (fl == 2 || fl == 6) f (c.args.toList.map cx)
    | .value x => if fl == 4 || fl == 5 then .callw (fl == 5) (cx x) (c.args.toList.map cx) else .callv (cx x) (c.args.toList.map cx)
    | .invoke _ _ => .no
  | _ => .no

section
variable {P : Program} {g : Gh} {H : Hp} {w : World} {tm : List PV} {a : Act} {call : Nat → List PV → Hp → Option (PV × Hp)}

theorem snd_pick (hI : Inv g H w) (hx : ∀ x, RV g H ((cx x).ev tm) (a.eval x)) {c y z : Operand} {r : PV} {H' : Hp} (h : evalOp call tm H (.pick (cx c) (cx y) (cx z)) = some (r, H')) :
    Runs P g H w (do pure (Next.value (if ← asBool (a.eval c) then a.eval y else a.eval z))) r H' := by
  simp only [evalOp] at h
  have hc := hx c
  generalize (cx c).ev tm = p at h hc
  cases p <;> simp only [Option.some.injEq, Prod.mk.injEq, reduceCtorEq] at h
  rename_i t
  obtain ⟨rfl, rfl⟩ := h
  simp only [RV] at hc
  rw [hc]
  refine Runs.same (v := if t = true then a.eval y else a.eval z) hI (by simp [asBool]) ?_
  cases t
  · exact hx z
  · exact hx y

theorem run_zero {T : TypeId} {i : TypeInfo} {z : Value} (hi : P.info? T = some i) (hz : i.zero = some z) : (zeroValue T).run P w = .ok z w := by
  simp [zeroValue, typeInfo, hi, hz]
theorem snd_alloc (hI : Inv g H w) {T : TypeId} {i : TypeInfo} {z : Value} (hi : P.info? T = some i) (hz : i.zero = some z) :
    Runs P g H w (do pure (Next.value (← Instr.alloc T true (.tuple #[])))) (.ptr H.length 0) (H ++ [.cells (z.cells.toList.map cvc)]) := by
  obtain ⟨g', h1, h2, h3⟩ := grow_obj (w' := { w with heap := w.heap.push (.cells z.cells T) }) hI rfl rfl rfl rfl (RVs.of_RCs (RCs_map z.cells.toList)) (fun i v h => by simpa using h) (by simp) (.inl rfl)
  refine Runs.of (v := .pointer (some ⟨w.heap.size, 0, none⟩)) (run_v_ok ?_) h1 ?_ h2
  · simp [Instr.alloc, run_zero (w := w) hi hz, newVar, newRow]
  · simp only [RV]
    exact ⟨by simp, _, _, _, h3, rfl⟩
theorem snd_box (hI : Inv g H w) (T : TypeId) {p : PV} {v : Value} {cs : List PV} (hv : RV g H p v) (hc : p.cells? = some cs) :
    Runs P g H w (do pure (Next.value (← Instr.box T v))) (.ptr H.length 0) (H ++ [.cells cs]) := by
  obtain ⟨h0, _⟩ := cells_ok hc hv
  obtain ⟨g', h1, h2, h3⟩ := grow_obj (w' := { w with heap := w.heap.push (.cells v.cells T) }) hI rfl rfl rfl rfl h0 (fun i v h => by simpa using h) (by simp) (.inl rfl)
  refine Runs.of (v := .pointer (some ⟨w.heap.size, 0, none⟩)) (run_v_ok ?_) h1 ?_ h2
  · simp [Instr.box, newVar, newRow]
  · simp only [RV]
    exact ⟨by simp, _, _, _, h3, rfl⟩

theorem snd_boxc (hI : Inv g H w) (T : TypeId) {p : PV} {v : Value} {cs ds : List PV} (hv : RV g H p v) (hc : p.cells? = some cs) (hd : PV.cleans cs = some ds) (hone : ds.all PV.one = true) :
    Runs P g H w (do pure (Next.value (← Instr.box T v))) (.ep ds 0) H := by
  obtain ⟨h0, _⟩ := cells_ok hc hv
  have hrc := PV.cleans_RCs hd h0
  obtain ⟨g', h1, h2, h3⟩ := grow_none (w' := { w with heap := w.heap.push (.cells v.cells T) }) hI rfl rfl rfl rfl v.cells.toList (fun i v h => by simpa using h) (ones_okC hone hrc)
  refine Runs.of (v := .pointer (some ⟨w.heap.size, 0, none⟩)) (run_v_ok ?_) h1 ?_ h2
  · simp [Instr.box, newVar, newRow]
  · simp only [RV, RC]
    exact ⟨w.heap.size, 0, _, rfl, h3, hrc.mono h2.σ⟩

theorem run_places : ∀ (fs : List Field) (pl : List (Nat × Nat)), placesOf P fs = some pl → (fs.mapM fun f => (do pure (f.offset, ← sizeOf f.type) : Sem (Nat × Nat))).run P w = .ok pl w
  | [], pl, h => by simp only [placesOf, Option.some.injEq] at h; subst h; simp
  | f :: r, pl, h => by
    simp only [placesOf] at h
    split at h
    · rename_i i l h1 h2
      cases h
      have h3 := run_places r l h2
      have h4 : (sizeOf f.type).run P w = .ok i.size w := by simp [sizeOf, typeInfo, h1]
      simp only [List.mapM_cons, Sem.run_bind, h3, h4, Result.andThen_ok, Sem.run_pure]
    · cases h
theorem snd_build (hI : Inv g H w) (hx : ∀ x, RV g H ((cx x).ev tm) (a.eval x)) {T : TypeId} {i : TypeInfo} {fields : Array Field} {z : Value} {pl : List (Nat × Nat)} {ps : Array (Nat × Operand)} {cp : List (Nat × Nat × X)} {cs : List PV}
    (hi : P.info? T = some i) (ht : P.underlying T = some (.struct fields)) (hz : i.zero = some z) (hpl : placesOf P fields.toList = some pl)
    (hm : (ps.toList.mapM fun (i, x) => (pl[i]?).map fun (o, s) => (o, s, cx x)) = some cp) (hf : fillP (z.cells.toList.map cvc) (cp.map fun (o, s, x) => (o, s, x.ev tm)) = some cs) :
    Runs P g H w (do pure (Next.value (← Instr.build T (ps.map fun (i, x) => (i, a.eval x))))) (.agg cs) H := by
  obtain ⟨cv, h1, h2⟩ := fill_ok (g := g) (H := H) (fun i => pl[i]?) a.eval (X.ev tm) hx ps.toList cp _ cs z.cells hm (RVs.of_RCs (RCs_map z.cells.toList)) hf
  refine Runs.same (v := .agg cv) hI (run_v_ok ?_) (by simp only [RV]; exact ⟨cv.toList, rfl, h2⟩)
  have hp := run_places (P := P) (w := w) fields.toList pl hpl
  simp only [Instr.build, Sem.run_bind, run_zero (w := w) hi hz, Result.andThen_ok, run_underlying ht]
  rw [← Array.toArray_toList (xs := fields), List.mapM_toArray]
  simp only [Sem.run_map, hp, Result.andThen_ok]
  have h3 : (fun (x : Nat) => pl.toArray[x]?) = fun (i : Nat) => pl[i]? := by funext x; simp
  have h4 : (ps.map fun (x : Nat × Operand) => (x.1, a.eval x.2)).toList = ps.toList.map fun (i, x) => (i, a.eval x) := by simp
  rw [h3, h4, h1]
  rfl
end
end Go.Proofs.YtnljpfjoboafoaaDoor.Ev
