/- That the evaluator tells what the operations do: numbers, strings, slices' bounds. -/
import Derived.Test.YtgilfigaimndkaaDoorEv7
import Derived.WalkSpells
import Derived.Lib.SlBytesConst
import Derived.Laws.BytesString
namespace Go.Proofs.YtgilfigaimndkaaDoor.Ev
set_option linter.all false
open Go Go.RowKit
section
variable {P : Program} {g : Gh} {H : Hp} {w : World} {tm : List PV} {a : Act} {call : Nat → List PV → Hp → Option (PV × Hp)}

theorem snd_chk (hI : Inv g H w) {o : Oper} {x : Operand} (ho : o.op = .nilCheck x) (hx : RV g H ((cx x).ev tm) (a.eval x)) {r : PV} {H' : Hp}
    (h : evalOp call tm H (.chk (cx x)) = some (r, H')) : Runs P g H w (execOp a.eval o) r H' := by
  simp only [evalOp] at h
  generalize (cx x).ev tm = p at h hx
  have fin : r = p → H' = H → (execOp a.eval o).run P w = .ok (.value (a.eval x)) w → Runs P g H w (execOp a.eval o) r H' := fun h1 h2 h3 => by
    subst h1; subst h2
    exact Runs.same hI h3 hx
  cases p <;> simp only [Option.some.injEq, Prod.mk.injEq, reduceCtorEq] at h
  · obtain ⟨h1, h2⟩ := h
    refine fin h1.symm h2.symm ?_
    simp only [RV] at hx
    obtain ⟨_, _, _, _, _, hv⟩ := hx
    simp [execOp, ho, hv]
  · obtain ⟨h1, h2⟩ := h
    refine fin h1.symm h2.symm ?_
    simp only [RV, RC] at hx
    obtain ⟨_, _, _, hv, _⟩ := hx
    simp [execOp, ho, hv]
  · obtain ⟨h1, h2⟩ := h
    refine fin h1.symm h2.symm ?_
    simp only [RV] at hx
    obtain ⟨_, hv, _⟩ := hx
    simp [execOp, ho, hv]

theorem eqGuard_ok {op : BinOp} {t : TypeId} {x y : Operand} {u v : Value} (h : u.oneCell' = true) (h' : u ≠ .nilIface) : (eqGuard op t x y u v).run P w = .ok () w := by
  have : eqGuard op t x y u v = pure () := by
    cases u <;> first | (simp [Value.oneCell'] at h; done) | (exact absurd rfl h') | (cases op <;> rfl)
  rw [this]; rfl

theorem snd_bin (hI : Inv g H w) {op : BinOp} {T : TypeId} {x y : Operand} {p q : PV} {u v : Value} (hu : RV g H p u) (hv : RV g H q v) {r : PV} (h : binP op p q = some r) :
    Runs P g H w (do pure (Next.value (← (do eqGuard op T x y u v; binOp op T u v : Sem Value)))) r H := by
  have fin : ∀ {z : Value}, u.oneCell' = true → u ≠ .nilIface → (binOp op T u v).run P w = .ok z w → RV g H r z → Runs P g H w (do pure (Next.value (← (do eqGuard op T x y u v; binOp op T u v : Sem Value)))) r H := fun h1 h2 h3 h4 =>
    Runs.same hI (run_v_ok (by simp only [Sem.run_bind, eqGuard_ok h1 h2, Result.andThen_ok, h3])) h4
  cases p with
  | int k n =>
    cases q with
    | int k' m =>
      simp only [RV] at hu hv
      subst hu; subst hv
      simp only [binP, intBin] at h
      cases op with
      | shl =>
        simp only at h
        split at h
        · cases h
        · rename_i hc
          cases h
          exact fin (z := .int k (k.wrap (n * 2 ^ Nat.min m.toNat k.bits))) rfl (by simp) (by rw [binOp_shl]; unfold Op.shift; rw [if_neg hc]; rfl) (by simp only [RV])
      | shr =>
        simp only at h
        split at h
        · cases h
        · rename_i hc
          cases h
          exact fin (z := .int k (n.fdiv (2 ^ Nat.min m.toNat k.bits))) rfl (by simp) (by rw [binOp_shr]; unfold Op.shift; rw [if_neg hc]; rfl) (by simp only [RV])
      | quo =>
        simp only at h
        split at h
        · cases h
        · rename_i hk
          have hk : k = k' := by simpa using hk
          subst hk
          split at h
          · cases h
          · rename_i hm
            cases h
            exact fin (z := .int k (k.wrap (n.tdiv m))) rfl (by simp) (by rw [binOp_quo]; unfold Op.intDiv; rw [if_neg hm]; rfl) (by simp only [RV])
      | rem =>
        simp only at h
        split at h
        · cases h
        · rename_i hk
          have hk : k = k' := by simpa using hk
          subst hk
          split at h
          · cases h
          · rename_i hm
            cases h
            exact fin (z := .int k (n.tmod m)) rfl (by simp) (by rw [binOp_rem]; unfold Op.intDiv; rw [if_neg hm]; rfl) (by simp only [RV])
      | eql =>
        simp only at h
        split at h
        · cases h
        · rename_i hk
          have hk : k = k' := by simpa using hk
          subst hk
          cases h
          exact fin (z := .bool (n == m)) rfl (by simp) (by rw [binOp_eql]; rfl) (by simp only [RV, Value.bool.injEq]; rw [Bool.eq_iff_iff]; simp)
      | neq =>
        simp only at h
        split at h
        · cases h
        · rename_i hk
          have hk : k = k' := by simpa using hk
          subst hk
          cases h
          exact fin (z := .bool (n != m)) rfl (by simp) (by rw [binOp_neq]; rfl) (by simp only [RV, Value.bool.injEq]; rw [Bool.eq_iff_iff]; simp)
      | add =>
        simp only at h
        split at h
        · cases h
        · rename_i hk
          have hk : k = k' := by simpa using hk
          subst hk
          cases h
          exact fin (z := .int k (k.wrap (n + m))) rfl (by simp) (by rw [binOp_add]; rfl) (by simp only [RV])
      | sub =>
        simp only at h
        split at h
        · cases h
        · rename_i hk
          have hk : k = k' := by simpa using hk
          subst hk
          cases h
          exact fin (z := .int k (k.wrap (n - m))) rfl (by simp) (by rw [binOp_sub]; rfl) (by simp only [RV])
      | mul =>
        simp only at h
        split at h
        · cases h
        · rename_i hk
          have hk : k = k' := by simpa using hk
          subst hk
          cases h
          exact fin (z := .int k (k.wrap (n * m))) rfl (by simp) (by rw [binOp_mul]; rfl) (by simp only [RV])
      | and =>
        simp only at h
        split at h
        · cases h
        · rename_i hk
          have hk : k = k' := by simpa using hk
          subst hk
          cases h
          exact fin (z := .int k (k.wrap (BitVec.ofInt k.bits n &&& BitVec.ofInt k.bits m).toNat)) rfl (by simp) (by rw [binOp_and]; rfl) (by simp only [RV])
      | or =>
        simp only at h
        split at h
        · cases h
        · rename_i hk
          have hk : k = k' := by simpa using hk
          subst hk
          cases h
          exact fin (z := .int k (k.wrap (BitVec.ofInt k.bits n ||| BitVec.ofInt k.bits m).toNat)) rfl (by simp) (by rw [binOp_or]; rfl) (by simp only [RV])
      | xor =>
        simp only at h
        split at h
        · cases h
        · rename_i hk
          have hk : k = k' := by simpa using hk
          subst hk
          cases h
          exact fin (z := .int k (k.wrap (BitVec.ofInt k.bits n ^^^ BitVec.ofInt k.bits m).toNat)) rfl (by simp) (by rw [binOp_xor]; rfl) (by simp only [RV])
      | andNot =>
        simp only at h
        split at h
        · cases h
        · rename_i hk
          have hk : k = k' := by simpa using hk
          subst hk
          cases h
          exact fin (z := .int k (k.wrap (BitVec.ofInt k.bits n &&& ~~~ (BitVec.ofInt k.bits m)).toNat)) rfl (by simp) (by rw [binOp_andNot]; rfl) (by simp only [RV])
      | lss =>
        simp only at h
        split at h
        · cases h
        · rename_i hk
          have hk : k = k' := by simpa using hk
          subst hk
          cases h
          exact fin (z := .bool (decide (n < m))) rfl (by simp) (by rw [binOp_lss]; rfl) (by simp only [RV])
      | leq =>
        simp only at h
        split at h
        · cases h
        · rename_i hk
          have hk : k = k' := by simpa using hk
          subst hk
          cases h
          exact fin (z := .bool (decide (n ≤ m))) rfl (by simp) (by rw [binOp_leq]; rfl) (by simp only [RV])
      | gtr =>
        simp only at h
        split at h
        · cases h
        · rename_i hk
          have hk : k = k' := by simpa using hk
          subst hk
          cases h
          exact fin (z := .bool (decide (m < n))) rfl (by simp) (by rw [binOp_gtr]; rfl) (by simp only [RV])
      | geq =>
        simp only at h
        split at h
        · cases h
        · rename_i hk
          have hk : k = k' := by simpa using hk
          subst hk
          cases h
          exact fin (z := .bool (decide (m ≤ n))) rfl (by simp) (by rw [binOp_geq]; rfl) (by simp only [RV])
    | _ => simp [binP] at h
  | str l =>
    cases q with
    | str l' =>
      simp only [RV] at hu hv
      subst hu; subst hv
      simp only [binP, strBin] at h
      have hsz : ∀ l : List UInt8, (⟨l.toArray⟩ : ByteArray).size = l.length := fun l => by simp [ByteArray.size]
      cases op with
      | add =>
        simp only at h
        split at h
        · rename_i hc
          cases h
          refine fin (z := .string (⟨l.toArray⟩ ++ ⟨l'.toArray⟩)) rfl (by simp) ?_ ?_
          · have : ¬ (((l.length + l'.length : Nat) : Int) > IntKind.i64.max) := by rw [IntKind.max_i64]; omega
            simp only [binOp, Op.stringOp, hsz]
            rw [if_neg this]
            rfl
          · simp only [RV, Value.string.injEq]
            rw [ByteArray.ext_iff]
            simp
        · cases h
      | eql =>
        cases h
        refine fin (z := .bool ((⟨l.toArray⟩ : ByteArray).toList == (⟨l'.toArray⟩ : ByteArray).toList)) rfl (by simp) rfl ?_
        simp only [RV, Value.bool.injEq, ByteArray.toList_eq]
        rw [Bool.eq_iff_iff]
        simp
      | neq =>
        cases h
        refine fin (z := .bool (!((⟨l.toArray⟩ : ByteArray).toList == (⟨l'.toArray⟩ : ByteArray).toList))) rfl (by simp) rfl ?_
        simp only [RV, Value.bool.injEq, ByteArray.toList_eq]
        rw [Bool.eq_iff_iff]
        simp
      | _ => cases h
    | _ => simp [binP] at h
  | _ => simp [binP] at h

theorem snd_beq (hI : Inv g H w) {T : TypeId} (ht : P.underlying T = some .bool) {op : BinOp} {neg : Bool} (hop : (op = .eql ∧ neg = false) ∨ (op = .neq ∧ neg = true)) {x y : Operand} {b c : Bool} :
    Runs P g H w (do pure (Next.value (← (do eqGuard op T x y (.bool b) (.bool c); binOp op T (.bool b) (.bool c) : Sem Value)))) (.bool (neg ^^ (b == c))) H := by
  have he : (Op.equal T (.bool b) (.bool c)).run P w = .ok (b == c) w := by
    rw [show ∀ u v, Op.equal T u v = Op.equalIn (9999 + 1) T u v from fun _ _ => rfl, Op.equalIn]
    simp only [Sem.run_bind, run_underlying ht, Result.andThen_ok]
    rfl
  rcases hop with ⟨rfl, rfl⟩ | ⟨rfl, rfl⟩
  · refine Runs.same hI (run_v_ok (v := .bool (b == c)) ?_) (by simp only [RV]; cases b <;> cases c <;> rfl)
    simp only [Sem.run_bind, eqGuard_ok (P := P) (w := w) (u := .bool b) rfl (by simp), Result.andThen_ok, binOp, he]
    rfl
  · refine Runs.same hI (run_v_ok (v := .bool (!(b == c))) ?_) (by simp only [RV]; cases b <;> cases c <;> rfl)
    simp only [Sem.run_bind, eqGuard_ok (P := P) (w := w) (u := .bool b) rfl (by simp), Result.andThen_ok, binOp, he]
    rfl
theorem snd_snil (hI : Inv g H w) {T e : TypeId} (ht : P.underlying T = some (.slice e)) {op : BinOp} {neg : Bool} (hop : (op = .eql ∧ neg = false) ∨ (op = .neq ∧ neg = true)) {x y : Operand} {p : PV} {u : Value} (hu : RV g H p u)
    {r : PV} {H' : Hp} (h : (match (generalizing := false) p with | .sl t _ n _ => (if t = .nil then some (.bool (neg ^^ true), H) else if 0 < n then some (.bool (neg ^^ false), H) else none) | _ => none) = some (r, H')) :
    Runs P g H w (do pure (Next.value (← (do eqGuard op T x y u (.slice none 0 0); binOp op T u (.slice none 0 0) : Sem Value)))) r H' := by
  have key : ∀ (A : Option Addr) (n c : Nat), u = .slice A n c → Runs P g H w (do pure (Next.value (← (do eqGuard op T x y u (.slice none 0 0); binOp op T u (.slice none 0 0) : Sem Value)))) (.bool (neg ^^ A.isNone)) H := fun A n c hu => by
    subst hu
    have he : (Op.equal T (.slice A n c) (.slice none 0 0)).run P w = .ok A.isNone w := by
      rw [show ∀ u v, Op.equal T u v = Op.equalIn (9999 + 1) T u v from fun _ _ => rfl, Op.equalIn]
      simp only [Sem.run_bind, run_underlying ht, Result.andThen_ok]
      cases A <;> rfl
    rcases hop with ⟨rfl, rfl⟩ | ⟨rfl, rfl⟩
    · refine Runs.same hI (run_v_ok (v := .bool A.isNone) ?_) (by simp only [RV]; cases A <;> rfl)
      simp only [Sem.run_bind, eqGuard_ok (P := P) (w := w) (u := .slice A n c) rfl (by simp), Result.andThen_ok, binOp, he]
      rfl
    · refine Runs.same hI (run_v_ok (v := .bool (!A.isNone)) ?_) (by simp only [RV]; cases A <;> rfl)
      simp only [Sem.run_bind, eqGuard_ok (P := P) (w := w) (u := .slice A n c) rfl (by simp), Result.andThen_ok, binOp, he]
      rfl
  cases p <;> simp only [reduceCtorEq] at h
  rename_i t sz n cs
  split at h
  · rename_i h1
    cases h
    subst h1
    simp only [RV, RC] at hu
    obtain ⟨_, A, cap, rfl, _, hn, _⟩ := hu
    obtain ⟨rfl, rfl, rfl⟩ := hn trivial
    exact key none 0 0 rfl
  · split at h
    · rename_i h1 h2
      cases h
      have hsome : ∃ ad cap, u = .slice (some ad) n cap := by
        cases t with
        | nil => exact absurd rfl h1
        | no => simp only [RV, RC] at hu; obtain ⟨_, A, cap, rfl, _, _, _, hx⟩ := hu; obtain ⟨b, off, vs, rfl, _⟩ := hx h2; exact ⟨_, _, rfl⟩
        | tok k => simp only [RV, RC] at hu; obtain ⟨_, ⟨_, A, cap, rfl, _, _, _, hx⟩, _⟩ := hu; obtain ⟨b, off, vs, rfl, _⟩ := hx h2; exact ⟨_, _, rfl⟩
      obtain ⟨ad, cap, rfl⟩ := hsome
      exact key (some ad) n cap rfl
    · cases h
theorem snd_un (hI : Inv g H w) {op : UnOp} {p : PV} {u : Value} (hu : RV g H p u) {r : PV} {H' : Hp}
    (h : (match (generalizing := false) op, p with | .not, .bool b => some (.bool (!b), H) | .neg, .int k n => some (.int k (k.wrap (0 - n)), H) | _, _ => none) = some (r, H')) : Runs P g H w (do pure (Next.value (← Op.unary op u))) r H' := by
  cases op <;> cases p <;> simp only [Option.some.injEq, Prod.mk.injEq, reduceCtorEq] at h
  all_goals
    obtain ⟨rfl, rfl⟩ := h
    simp only [RV] at hu
    subst hu
  · exact Runs.same hI (run_v_ok (v := .int _ _) rfl) (by simp only [RV])
  · exact Runs.same hI (run_v_ok (v := .bool _) rfl) (by simp only [RV])
theorem snd_cvt (hI : Inv g H w) {s d : TypeId} {ks k : IntKind} (hs : P.underlying s = some (.int ks)) (hd : P.underlying d = some (.int k)) {k' : IntKind} {n : Int} : Runs P g H w (do pure (Next.value (← convert s d (.int k' n)))) (.int k (k.wrap n)) H :=
  Runs.same hI (run_v_ok (v := .int k (k.wrap n)) (by simp only [convert, Sem.run_bind, run_underlying hs, run_underlying hd, Result.andThen_ok]; rfl)) (by simp only [RV])
theorem snd_cvs (hI : Inv g H w) {s d : TypeId} (hs : P.underlying s = some .string) (hd : P.underlying d = some .string) {l : List UInt8} : Runs P g H w (do pure (Next.value (← convert s d (.string ⟨l.toArray⟩)))) (.str l) H :=
  Runs.same hI (run_v_ok (v := .string ⟨l.toArray⟩) (by simp only [convert, Sem.run_bind, run_underlying hs, run_underlying hd, Result.andThen_ok]; rfl)) (by simp only [RV])
theorem snd_ext (hI : Inv g H w) {vs : List PV} {u : Value} (hu : RV g H (.tup vs) u) {i : Nat} {p : PV} (hp : vs[i]? = some p) : Runs P g H w (do pure (Next.value (← Instr.extract u i))) p H := by
  simp only [RV] at hu
  obtain ⟨us, rfl, hr⟩ := hu
  obtain ⟨v, h1, h2⟩ := hr.get hp
  exact Runs.same hI (run_v_ok (v := v) (by simp [Instr.extract, h1])) h2
theorem snd_fad (hI : Inv g H w) {S : TypeId} {fields : Array Field} {f : Nat} {fd : Field} {i : TypeInfo} (hS : P.underlying S = some (.struct fields)) (hf : fields[f]? = some fd) (hi : P.info? fd.type = some i) (h0 : 0 < i.size)
    {p : PV} {u : Value} (hu : RV g H p u) {r : PV} {H' : Hp} (h : (match (generalizing := false) p with | .ptr id o => some (.ptr id (o + fd.offset), H) | .ep cs o => some (.ep cs (o + fd.offset), H) | _ => none) = some (r, H')) :
    Runs P g H w (do pure (Next.value (← Instr.fieldAt S u f))) r H' := by
  have key : ∀ b o, u = .pointer (some ⟨b, o, none⟩) → (Instr.fieldAt S u f).run P w = .ok (.pointer (some ⟨b, o + fd.offset, none⟩)) w := fun b o hu => by
    subst hu
    have hs : (sizeOf fd.type).run P w = .ok i.size w := by simp [sizeOf, typeInfo, hi]
    have hne : i.size ≠ 0 := by omega
    simp only [Instr.fieldAt, Sem.run_bind, run_underlying hS, Result.andThen_ok, hf, Instr.sureAddr, Sem.run_pure, fieldPlace, hs]
    rw [if_neg hne, Addr.add_lit]
    rfl
  cases p <;> simp only [Option.some.injEq, Prod.mk.injEq, reduceCtorEq] at h
  · obtain ⟨rfl, rfl⟩ := h
    simp only [RV] at hu
    obtain ⟨hid, b, e, top, hm, hv⟩ := hu
    refine Runs.same hI (run_v_ok (key _ _ hv)) ?_
    simp only [RV]
    exact ⟨hid, b, e, top, hm, rfl⟩
  · obtain ⟨rfl, rfl⟩ := h
    simp only [RV, RC] at hu
    obtain ⟨b, o, vs, hv, h1, h2⟩ := hu
    refine Runs.same hI (run_v_ok (key _ _ hv)) ?_
    simp only [RV, RC]
    exact ⟨b, o, vs, by rw [Nat.add_assoc], h1, h2⟩
theorem snd_iad (hI : Inv g H w) {T e : TypeId} {i : TypeInfo} (ht : P.underlying T = some (.slice e)) (hi : P.info? e = some i) {p q : PV} {u v : Value} (hu : RV g H p u) (hv : RV g H q v) {r : PV} {H' : Hp}
    (h : (match (generalizing := false) p, q with
      | .sl _ sz' n cs, .int _ z => if i.size = sz' ∧ 0 ≤ z ∧ z < n then some (.ep ((cs.drop (z.toNat * i.size)).take i.size) 0, H) else none
      | .row id sz' n, .int _ z => if i.size = sz' ∧ 0 ≤ z ∧ z < n then some (.ptr id (z.toNat * i.size), H) else none
      | _, _ => none) = some (r, H')) : Runs P g H w (do pure (Next.value (← Instr.indexAt T u v))) r H' := by
  have key : ∀ ad n c k z, u = .slice (some ad) n c → v = .int k z → 0 ≤ z ∧ z < n → (Instr.indexAt T u v).run P w = .ok (.pointer (some (ad.add (z.toNat * i.size)))) w := fun ad n c k z hu hv hz => by
    subst hu; subst hv
    have hs : (sizeOf e).run P w = .ok i.size w := by simp [sizeOf, typeInfo, hi]
    simp only [Instr.indexAt, asIntOf, Sem.run_bind, Sem.run_pure, run_underlying ht, Result.andThen_ok]
    rw [if_pos hz]
    simp only [Sem.run_bind, hs, Result.andThen_ok, Sem.run_pure]
  cases p <;> cases q <;> simp only [reduceCtorEq] at h
  · rename_i t sz n cs k z
    split at h
    · rename_i hc
      cases h
      obtain ⟨hsz, hz⟩ := hc
      have h0 : 0 < n := by omega
      have hsl : ∃ b off cap vs, u = .slice (some ⟨b, off, none⟩) n cap ∧ g.σ.holds b off vs ∧ RCs g.σ cs vs := by
        cases t with
        | nil => simp only [RV, RC] at hu; obtain ⟨_, A, cap, rfl, _, _, _, hx⟩ := hu; obtain ⟨b, off, vs, rfl, h1, h2⟩ := hx h0; exact ⟨_, _, _, _, rfl, h1, h2⟩
        | no => simp only [RV, RC] at hu; obtain ⟨_, A, cap, rfl, _, _, _, hx⟩ := hu; obtain ⟨b, off, vs, rfl, h1, h2⟩ := hx h0; exact ⟨_, _, _, _, rfl, h1, h2⟩
        | tok k => simp only [RV, RC] at hu; obtain ⟨_, ⟨_, A, cap, rfl, _, _, _, hx⟩, _⟩ := hu; obtain ⟨b, off, vs, rfl, h1, h2⟩ := hx h0; exact ⟨_, _, _, _, rfl, h1, h2⟩
      obtain ⟨b, off, cap, vs, hu', h1, h2⟩ := hsl
      simp only [RV] at hv
      refine Runs.same hI (run_v_ok (key _ _ _ _ _ hu' hv hz)) ?_
      simp only [RV, RC, Nat.add_zero]
      exact ⟨b, off + z.toNat * i.size, _, by rw [Addr.add_lit], (h1.drop _).take _, (h2.drop _).take _⟩
    · cases h
  · rename_i id sz n k z
    split at h
    · rename_i hc
      cases h
      obtain ⟨hsz, hz⟩ := hc
      simp only [RV] at hu hv
      obtain ⟨hid, b, e', top, cap, hm, hu', _⟩ := hu
      refine Runs.same hI (run_v_ok (key _ _ _ _ _ hu' hv hz)) ?_
      simp only [RV]
      exact ⟨hid, b, e', top, hm, by rw [Addr.add_lit, Nat.zero_add]⟩
    · cases h
theorem snd_idx (hI : Inv g H w) {T : TypeId} (ht : P.underlying T = some .string) {l : List UInt8} {k : IntKind} {z : Int} (h0 : 0 ≤ z) {c : UInt8} (hc : l[z.toNat]? = some c) :
    Runs P g H w (do pure (Next.value (← Instr.index T (.string ⟨l.toArray⟩) (.int k z)))) (b8 c) H := by
  refine Runs.same hI (run_v_ok (v := .int .u8 c.toNat) ?_) (by simp only [b8, RV])
  have hg : (⟨l.toArray⟩ : ByteArray)[z.toNat]? = some c := by
    have hlt : z.toNat < l.length := (List.getElem?_eq_some_iff.1 hc).1
    rw [getElem?_pos _ _ (by simpa [ByteArray.size] using hlt)]
    have := (List.getElem?_eq_some_iff.1 hc).2
    exact congrArg some this
  simp only [Instr.index, asIntOf, Sem.run_bind, Sem.run_pure, run_underlying ht, Result.andThen_ok]
  rw [if_pos h0, hg]
  rfl
theorem snd_len_str (hI : Inv g H w) {T ty : TypeId} {ats : Array TypeId} (ht : P.underlying T = some .string) (h0 : ats[0]? = some T) {l : List UInt8} : Runs P g H w (do pure (Next.value (← Builtin.len_ ats ty #[.string ⟨l.toArray⟩]))) (.int .i64 l.length) H := by
  refine Runs.same hI (run_v_ok (v := .int .i64 l.length) ?_) (by simp only [RV])
  have hsz : (⟨l.toArray⟩ : ByteArray).size = l.length := by simp [ByteArray.size]
  simp [Builtin.len_, h0, run_underlying ht, goInt, hsz]
theorem snd_len_sl (hI : Inv g H w) {T e ty : TypeId} {ats : Array TypeId} (ht : P.underlying T = some (.slice e)) (h0 : ats[0]? = some T) {A : Option Addr} {n c : Nat} : Runs P g H w (do pure (Next.value (← Builtin.len_ ats ty #[.slice A n c]))) (.int .i64 n) H := by
  refine Runs.same hI (run_v_ok (v := .int .i64 n) ?_) (by simp only [RV])
  simp [Builtin.len_, h0, run_underlying ht, goInt]
theorem snd_min (hI : Inv g H w) {ats : Array TypeId} {ty : TypeId} {k : IntKind} {m n : Int} : Runs P g H w (do pure (Next.value (← Builtin.min_ ats ty #[.int k m, .int k n]))) (.int k (if n < m then n else m)) H :=
  Runs.same hI (run_v_ok (v := .int k (if n < m then n else m)) (by simp [Builtin.min_, Builtin.min2])) (by simp only [RV])
theorem snd_max (hI : Inv g H w) {ats : Array TypeId} {ty : TypeId} {k : IntKind} {m n : Int} : Runs P g H w (do pure (Next.value (← Builtin.max_ ats ty #[.int k m, .int k n]))) (.int k (if m < n then n else m)) H :=
  Runs.same hI (run_v_ok (v := .int k (if n > m then n else m)) (by simp [Builtin.max_, Builtin.max2])) (by simp only [RV])
end
end Go.Proofs.YtgilfigaimndkaaDoor.Ev
