/- That the evaluator tells what the operations do: numbers, strings, slices' bounds. -/
import Derived.Test.YtnljpfjoboafoaaDoorEv7
import Derived.Laws.StructEq
import Derived.WalkSpells
import Derived.Lib.SlBytesConst
import Derived.Laws.BytesString
namespace Go.Proofs.YtnljpfjoboafoaaDoor.Ev
set_option linter.all false
open Go Go.RowKit
section
variable {P : Program} {g : Gh} {H : Hp} {w : World} {tm : List PV} {a : Act} {call : Nat → List PV → Hp → Option (PV × Hp)}

theorem snd_chk (hI : Inv g H w) {o : Oper} {x : Operand} (ho : o.op = .nilCheck x) (hx : RV g H ((cx x).ev tm) (a.eval x)) {r : PV} {H' : Hp}
    (h : evalOp call tm H (.chk (cx x)) = some (r, H')) : Runs P g H w (execOp a.eval o) r H' := by
  simp only [evalOp] at h
  generalize (cx x).ev tm = p at h hx
  have fin : r = p → H' = H → (execOp a.eval o).run P w = .ok (.value (a.eval x)) w → Runs P g H w (execOp a.eval o) r H' := fun h1 h2 h3 => by
    subst h1; subst h2
    exact Runs.same hI h3 hx
  cases p <;> simp only [Option.some.injEq, Prod.mk.injEq, reduceCtorEq] at h
  · obtain ⟨h1, h2⟩ := h
    refine fin h1.symm h2.symm ?_
    simp only [RV] at hx
    obtain ⟨_, _, _, _, _, hv⟩ := hx
    simp [execOp, ho, hv]
  · obtain ⟨h1, h2⟩ := h
    refine fin h1.symm h2.symm ?_
    simp only [RV, RC] at hx
    obtain ⟨_, _, _, hv, _⟩ := hx
    simp [execOp, ho, hv]
  · obtain ⟨h1, h2⟩ := h
    refine fin h1.symm h2.symm ?_
    simp only [RV] at hx
    obtain ⟨_, hv, _⟩ := hx
    simp [execOp, ho, hv]

theorem eqGuard_ok {op : BinOp} {t : TypeId} {x y : Operand} {u v : Value} (h : u.oneCell' = true) (h' : u ≠ .nilIface) : (eqGuard op t x y u v).run P w = .ok () w := by
  have : eqGuard op t x y u v = pure () := by
    cases u <;> first | (simp [Value.oneCell'] at h; done) | (exact absurd rfl h') | (cases op <;> rfl)
  rw [this]; rfl

theorem snd_bin (hI : Inv g H w) {op : BinOp} {T : TypeId} {x y : Operand} {p q : PV} {u v : Value} (hu : RV g H p u) (hv : RV g H q v) {r : PV} (h : binP op p q = some r) :
    Runs P g H w (do pure (Next.value (← (do eqGuard op T x y u v; binOp op T u v : Sem Value)))) r H := by
  have fin : ∀ {z : Value}, u.oneCell' = true → u ≠ .nilIface → (binOp op T u v).run P w = .ok z w → RV g H r z → Runs P g H w (do pure (Next.value (← (do eqGuard op T x y u v; binOp op T u v : Sem Value)))) r H := fun h1 h2 h3 h4 =>
    Runs.same hI (run_v_ok (by simp only [Sem.run_bind, eqGuard_ok h1 h2, Result.andThen_ok, h3])) h4
  cases p with
  | int k n =>
    cases q with
    | int k' m =>
      simp only [RV] at hu hv
      subst hu; subst hv
      simp only [binP, intBin] at h
      cases op with
      | shl =>
        simp only at h
        split at h
        · cases h
        · rename_i hc
          cases h
          exact fin (z := .int k (k.wrap (n * 2 ^ Nat.min m.toNat k.bits))) rfl (by simp) (by rw [binOp_shl]; unfold Op.shift; rw [if_neg hc]; rfl) (by simp only [RV])
      | shr =>
        simp only at h
        split at h
        · cases h
        · rename_i hc
          cases h
          exact fin (z := .int k (n.fdiv (2 ^ Nat.min m.toNat k.bits))) rfl (by simp) (by rw [binOp_shr]; unfold Op.shift; rw [if_neg hc]; rfl) (by simp only [RV])
      | quo =>
        simp only at h
        split at h
        · cases h
        · rename_i hk
          have hk : k = k' := by simpa using hk
          subst hk
          split at h
          · cases h
          · rename_i hm
            cases h
            exact fin (z := .int k (k.wrap (n.tdiv m))) rfl (by simp) (by rw [binOp_quo]; unfold Op.intDiv; rw [if_neg hm]; rfl) (by simp only [RV])
      | rem =>
        simp only at h
        split at h
        · cases h
        · rename_i hk
          have hk : k = k' := by simpa using hk
          subst hk
          split at h
          · cases h
          · rename_i hm
            cases h
            exact fin (z := .int k (n.tmod m)) rfl (by simp) (by rw [binOp_rem]; unfold Op.intDiv; rw [if_neg hm]; rfl) (by simp only [RV])
      | eql =>
        simp only at h
        split at h
        · cases h
        · rename_i hk
          have hk : k = k' := by simpa using hk
          subst hk
          cases h
          exact fin (z := .bool (n == m)) rfl (by simp) (by rw [binOp_eql]; rfl) (by simp only [RV, Value.bool.injEq]; rw [Bool.eq_iff_iff]; simp)
      | neq =>
        simp only at h
        split at h
        · cases h
        · rename_i hk
          have hk : k = k' := by simpa using hk
          subst hk
          cases h
          exact fin (z := .bool (n != m)) rfl (by simp) (by rw [binOp_neq]; rfl) (by simp only [RV, Value.bool.injEq]; rw [Bool.eq_iff_iff]; simp)
      | add =>
        simp only at h
        split at h
        · cases h
        · rename_i hk
          have hk : k = k' := by simpa using hk
          subst hk
          cases h
          exact fin (z := .int k (k.wrap (n + m))) rfl (by simp) (by rw [binOp_add]; rfl) (by simp only [RV])
      | sub =>
        simp only at h
        split at h
        · cases h
        · rename_i hk
          have hk : k = k' := by simpa using hk
          subst hk
          cases h
          exact fin (z := .int k (k.wrap (n - m))) rfl (by simp) (by rw [binOp_sub]; rfl) (by simp only [RV])
      | mul =>
        simp only at h
        split at h
        · cases h
        · rename_i hk
          have hk : k = k' := by simpa using hk
          subst hk
          cases h
          exact fin (z := .int k (k.wrap (n * m))) rfl (by simp) (by rw [binOp_mul]; rfl) (by simp only [RV])
      | and =>
        simp only at h
        split at h
        · cases h
        · rename_i hk
          have hk : k = k' := by simpa using hk
          subst hk
          cases h
          exact fin (z := .int k (k.wrap (BitVec.ofInt k.bits n &&& BitVec.ofInt k.bits m).toNat)) rfl (by simp) (by rw [binOp_and]; rfl) (by simp only [RV])
      | or =>
        simp only at h
        split at h
        · cases h
        · rename_i hk
          have hk : k = k' := by simpa using hk
          subst hk
          cases h
          exact fin (z := .int k (k.wrap (BitVec.ofInt k.bits n ||| BitVec.ofInt k.bits m).toNat)) rfl (by simp) (by rw [binOp_or]; rfl) (by simp only [RV])
      | xor =>
        simp only at h
        split at h
        · cases h
        · rename_i hk
          have hk : k = k' := by simpa using hk
          subst hk
          cases h
          exact fin (z := .int k (k.wrap (BitVec.ofInt k.bits n ^^^ BitVec.ofInt k.bits m).toNat)) rfl (by simp) (by rw [binOp_xor]; rfl) (by simp only [RV])
      | andNot =>
        simp only at h
        split at h
        · cases h
        · rename_i hk
          have hk : k = k' := by simpa using hk
          subst hk
          cases h
          exact fin (z := .int k (k.wrap (BitVec.ofInt k.bits n &&& ~~~ (BitVec.ofInt k.bits m)).toNat)) rfl (by simp) (by rw [binOp_andNot]; rfl) (by simp only [RV])
      | lss =>
        simp only at h
        split at h
        · cases h
        · rename_i hk
          have hk : k = k' := by simpa using hk
          subst hk
          cases h
          exact fin (z := .bool (decide (n < m))) rfl (by simp) (by rw [binOp_lss]; rfl) (by simp only [RV])
      | leq =>
        simp only at h
        split at h
        · cases h
        · rename_i hk
          have hk : k = k' := by simpa using hk
          subst hk
          cases h
          exact fin (z := .bool (decide (n ≤ m))) rfl (by simp) (by rw [binOp_leq]; rfl) (by simp only [RV])
      | gtr =>
        simp only at h
        split at h
        · cases h
        · rename_i hk
          have hk : k = k' := by simpa using hk
          subst hk
          cases h
          exact fin (z := .bool (decide (m < n))) rfl (by simp) (by rw [binOp_gtr]; rfl) (by simp only [RV])
      | geq =>
        simp only at h
        split at h
        · cases h
        · rename_i hk
          have hk : k = k' := by simpa using hk
          subst hk
          cases h
          exact fin (z := .bool (decide (m ≤ n))) rfl (by simp) (by rw [binOp_geq]; rfl) (by simp only [RV])
    | _ => simp [binP] at h
  | str l =>
    cases q with
    | str l' =>
      simp only [RV] at hu hv
      subst hu; subst hv
      simp only [binP, strBin] at h
      have hsz : ∀ l : List UInt8, (⟨l.toArray⟩ : ByteArray).size = l.length := fun l => by simp [ByteArray.size]
      cases op with
      | add =>
        simp only at h
        split at h
        · rename_i hc
          cases h
          refine fin (z := .string (⟨l.toArray⟩ ++ ⟨l'.toArray⟩)) rfl (by simp) ?_ ?_
          · have : ¬ (((l.length + l'.length : Nat) : Int) > IntKind.i64.max) := by rw [IntKind.max_i64]; omega
            simp only [binOp, Op.stringOp, hsz]
            rw [if_neg this]
            rfl
          · simp only [RV, Value.string.injEq]
            rw [ByteArray.ext_iff]
            simp
        · cases h
      | eql =>
        cases h
        refine fin (z := .bool ((⟨l.toArray⟩ : ByteArray).toList == (⟨l'.toArray⟩ : ByteArray).toList)) rfl (by simp) rfl ?_
        simp only [RV, Value.bool.injEq, ByteArray.toList_eq]
        rw [Bool.eq_iff_iff]
        simp
      | neq =>
        cases h
        refine fin (z := .bool (!((⟨l.toArray⟩ : ByteArray).toList == (⟨l'.toArray⟩ : ByteArray).toList))) rfl (by simp) rfl ?_
        simp only [RV, Value.bool.injEq, ByteArray.toList_eq]
        rw [Bool.eq_iff_iff]
        simp
      | _ => cases h
    | _ => simp [binP] at h
  | _ => simp [binP] at h

theorem snd_beq (hI : Inv g H w) {T : TypeId} (ht : P.underlying T = some .bool) {op : BinOp} {neg : Bool} (hop : (op = .eql ∧ neg = false) ∨ (op = .neq ∧ neg = true)) {x y : Operand} {b c : Bool} :
    Runs P g H w (do pure (Next.value (← (do eqGuard op T x y (.bool b) (.bool c); binOp op T (.bool b) (.bool c) : Sem Value)))) (.bool (neg ^^ (b == c))) H := by
  have he : (Op.equal T (.bool b) (.bool c)).run P w = .ok (b == c) w := by
    rw [show ∀ u v, Op.equal T u v = Op.equalIn (9999 + 1) T u v from fun _ _ => rfl, Op.equalIn]
    simp only [Sem.run_bind, run_underlying ht, Result.andThen_ok]
    rfl
  rcases hop with ⟨rfl, rfl⟩ | ⟨rfl, rfl⟩
  · refine Runs.same hI (run_v_ok (v := .bool (b == c)) ?_) (by simp only [RV]; cases b <;> cases c <;> rfl)
    simp only [Sem.run_bind, eqGuard_ok (P := P) (w := w) (u := .bool b) rfl (by simp), Result.andThen_ok, binOp, he]
    rfl
  · refine Runs.same hI (run_v_ok (v := .bool (!(b == c))) ?_) (by simp only [RV]; cases b <;> cases c <;> rfl)
    simp only [Sem.run_bind, eqGuard_ok (P := P) (w := w) (u := .bool b) rfl (by simp), Result.andThen_ok, binOp, he]
    rfl
theorem scEq_run {p q : PV} {u v : Value} (hu : RV g H p u) (hv : RV g H q v) {t : Bool} (h : scEq p q = some t) {T : TypeId} (hT : (match P.underlying T with | some .bool | some (.int _) | some .string => true | _ => false) = true) (d : Nat) (w' : World)
    (hk : ∀ k n, u = .int k n → ∃ k', P.underlying T = some (.int k')) (hb : ∀ b, u = .bool b → P.underlying T = some .bool) (hs : ∀ s, u = .string s → P.underlying T = some .string) : (Op.equalIn (d + 1) T u v).run P w' = .ok t w' := by
  cases p <;> cases q <;> simp only [scEq, reduceCtorEq] at h
  case bool.bool a b =>
    cases h
    simp only [RV] at hu hv
    subst hu; subst hv
    exact run_equalIn_bool w' d T a b (hb a rfl)
  case int.int k a k' b =>
    split at h
    · rename_i hkk
      cases h
      subst hkk
      simp only [RV] at hu hv
      subst hu; subst hv
      obtain ⟨k2, h2⟩ := hk k a rfl
      exact run_equalIn_int w' d T k k2 a b h2
    · cases h
  case str.str a b =>
    cases h
    simp only [RV] at hu hv
    subst hu; subst hv
    rw [run_equalIn_string w' d T _ _ (hs _ rfl)]
    congr 1
    rw [ByteArray.toList_eq, ByteArray.toList_eq, Bool.eq_iff_iff]
    simp
/-- What fits a field's type. -/
theorem eqf_ok {d : Nat} {xs ys : Array Value} (w' : World) : ∀ (fs : List Field) (k : Nat) (as bs : List PV) (us vs : List Value) (t : Bool), flatF P k fs = true → RVs g H as us → RVs g H bs vs → (∀ (j : Nat) v, us[j]? = some v → xs[k + j]? = some v) → (∀ (j : Nat) v, vs[j]? = some v → ys[k + j]? = some v) →
    as.length = fs.length → bs.length = fs.length → aggEq as bs = some t → (∀ (j : Nat) f p, fs[j]? = some f → as[j]? = some p → (∀ k n, p = .int k n → ∃ k', P.underlying f.type = some (.int k')) ∧ (∀ b, p = .bool b → P.underlying f.type = some .bool) ∧ (∀ s, p = .str s → P.underlying f.type = some .string)) →
    (Op.eqFields (d + 1) xs ys fs).run P w' = .ok t w'
  | [], k, as, bs, us, vs, t, _, ha, hb, _, _, hla, hlb, h, _ => by
    obtain rfl : as = [] := List.eq_nil_of_length_eq_zero hla
    obtain rfl : bs = [] := List.eq_nil_of_length_eq_zero hlb
    simp only [aggEq, Option.some.injEq] at h
    subst h
    rfl
  | f :: fs, k, as, bs, us, vs, t, hf, ha, hb, hx, hy, hla, hlb, h, hty => by
    cases as with
    | nil => simp at hla
    | cons p ps =>
      cases bs with
      | nil => simp at hlb
      | cons q qs =>
        simp only [flatF, Bool.and_eq_true, bne_iff_ne, ne_eq, beq_iff_eq] at hf
        obtain ⟨⟨⟨hn, ho⟩, hT⟩, hr⟩ := hf
        simp only [RVs] at ha hb
        obtain ⟨u, us', rfl, hu, hus⟩ := ha
        obtain ⟨v, vs', rfl, hv, hvs⟩ := hb
        have hxu : xs[f.offset]? = some u := by have := hx 0 u rfl; rw [ho]; simpa using this
        have hyv : ys[f.offset]? = some v := by have := hy 0 v rfl; rw [ho]; simpa using this
        have hag : (isAgg f.type).run P w' = .ok false w' := by
          have : ∀ dd, P.underlying f.type = some dd → (match (some dd : Option TypeDesc) with | some .bool | some (.int _) | some .string => true | _ => false) = true → (isAgg f.type).run P w' = .ok false w' := fun dd h1 h2 => by
            simp only [isAgg, Sem.run_bind, run_underlying h1, Result.andThen_ok]
            cases dd <;> first | rfl | (simp at h2)
          cases e : P.underlying f.type with
          | none => rw [e] at hT; simp at hT
          | some dd => exact this dd e (by rw [e] at hT; exact hT)
        have hpx : (part f.type xs f.offset).run P w' = .ok u w' := by simp only [part, Sem.run_bind, hag, Result.andThen_ok]; simp [hxu]
        have hpy : (part f.type ys f.offset).run P w' = .ok v w' := by simp only [part, Sem.run_bind, hag, Result.andThen_ok]; simp [hyv]
        obtain ⟨hk, hbb, hss⟩ := hty 0 f p rfl rfl
        have hfit : (∀ k n, u = .int k n → ∃ k', P.underlying f.type = some (.int k')) ∧ (∀ b, u = .bool b → P.underlying f.type = some .bool) ∧ (∀ s, u = .string s → P.underlying f.type = some .string) ∨ scEq p q = none := by
          cases p <;> first | (right; cases q <;> rfl; done) | left
          · simp only [RV] at hu; subst hu; exact ⟨fun k n h => (by cases h), fun b h => hbb _ rfl, fun s h => (by cases h)⟩
          · simp only [RV] at hu; subst hu; exact ⟨fun k n h => hk _ _ rfl, fun b h => (by cases h), fun s h => (by cases h)⟩
          · simp only [RV] at hu; subst hu; exact ⟨fun k n h => (by cases h), fun b h => (by cases h), fun s h => hss _ rfl⟩
        simp only [aggEq] at h
        have hrest : ∀ t', aggEq ps qs = some t' → (Op.eqFields (d + 1) xs ys fs).run P w' = .ok t' w' := fun t' h' =>
          eqf_ok w' fs (k + 1) ps qs us' vs' t' hr hus hvs (fun j x hj => by have := hx (j + 1) x (by simpa using hj); rwa [show k + (j + 1) = k + 1 + j by omega] at this)
            (fun j x hj => by have := hy (j + 1) x (by simpa using hj); rwa [show k + (j + 1) = k + 1 + j by omega] at this) (by simpa using hla) (by simpa using hlb) h' (fun j f' p' h1 h2 => hty (j + 1) f' p' (by simpa using h1) (by simpa using h2))
        simp only [Op.eqFields]
        rw [if_pos hn]
        simp only [Sem.run_bind, hpx, hpy, Result.andThen_ok]
        split at h
        · rename_i hsc
          obtain ⟨h1, h2, h3⟩ := hfit.resolve_right (by rw [hsc]; simp)
          rw [scEq_run hu hv hsc hT d w' h1 h2 h3]
          simp only [Result.andThen_ok, Bool.not_true, Bool.false_eq_true, if_false]
          exact hrest t h
        · rename_i hsc
          cases h
          obtain ⟨h1, h2, h3⟩ := hfit.resolve_right (by rw [hsc]; simp)
          rw [scEq_run hu hv hsc hT d w' h1 h2 h3]
          simp
        · cases h
theorem snd_aeq (hI : Inv g H w) {T : TypeId} {fs : Array Field} (hT : P.underlying T = some (.struct fs)) (hf : flatF P 0 fs.toList = true) (hst : P.stoodInHeld T = false) (hgd : P.eqGuardType P.depth T = false) {op : BinOp} {neg : Bool} (hop : (op = .eql ∧ neg = false) ∨ (op = .neq ∧ neg = true)) {x y : Operand}
    {as bs : List PV} {u v : Value} (hu : RV g H (.agg as) u) (hv : RV g H (.agg bs) v) (hla : as.map kindP = kindsF P fs.toList) (hlb : bs.length = (kindsF P fs.toList).length) {t : Bool} (he : aggEq as bs = some t) :
    Runs P g H w (do pure (Next.value (← (do eqGuard op T x y u v; binOp op T u v : Sem Value)))) (.bool (neg ^^ t)) H := by
  simp only [RV] at hu hv
  obtain ⟨us, rfl, hus⟩ := hu
  obtain ⟨vs, rfl, hvs⟩ := hv
  have hfo : P.fieldsOf T = fs := by unfold Program.fieldsOf; rw [hT]
  have hl : as.length = fs.toList.length := by have := congrArg List.length hla; simpa [kindsF] using this
  have heq : (Op.equalIn 10000 T (.agg ⟨us⟩) (.agg ⟨vs⟩)).run P w = .ok t w := by
    rw [run_equalIn_agg w 9999 T _ _ (by rw [hfo]; exact hT) hst, hfo]
    refine eqf_ok (d := 9998) w fs.toList 0 as bs us vs t hf hus hvs (fun j v h => by simpa using h) (fun j v h => by simpa using h) hl (by rw [hlb]; simp [kindsF]) he (fun j f p h1 h2 => ?_)
    have h3 : (as.map kindP)[j]? = some (kindP p) := by rw [List.getElem?_map, h2]; rfl
    rw [hla] at h3
    unfold kindsF at h3
    rw [List.getElem?_map, h1] at h3
    simp only [Option.map_some, Option.some.injEq] at h3
    refine ⟨fun k n hp => ?_, fun b hp => ?_, fun s hp => ?_⟩
    · subst hp
      split at h3 <;> simp [kindP] at h3
      exact ⟨_, by assumption⟩
    · subst hp
      split at h3 <;> simp [kindP] at h3
      assumption
    · subst hp
      split at h3 <;> simp [kindP] at h3
      assumption
  rcases hop with ⟨rfl, rfl⟩ | ⟨rfl, rfl⟩
  · refine Runs.same hI (run_v_ok (v := .bool t) ?_) (by simp only [RV]; cases t <;> rfl)
    simp only [Sem.run_bind, run_eqGuard_agg w .eql T x y _ _ hgd, Result.andThen_ok, run_eql_struct, heq]
  · refine Runs.same hI (run_v_ok (v := .bool (!t)) ?_) (by simp only [RV]; cases t <;> rfl)
    simp only [Sem.run_bind, run_eqGuard_agg w .neq T x y _ _ hgd, Result.andThen_ok, run_neq_struct, heq]
theorem snd_inil (hI : Inv g H w) {T : TypeId} {ms : Array (String × TypeId)} (ht : P.underlying T = some (.interface ms)) {op : BinOp} {neg : Bool} (hop : (op = .eql ∧ neg = false) ∨ (op = .neq ∧ neg = true)) {x : Operand} {t : Bool} {u : Value} (hu : RV g H (.ifc t) u) :
    Runs P g H w (do pure (Next.value (← (do eqGuard op T x (.const .nilIface) u .nilIface; binOp op T u .nilIface : Sem Value)))) (.bool (neg ^^ t)) H := by
  simp only [RV] at hu
  have hg : (eqGuard op T x (.const .nilIface) u .nilIface).run P w = .ok () w := by
    rcases hu with ⟨_, rfl⟩ | ⟨_, ty, z, rfl⟩
    · have : eqGuard op T x (.const .nilIface) .nilIface .nilIface = pure () := by cases op <;> cases x <;> rfl
      rw [this]; rfl
    · have : eqGuard op T x (.const .nilIface) (.iface ty z) .nilIface = pure () := by cases op <;> rfl
      rw [this]; rfl
  have he : (Op.equal T u .nilIface).run P w = .ok t w := by
    rw [show ∀ u v, Op.equal T u v = Op.equalIn (9999 + 1) T u v from fun _ _ => rfl, Op.equalIn]
    simp only [Sem.run_bind, run_underlying ht, Result.andThen_ok]
    rcases hu with ⟨rfl, rfl⟩ | ⟨rfl, ty, z, rfl⟩ <;> rfl
  have h1 : (binOp .eql T u .nilIface).run P w = .ok (.bool t) w := by
    have : binOp .eql T u .nilIface = (do pure (Value.bool (← Op.equal T u .nilIface)) : Sem Value) := by
      rcases hu with ⟨rfl, rfl⟩ | ⟨rfl, ty, z, rfl⟩ <;> rfl
    rw [this]
    simp only [Sem.run_bind, he, Result.andThen_ok]
    rfl
  have h2 : (binOp .neq T u .nilIface).run P w = .ok (.bool (!t)) w := by
    have : binOp .neq T u .nilIface = (do pure (Value.bool (!(← Op.equal T u .nilIface))) : Sem Value) := by
      rcases hu with ⟨rfl, rfl⟩ | ⟨rfl, ty, z, rfl⟩ <;> rfl
    rw [this]
    simp only [Sem.run_bind, he, Result.andThen_ok]
    rfl
  rcases hop with ⟨rfl, rfl⟩ | ⟨rfl, rfl⟩
  · refine Runs.same hI (run_v_ok (v := .bool t) ?_) (by simp only [RV]; cases t <;> rfl)
    simp only [Sem.run_bind, hg, Result.andThen_ok, h1]
  · refine Runs.same hI (run_v_ok (v := .bool (!t)) ?_) (by simp only [RV]; cases t <;> rfl)
    simp only [Sem.run_bind, hg, Result.andThen_ok, h2]
theorem snd_snil (hI : Inv g H w) {T e : TypeId} (ht : P.underlying T = some (.slice e)) {op : BinOp} {neg : Bool} (hop : (op = .eql ∧ neg = false) ∨ (op = .neq ∧ neg = true)) {x y : Operand} {p : PV} {u : Value} (hu : RV g H p u)
    {r : PV} {H' : Hp} (h : (match (generalizing := false) p with | .sl t _ n _ => (if t = .nil then some (.bool (neg ^^ true), H) else if 0 < n then some (.bool (neg ^^ false), H) else none) | .row _ _ _ _ => some (.bool (neg ^^ false), H) | .ne0 => some (.bool (neg ^^ false), H) | _ => none) = some (r, H')) :
    Runs P g H w (do pure (Next.value (← (do eqGuard op T x y u (.slice none 0 0); binOp op T u (.slice none 0 0) : Sem Value)))) r H' := by
  have key : ∀ (A : Option Addr) (n c : Nat), u = .slice A n c → Runs P g H w (do pure (Next.value (← (do eqGuard op T x y u (.slice none 0 0); binOp op T u (.slice none 0 0) : Sem Value)))) (.bool (neg ^^ A.isNone)) H := fun A n c hu => by
    subst hu
    have he : (Op.equal T (.slice A n c) (.slice none 0 0)).run P w = .ok A.isNone w := by
      rw [show ∀ u v, Op.equal T u v = Op.equalIn (9999 + 1) T u v from fun _ _ => rfl, Op.equalIn]
      simp only [Sem.run_bind, run_underlying ht, Result.andThen_ok]
      cases A <;> rfl
    rcases hop with ⟨rfl, rfl⟩ | ⟨rfl, rfl⟩
    · refine Runs.same hI (run_v_ok (v := .bool A.isNone) ?_) (by simp only [RV]; cases A <;> rfl)
      simp only [Sem.run_bind, eqGuard_ok (P := P) (w := w) (u := .slice A n c) rfl (by simp), Result.andThen_ok, binOp, he]
      rfl
    · refine Runs.same hI (run_v_ok (v := .bool (!A.isNone)) ?_) (by simp only [RV]; cases A <;> rfl)
      simp only [Sem.run_bind, eqGuard_ok (P := P) (w := w) (u := .slice A n c) rfl (by simp), Result.andThen_ok, binOp, he]
      rfl
  cases p <;> simp only [reduceCtorEq] at h
  case row id off sz n =>
    cases h
    simp only [RV] at hu
    obtain ⟨_, b, e', top, cap, _, rfl, _⟩ := hu
    exact key _ n cap rfl
  case ne0 =>
    cases h
    simp only [RV] at hu
    obtain ⟨ad, cap, rfl⟩ := hu
    exact key _ 0 cap rfl
  rename_i t sz n cs
  split at h
  · rename_i h1
    cases h
    subst h1
    simp only [RV, RC] at hu
    obtain ⟨_, A, cap, rfl, _, hn, _⟩ := hu
    obtain ⟨rfl, rfl, rfl⟩ := hn trivial
    exact key none 0 0 rfl
  · split at h
    · rename_i h1 h2
      cases h
      have hsome : ∃ ad cap, u = .slice (some ad) n cap := by
        cases t with
        | nil => exact absurd rfl h1
        | no => simp only [RV, RC] at hu; obtain ⟨_, A, cap, rfl, _, _, _, hx⟩ := hu; obtain ⟨b, off, vs, rfl, _⟩ := hx h2; exact ⟨_, _, rfl⟩
        | tok k => simp only [RV, RC] at hu; obtain ⟨_, ⟨_, A, cap, rfl, _, _, _, hx⟩, _⟩ := hu; obtain ⟨b, off, vs, rfl, _⟩ := hx h2; exact ⟨_, _, rfl⟩
      obtain ⟨ad, cap, rfl⟩ := hsome
      exact key (some ad) n cap rfl
    · cases h
theorem snd_un (hI : Inv g H w) {op : UnOp} {p : PV} {u : Value} (hu : RV g H p u) {r : PV} {H' : Hp}
    (h : (match (generalizing := false) op, p with | .not, .bool b => some (.bool (!b), H) | .neg, .int k n => some (.int k (k.wrap (0 - n)), H) | _, _ => none) = some (r, H')) : Runs P g H w (do pure (Next.value (← Op.unary op u))) r H' := by
  cases op <;> cases p <;> simp only [Option.some.injEq, Prod.mk.injEq, reduceCtorEq] at h
  all_goals
    obtain ⟨rfl, rfl⟩ := h
    simp only [RV] at hu
    subst hu
  · exact Runs.same hI (run_v_ok (v := .int _ _) rfl) (by simp only [RV])
  · exact Runs.same hI (run_v_ok (v := .bool _) rfl) (by simp only [RV])
theorem snd_cvt (hI : Inv g H w) {s d : TypeId} {ks k : IntKind} (hs : P.underlying s = some (.int ks)) (hd : P.underlying d = some (.int k)) {k' : IntKind} {n : Int} : Runs P g H w (do pure (Next.value (← convert s d (.int k' n)))) (.int k (k.wrap n)) H :=
  Runs.same hI (run_v_ok (v := .int k (k.wrap n)) (by simp only [convert, Sem.run_bind, run_underlying hs, run_underlying hd, Result.andThen_ok]; rfl)) (by simp only [RV])
theorem snd_cvs (hI : Inv g H w) {s d : TypeId} (hs : P.underlying s = some .string) (hd : P.underlying d = some .string) {l : List UInt8} : Runs P g H w (do pure (Next.value (← convert s d (.string ⟨l.toArray⟩)))) (.str l) H :=
  Runs.same hI (run_v_ok (v := .string ⟨l.toArray⟩) (by simp only [convert, Sem.run_bind, run_underlying hs, run_underlying hd, Result.andThen_ok]; rfl)) (by simp only [RV])
theorem snd_ext (hI : Inv g H w) {vs : List PV} {u : Value} (hu : RV g H (.tup vs) u) {i : Nat} {p : PV} (hp : vs[i]? = some p) : Runs P g H w (do pure (Next.value (← Instr.extract u i))) p H := by
  simp only [RV] at hu
  obtain ⟨us, rfl, hr⟩ := hu
  obtain ⟨v, h1, h2⟩ := hr.get hp
  exact Runs.same hI (run_v_ok (v := v) (by simp [Instr.extract, h1])) h2
theorem snd_fad (hI : Inv g H w) {S : TypeId} {fields : Array Field} {f : Nat} {fd : Field} {i : TypeInfo} (hS : P.underlying S = some (.struct fields)) (hf : fields[f]? = some fd) (hi : P.info? fd.type = some i) (h0 : 0 < i.size)
    {p : PV} {u : Value} (hu : RV g H p u) {r : PV} {H' : Hp} (h : (match (generalizing := false) p with | .ptr id o => some (.ptr id (o + fd.offset), H) | .ep cs o => some (.ep cs (o + fd.offset), H) | _ => none) = some (r, H')) :
    Runs P g H w (do pure (Next.value (← Instr.fieldAt S u f))) r H' := by
  have key : ∀ b o, u = .pointer (some ⟨b, o, none⟩) → (Instr.fieldAt S u f).run P w = .ok (.pointer (some ⟨b, o + fd.offset, none⟩)) w := fun b o hu => by
    subst hu
    have hs : (sizeOf fd.type).run P w = .ok i.size w := by simp [sizeOf, typeInfo, hi]
    have hne : i.size ≠ 0 := by omega
    simp only [Instr.fieldAt, Sem.run_bind, run_underlying hS, Result.andThen_ok, hf, Instr.sureAddr, Sem.run_pure, fieldPlace, hs]
    rw [if_neg hne, Addr.add_lit]
    rfl
  cases p <;> simp only [Option.some.injEq, Prod.mk.injEq, reduceCtorEq] at h
  · obtain ⟨rfl, rfl⟩ := h
    simp only [RV] at hu
    obtain ⟨hid, b, e, top, hm, hv⟩ := hu
    refine Runs.same hI (run_v_ok (key _ _ hv)) ?_
    simp only [RV]
    exact ⟨hid, b, e, top, hm, by rw [Nat.add_assoc]⟩
  · obtain ⟨rfl, rfl⟩ := h
    simp only [RV, RC] at hu
    obtain ⟨b, o, vs, hv, h1, h2⟩ := hu
    refine Runs.same hI (run_v_ok (key _ _ hv)) ?_
    simp only [RV, RC]
    exact ⟨b, o, vs, by rw [Nat.add_assoc], h1, h2⟩
theorem snd_iad (hI : Inv g H w) {T e : TypeId} {i : TypeInfo} (ht : P.underlying T = some (.slice e)) (hi : P.info? e = some i) {p q : PV} {u v : Value} (hu : RV g H p u) (hv : RV g H q v) {r : PV} {H' : Hp}
    (h : (match (generalizing := false) p, q with
      | .sl _ sz' n cs, .int _ z => if i.size = sz' ∧ 0 ≤ z ∧ z < n then some (.ep ((cs.drop (z.toNat * i.size)).take i.size) 0, H) else none
      | .row id off sz' n, .int _ z => if i.size = sz' ∧ 0 ≤ z ∧ z < n then some (.ptr id (off + z.toNat * i.size), H) else none
      | _, _ => none) = some (r, H')) : Runs P g H w (do pure (Next.value (← Instr.indexAt T u v))) r H' := by
  have key : ∀ ad n c k z, u = .slice (some ad) n c → v = .int k z → 0 ≤ z ∧ z < n → (Instr.indexAt T u v).run P w = .ok (.pointer (some (ad.add (z.toNat * i.size)))) w := fun ad n c k z hu hv hz => by
    subst hu; subst hv
    have hs : (sizeOf e).run P w = .ok i.size w := by simp [sizeOf, typeInfo, hi]
    simp only [Instr.indexAt, asIntOf, Sem.run_bind, Sem.run_pure, run_underlying ht, Result.andThen_ok]
    rw [if_pos hz]
    simp only [Sem.run_bind, hs, Result.andThen_ok, Sem.run_pure]
  cases p <;> cases q <;> simp only [reduceCtorEq] at h
  · rename_i t sz n cs k z
    split at h
    · rename_i hc
      cases h
      obtain ⟨hsz, hz⟩ := hc
      have h0 : 0 < n := by omega
      have hsl : ∃ b off cap vs, u = .slice (some ⟨b, off, none⟩) n cap ∧ g.σ.holds b off vs ∧ RCs g.σ cs vs := by
        cases t with
        | nil => simp only [RV, RC] at hu; obtain ⟨_, A, cap, rfl, _, _, _, hx⟩ := hu; obtain ⟨b, off, vs, rfl, h1, h2⟩ := hx h0; exact ⟨_, _, _, _, rfl, h1, h2⟩
        | no => simp only [RV, RC] at hu; obtain ⟨_, A, cap, rfl, _, _, _, hx⟩ := hu; obtain ⟨b, off, vs, rfl, h1, h2⟩ := hx h0; exact ⟨_, _, _, _, rfl, h1, h2⟩
        | tok k => simp only [RV, RC] at hu; obtain ⟨_, ⟨_, A, cap, rfl, _, _, _, hx⟩, _⟩ := hu; obtain ⟨b, off, vs, rfl, h1, h2⟩ := hx h0; exact ⟨_, _, _, _, rfl, h1, h2⟩
      obtain ⟨b, off, cap, vs, hu', h1, h2⟩ := hsl
      simp only [RV] at hv
      refine Runs.same hI (run_v_ok (key _ _ _ _ _ hu' hv hz)) ?_
      simp only [RV, RC, Nat.add_zero]
      exact ⟨b, off + z.toNat * i.size, _, by rw [Addr.add_lit], (h1.drop _).take _, (h2.drop _).take _⟩
    · cases h
  · rename_i id off sz n k z
    split at h
    · rename_i hc
      cases h
      obtain ⟨hsz, hz⟩ := hc
      simp only [RV] at hu hv
      obtain ⟨hid, b, e', top, cap, hm, hu', _⟩ := hu
      refine Runs.same hI (run_v_ok (key _ _ _ _ _ hu' hv hz)) ?_
      simp only [RV]
      exact ⟨hid, b, e', top, hm, by rw [Addr.add_lit, Nat.add_assoc]⟩
    · cases h
theorem snd_iaa (hI : Inv g H w) {T e : TypeId} {i : TypeInfo} {len : Nat} (ht : P.underlying T = some (.array len e)) (hi : P.info? e = some i) {p q : PV} {u v : Value} (hu : RV g H p u) (hv : RV g H q v) {r : PV} {H' : Hp}
    (h : (match (generalizing := false) p, q with
      | .ptr id o, .int _ z => if 0 ≤ z ∧ z < len then some (.ptr id (o + z.toNat * i.size), H) else none
      | .ep cs o, .int _ z => if 0 ≤ z ∧ z < len then some (.ep cs (o + z.toNat * i.size), H) else none
      | _, _ => none) = some (r, H')) : Runs P g H w (do pure (Next.value (← Instr.indexAt T u v))) r H' := by
  have key : ∀ b o k z, u = .pointer (some ⟨b, o, none⟩) → v = .int k z → 0 ≤ z ∧ z < len → (Instr.indexAt T u v).run P w = .ok (.pointer (some ⟨b, o + z.toNat * i.size, none⟩)) w := fun b o k z hu hv hz => by
    subst hu; subst hv
    have hs : (sizeOf e).run P w = .ok i.size w := by simp [sizeOf, typeInfo, hi]
    simp only [Instr.indexAt, asIntOf, Instr.sureAddr, Sem.run_bind, Sem.run_pure, run_underlying ht, Result.andThen_ok]
    rw [if_pos hz]
    simp only [Sem.run_bind, hs, Result.andThen_ok, Sem.run_pure, Addr.add_lit]
  cases p <;> cases q <;> simp only [reduceCtorEq] at h
  · rename_i id o k z
    split at h
    · rename_i hc
      cases h
      simp only [RV] at hu hv
      obtain ⟨hid, b, e', top, hm, hu'⟩ := hu
      refine Runs.same hI (run_v_ok (key _ _ _ _ hu' hv hc)) ?_
      simp only [RV]
      exact ⟨hid, b, e', top, hm, by rw [Nat.add_assoc]⟩
    · cases h
  · rename_i cs o k z
    split at h
    · rename_i hc
      cases h
      simp only [RV, RC] at hu hv
      obtain ⟨b, o', vs, hu', h1, h2⟩ := hu
      refine Runs.same hI (run_v_ok (key _ _ _ _ hu' hv hc)) ?_
      simp only [RV, RC]
      exact ⟨b, o', vs, by rw [Nat.add_assoc], h1, h2⟩
    · cases h
theorem snd_prt (hI : Inv g H w) {T : TypeId} {fields : Array Field} {f : Nat} {fd : Field} {d : TypeDesc} {i : TypeInfo} (hT : P.underlying T = some (.struct fields)) (hf : fields[f]? = some fd) (hd : P.underlying fd.type = some d) (hi : P.info? fd.type = some i)
    {cs : List PV} {u : Value} (hu : RV g H (.agg cs) u) {r : PV} (h : PV.of? (isAggD d) (if isAggD d then i.size else 1) ((cs.drop fd.offset).take (if isAggD d then i.size else 1)) = some r) :
    Runs P g H w (do pure (Next.value (← Instr.field T u f))) r H := by
  simp only [RV] at hu
  obtain ⟨vs, rfl, hr⟩ := hu
  have hag : (isAgg fd.type).run P w = .ok (isAggD d) w := by
    simp only [isAgg, Sem.run_bind, run_underlying hd, Result.andThen_ok]
    cases d <;> rfl
  have hs : (sizeOf fd.type).run P w = .ok i.size w := by simp [sizeOf, typeInfo, hi]
  have hrr := (hr.drop fd.offset).take (if isAggD d then i.size else 1)
  have hrun : (Instr.field T (.agg ⟨vs⟩) f).run P w = (part fd.type ⟨vs⟩ fd.offset).run P w := by
    simp only [Instr.field, Sem.run_bind, run_underlying hT, Result.andThen_ok, hf, asAgg, Sem.run_pure]
  cases hdd : isAggD d with
  | true =>
    rw [hdd] at h hrr hag
    simp only [PV.of?, if_true] at h hrr
    split at h
    · rename_i hl
      cases h
      refine Runs.same hI (v := .agg ⟨(vs.drop fd.offset).take i.size⟩) (run_v_ok ?_) (by simp only [RV]; exact ⟨_, rfl, hrr⟩)
      rw [hrun]
      simp only [part, Sem.run_bind, hag, Result.andThen_ok, if_true, hs, Sem.run_pure]
      congr 2
      apply Array.ext'
      simp [List.take_drop, Nat.add_comm]
    · cases h
  | false =>
    rw [hdd] at h hrr hag
    simp only [PV.of?, Bool.false_eq_true, if_false] at h hrr
    split at h
    · split at h
      · rename_i q heq
        cases h
        rw [heq] at hrr
        simp only [RVs] at hrr
        obtain ⟨v, rr, hv, h1, h2⟩ := hrr
        subst h2
        have hget : vs[fd.offset]? = some v := by
          have : ((vs.drop fd.offset).take 1)[0]? = some v := by rw [hv]; rfl
          have := get_take_some this
          rwa [List.getElem?_drop, Nat.add_zero] at this
        refine Runs.same hI (v := v) (run_v_ok ?_) h1
        rw [hrun]
        simp only [part, Sem.run_bind, hag, Result.andThen_ok]
        simp [hget]
      · cases h
    · cases h
theorem snd_idx (hI : Inv g H w) {T : TypeId} (ht : P.underlying T = some .string) {l : List UInt8} {k : IntKind} {z : Int} (h0 : 0 ≤ z) {c : UInt8} (hc : l[z.toNat]? = some c) :
    Runs P g H w (do pure (Next.value (← Instr.index T (.string ⟨l.toArray⟩) (.int k z)))) (b8 c) H := by
  refine Runs.same hI (run_v_ok (v := .int .u8 c.toNat) ?_) (by simp only [b8, RV])
  have hg : (⟨l.toArray⟩ : ByteArray)[z.toNat]? = some c := by
    have hlt : z.toNat < l.length := (List.getElem?_eq_some_iff.1 hc).1
    rw [getElem?_pos _ _ (by simpa [ByteArray.size] using hlt)]
    have := (List.getElem?_eq_some_iff.1 hc).2
    exact congrArg some this
  simp only [Instr.index, asIntOf, Sem.run_bind, Sem.run_pure, run_underlying ht, Result.andThen_ok]
  rw [if_pos h0, hg]
  rfl
theorem snd_len_str (hI : Inv g H w) {T ty : TypeId} {ats : Array TypeId} (ht : P.underlying T = some .string) (h0 : ats[0]? = some T) {l : List UInt8} : Runs P g H w (do pure (Next.value (← Builtin.len_ ats ty #[.string ⟨l.toArray⟩]))) (.int .i64 l.length) H := by
  refine Runs.same hI (run_v_ok (v := .int .i64 l.length) ?_) (by simp only [RV])
  have hsz : (⟨l.toArray⟩ : ByteArray).size = l.length := by simp [ByteArray.size]
  simp [Builtin.len_, h0, run_underlying ht, goInt, hsz]
theorem snd_len_sl (hI : Inv g H w) {T e ty : TypeId} {ats : Array TypeId} (ht : P.underlying T = some (.slice e)) (h0 : ats[0]? = some T) {A : Option Addr} {n c : Nat} : Runs P g H w (do pure (Next.value (← Builtin.len_ ats ty #[.slice A n c]))) (.int .i64 n) H := by
  refine Runs.same hI (run_v_ok (v := .int .i64 n) ?_) (by simp only [RV])
  simp [Builtin.len_, h0, run_underlying ht, goInt]
theorem snd_min (hI : Inv g H w) {ats : Array TypeId} {ty : TypeId} {k : IntKind} {m n : Int} : Runs P g H w (do pure (Next.value (← Builtin.min_ ats ty #[.int k m, .int k n]))) (.int k (if n < m then n else m)) H :=
  Runs.same hI (run_v_ok (v := .int k (if n < m then n else m)) (by simp [Builtin.min_, Builtin.min2])) (by simp only [RV])
theorem snd_max (hI : Inv g H w) {ats : Array TypeId} {ty : TypeId} {k : IntKind} {m n : Int} : Runs P g H w (do pure (Next.value (← Builtin.max_ ats ty #[.int k m, .int k n]))) (.int k (if m < n then n else m)) H :=
  Runs.same hI (run_v_ok (v := .int k (if n > m then n else m)) (by simp [Builtin.max_, Builtin.max2])) (by simp only [RV])
end
end Go.Proofs.YtnljpfjoboafoaaDoor.Ev
