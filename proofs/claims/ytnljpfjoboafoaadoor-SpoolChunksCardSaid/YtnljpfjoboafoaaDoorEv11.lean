/- That the evaluator tells what append does. -/
import Derived.Test.YtnljpfjoboafoaaDoorEv10
namespace Go.Proofs.YtnljpfjoboafoaaDoor.Ev
set_option linter.all false
open Go Go.RowKit
section
variable {P : Program} {g : Gh} {H : Hp} {w : World} {tm : List PV} {a : Act} {call : Nat → List PV → Hp → Option (PV × Hp)}

/-- What is appended: so many elements, these cells, whatever is drawn meanwhile. -/
structure Src (P : Program) (w : World) (size : Nat) (y : Value) (m : Nat) (news : List Value) : Prop where
  len : ∀ w', (Builtin.lenOf y).run P w' = .ok m w'
  cells : ∀ w' : World, w'.heap = w.heap → (Builtin.firstCells size m y).run P w' = .ok news.toArray w'
  size : news.length = m * size

theorem tailP_src {p : PV} {y : Value} (hI : Inv g H w) (hp : RV g H p y) {sz m : Nat} {ds : List PV} (ht : tailP p = some (sz, m, ds)) {size : Nat} (hs : m = 0 ∨ sz = size) : ∃ news, Src P w size y m news ∧ RCs g.σ ds news ∧ ds.length = m * size ∧ ∀ v ∈ news, v.oneCell' = true := by
  cases p <;> simp only [tailP, reduceCtorEq, Option.some.injEq, Prod.mk.injEq] at ht
  case ne0 =>
    obtain ⟨rfl, rfl, rfl⟩ := ht
    simp only [RV] at hp
    obtain ⟨ad, cap, rfl⟩ := hp
    exact ⟨[], ⟨fun w' => rfl, fun w' _ => run_firstCells_some (P := P) w' size 0 ad 0 cap [] (by simp) (fun j v h => by simp at h), by simp⟩, by simp only [RCs], by simp, fun v hv => by cases hv⟩
  · rename_i l
    obtain ⟨rfl, rfl, rfl⟩ := ht
    simp only [RV] at hp
    subst hp
    have hsz : (⟨l.toArray⟩ : ByteArray).size = l.length := by simp [ByteArray.size]
    refine ⟨l.map fun c => .int .u8 c.toNat, ⟨fun w' => by simp [Builtin.lenOf, hsz], fun w' _ => ?_, ?_⟩, RCs_b8 l, ?_, fun v hv => by obtain ⟨c, _, rfl⟩ := List.mem_map.1 hv; rfl⟩
    · simp only [Builtin.firstCells, Sem.run_pure]
      congr 1
      apply Array.ext'
      simp
    · simp; rcases hs with h | h
      · simp [h]
      · rw [← h]; omega
    · simp; rcases hs with h | h
      · simp [h]
      · rw [← h]; omega
  · rename_i t sz' n cs
    obtain ⟨rfl, rfl, rfl⟩ := ht
    obtain ⟨A, cap, rfl, hc, hl, _, hx⟩ := sl_RC hp
    rcases Nat.eq_zero_or_pos n with h0 | h0
    · subst h0
      have hcs : cs = [] := List.eq_nil_of_length_eq_zero (by simpa using hl)
      subst hcs
      refine ⟨[], ⟨fun w' => rfl, fun w' _ => ?_, by simp⟩, by simp only [RCs], by simp, fun v hv => by cases hv⟩
      cases A with
      | none => simp [Builtin.firstCells]
      | some ad => exact run_firstCells_some (P := P) w' size 0 ad 0 cap [] (by simp) (fun j v h => by simp at h)
    · obtain ⟨b, off, vs, rfl, h1, h2⟩ := hx h0
      have hs' : sz' = size := by rcases hs with h | h; omega; exact h
      subst hs'
      have hvl : vs.length = n * sz' := by rw [← h2.length]; exact hl
      refine ⟨vs, ⟨fun w' => rfl, fun w' hw => run_firstCells_some (P := P) w' sz' n ⟨b, off, none⟩ n cap vs hvl (fun j v hv => ?_), hvl⟩, h2, hl, fun v hv => ?_⟩
      · rw [Addr.add_lit, cell_heap hw]
        exact hI.σw _ _ _ (h1 j v hv)
      · obtain ⟨j, hj, rfl⟩ := List.getElem_of_mem hv
        exact hI.one _ _ _ (h1 j _ (List.getElem?_eq_getElem hj))

theorem isSrcD_spec {d : TypeDesc} (h : isSrcD d = true) : d = .string ∨ ∃ e, d = .slice e := by
  cases d <;> first | (simp [isSrcD] at h; done) | (exact .inl rfl) | (exact .inr ⟨_, rfl⟩)

theorem run_append_in {T U e ty : TypeId} {ats : Array TypeId} {i : TypeInfo} {d : TypeDesc} (ht : P.underlying T = some (.slice e)) (hT : ats[0]? = some T) (hU0 : ats[1]? = some U) (hU : P.underlying U = some d) (hd : isSrcD d = true) (hi : P.info? e = some i)
    {A : Option Addr} {n cap m : Nat} {y : Value} {news : List Value} (hs : Src P w i.size y m news) (hle : n + m ≤ cap) {w' : World} (hst : (match A with | some ad => storeCells (ad.add (n * i.size)) news | none => pure () : Sem Unit).run P w = .ok () w') :
    (Builtin.append_ ats ty #[.slice A n cap, y]).run P w = .ok (.slice A (n + m) cap) w' := by
  have h1 := hs.cells w rfl
  have h2 := hs.len w
  rcases isSrcD_spec hd with rfl | ⟨e', rfl⟩ <;> cases A <;> simp [Builtin.append_, hT, hU0, run_underlying ht, run_underlying hU, sizeOf, typeInfo, hi, h1, h2, hle] <;> first | (have h3 : Sem.run P (pure () : Sem Unit) w = .ok () w' := hst; simpa using h3) | (have h3 := hst; simp only at h3; rw [h3]; rfl)

theorem run_append_out {T U e ty : TypeId} {ats : Array TypeId} {i : TypeInfo} {d : TypeDesc} {z : Value} (ht : P.underlying T = some (.slice e)) (hT : ats[0]? = some T) (hU0 : ats[1]? = some U) (hU : P.underlying U = some d) (hd : isSrcD d = true) (hi : P.info? e = some i) (hz : i.zero = some z)
    {A : Option Addr} {n cap m : Nat} {y : Value} {olds news : List Value} (hs : Src P w i.size y m news) (ho : Src P w i.size (.slice A n cap) n olds) (hg : cap < n + m) (hb : 0 < i.bytes) (hroom : (n + m) * i.bytes ≤ roomMax) :
    ∃ c, n + m ≤ c ∧ c ≤ 9223372036854775807 ∧ (Builtin.append_ ats ty #[.slice A n cap, y]).run P w = .ok (.slice (some ⟨w.heap.size, 0, none⟩) (n + m) c) (w.drew.alloc (.cells (olds.toArray ++ news.toArray ++ Builtin.zeroCells z.cells (c - (n + m))) e)) := by
  have hroom' : (n + m) * i.bytes ≤ 70368744177664 := hroom
  have hnm : n + m ≤ 70368744177664 := Nat.le_trans (Nat.le_mul_of_pos_right _ hb) hroom'
  refine ⟨(Question.appendCap (n + m) cap e).cut (w.tape w.drawn (.appendCap (n + m) cap e)), by simp only [Question.cut]; omega, by
    simp only [Question.cut]
    have := Nat.mod_lt (w.tape w.drawn (.appendCap (n + m) cap e)) (show 2 ^ 63 - (n + m) > 0 by omega)
    omega, ?_⟩
  have h1 := hs.cells w.drew rfl
  have h2 := hs.len w
  have h3 := ho.cells w.drew rfl
  have hn : ¬ (n + m ≤ cap) := by omega
  have h48 : ¬ (281474976710656 < Builtin.nextslicecap (n + m) cap * i.bytes) := by
    have := growslice_fits (need := n + m) (old := cap) (bytes := i.bytes) hg (by omega)
    omega
  have hb0 : ¬ i.bytes = 0 := by omega
  rcases isSrcD_spec hd with rfl | ⟨e', rfl⟩ <;> simp [Builtin.append_, hT, hU0, run_underlying ht, run_underlying hU, sizeOf, typeInfo, zeroValue, hi, hz, h1, h2, h3, hn, h48, hb0, Question.forced, newRow]
  all_goals
    congr 2
    apply Array.ext'
    simp

/-- A right to append to a nil slice. -/
theorem src_nil (A : Option Addr) {sz : Nat} : Src P w sz (.slice A 0 0) 0 [] := by
  refine ⟨fun _ => rfl, fun w' _ => ?_, by simp⟩
  cases A with
  | none => simp [Builtin.firstCells]
  | some ad => exact run_firstCells_some (P := P) w' sz 0 ad 0 0 [] (by simp) (fun j v h => by simp at h)
theorem add_nil (hI : Inv g H w) : ∃ g', Inv g' (H ++ [.tok]) w ∧ Ext g H w g' (H ++ [.tok]) w ∧ g'.μ H.length = none ∧ ∀ id, id < H.length → g'.μ id = g.μ id := by
  have hal : ∀ id, Alive (H ++ [.tok]) id → g.μ id = muPut g.μ H.length none id → id < H.length ∨ g.μ id = none := fun id ha hm => by
    rcases Nat.lt_or_ge id H.length with h | h
    · exact .inl h
    · have := alive_append_one ha h
      subst this
      rw [hm, muPut_self]
      exact .inr rfl
  have hal2 : ∀ id x, Alive (H ++ [.tok]) id → muPut g.μ H.length none id = some x → id < H.length ∧ Alive H id ∧ g.μ id = some x := fun id x ha hm => by
    rcases Nat.lt_or_ge id H.length with h | h
    · rw [muPut_ne (by omega)] at hm
      refine ⟨h, ?_, hm⟩
      unfold Alive at ha ⊢
      rwa [get_append_old _ _ h] at ha
    · have := alive_append_one ha h
      subst this
      rw [muPut_self] at hm
      cases hm
  have hE : Ext g H w ⟨g.σ, muPut g.μ H.length none⟩ (H ++ [.tok]) w := by
    refine ⟨fun _ _ _ h => h, fun id hid => muPut_ne (by omega), by simp, fun k hk hk' => ?_, rfl, rfl, rfl, Nat.le_refl _, fun _ _ _ => rfl, fun _ _ _ _ => rfl, fun b ⟨id, e, top, ha, hm⟩ => ?_⟩
    · rw [get_append_old _ _ hk] at hk'
      exact ⟨hk', muPut_ne (by omega)⟩
    · obtain ⟨h1, h2, h3⟩ := hal2 id _ ha hm
      exact .inl ⟨id, e, top, h2, h3⟩
  refine ⟨⟨g.σ, muPut g.μ H.length none⟩, ⟨hI.σw, hI.one, hI.z, fun id b e top ha hm => ?_, fun id cs b e top hc hm => ?_, fun id id' b e top e' top' ha ha' hm hm' => ?_, hI.c.ext hE⟩, hE, muPut_self _ _ _, fun id hid => muPut_ne (by omega)⟩
  · obtain ⟨h1, h2, h3⟩ := hal2 id _ ha hm
    exact hI.blk id b e top h2 h3
  · obtain ⟨h1, h2, h3⟩ := hal2 id _ (.inr ⟨cs, hc⟩) hm
    rw [get_append_old _ _ h1] at hc
    obtain ⟨h5, us, h6, h7⟩ := hI.obj id cs b e top hc h3
    exact ⟨h5, us, h6.ext hE, h7⟩
  · obtain ⟨h1, h2, h3⟩ := hal2 id _ ha hm
    obtain ⟨h4, h5, h6⟩ := hal2 id' _ ha' hm'
    exact hI.dist id id' b e top e' top' h2 h5 h3 h6

theorem snd_app (hI : Inv g H w) {T U e ty : TypeId} {ats : Array TypeId} {i : TypeInfo} {d : TypeDesc} {z : Value} (ht : P.underlying T = some (.slice e)) (hT : ats[0]? = some T) (hU0 : ats[1]? = some U) (hU : P.underlying U = some d) (hd : isSrcD d = true) (hi : P.info? e = some i) (hz : i.zero = some z) (hzs : z.cells.size = i.size)
    (hpos : 0 < i.size) (hb : 0 < i.bytes) {x y : X} {u v : Value} (hu : RV g H (x.ev tm) u) (hv : RV g H (y.ev tm) v) {r : PV} {H' : Hp} (h : evalOp call tm H (.app i.size i.bytes x y) = some (r, H')) :
    Runs P g H w (do pure (Next.value (← Builtin.append_ ats ty #[u, v]))) r H' := by
  simp only [evalOp] at h
  generalize x.ev tm = p at h hu
  split at h
  · rename_i t sz0 n cs sz' m ds htl
    split at h
    · rename_i hc
      obtain ⟨hc1, hc2, hroom⟩ := hc
      obtain ⟨news, hs, hds, hdl, hone⟩ := tailP_src hI hv htl hc1
      have hgrow : ∀ {H0 : Hp} {A : Option Addr} {cap : Nat} {olds : List Value}, H0.length = H.length → Inv g H0 w → Ext g H w g H0 w → u = .slice A n cap → Src P w i.size (.slice A n cap) n olds → RCs g.σ cs olds → (∀ v ∈ olds, v.oneCell' = true) → cap < n + m →
          Runs P g H w (do pure (Next.value (← Builtin.append_ ats ty #[u, v]))) (.sl (.tok H.length) i.size (n + m) (cs ++ ds)) (H0 ++ [.tok]) := fun {H0 A cap olds} hH0 hI0 hE0 hu0 ho hr hoo hlt => by
        subst hu0
        obtain ⟨c, hge, hc63, hrun⟩ := run_append_out (ty := ty) ht hT hU0 hU hd hi hz hs ho hlt hb hroom
        have hnl : news.length = m * i.size := hs.size
        have hol : olds.length = n * i.size := ho.size
        have hvl : (olds ++ news).length = (n + m) * i.size := by rw [List.length_append, hnl, hol, Nat.add_mul]
        have hcz : (olds.toArray ++ news.toArray ++ Builtin.zeroCells z.cells (c - (n + m))).size = c * i.size := by
          simp only [Array.size_append, List.size_toArray, size_zeroCells, hzs, hnl, hol]
          rw [Nat.sub_mul, Nat.add_mul]
          have : (n + m) * i.size ≤ c * i.size := Nat.mul_le_mul_right _ hge
          rw [Nat.add_mul] at this
          omega
        obtain ⟨g', h1, h2, h3, h4⟩ := grow_tok (w' := w.drew.alloc (.cells (olds.toArray ++ news.toArray ++ Builtin.zeroCells z.cells (c - (n + m))) e)) hI0 rfl rfl rfl rfl (olds ++ news) (fun j u hj => by
            have hjl := (List.getElem?_eq_some_iff.1 hj).1
            rw [Array.getElem?_append_left (by simpa using hjl)]
            simpa using hj) (fun v hv => (List.mem_append.1 hv).elim (hoo v) (hone v)) (c * i.size) (by rw [hvl]; exact Nat.mul_le_mul_right _ hge) (by rw [hcz]; exact Nat.le_refl _) (.inl rfl)
        refine Runs.of (run_v_ok hrun) h1 ?_ (hE0.trans h2)
        simp only [RV]
        refine ⟨by simp; omega, rv_sl_new h3 ((hr.append hds).mono h2.σ) (by rw [List.length_append, hdl, hr.length, hol, Nat.add_mul]) c hge, fun _ => ?_⟩
        unfold OwnAt
        rw [← hH0, h4]
        exact ⟨hpos, 0, n + m, c, rfl, by rw [hvl, Nat.zero_add], by rw [Nat.zero_add]; exact Nat.le_refl _, .inr hc63⟩
      have hnil : ∀ {H0 : Hp} {A : Option Addr}, H0.length = H.length → Inv g H0 w → Ext g H w g H0 w → u = .slice A 0 0 → n = 0 → cs = [] → Runs P g H w (do pure (Next.value (← Builtin.append_ ats ty #[u, v]))) (.sl (.tok H.length) i.size (n + m) (cs ++ ds)) (H0 ++ [.tok]) := fun {H0 A} hH0 hI0 hE0 hu0 hn0 hcs0 => by
        subst hu0; subst hn0; subst hcs0
        rcases Nat.eq_zero_or_pos m with h0 | h0
        · subst h0
          have hds0 : ds = [] := List.eq_nil_of_length_eq_zero (by simpa using hdl)
          subst hds0
          obtain ⟨g', h1, h2, h3, _⟩ := add_nil hI0
          refine Runs.of (run_v_ok (run_append_in (w' := w) (A := A) ht hT hU0 hU hd hi hs (Nat.le_refl _) (by
            have hn0 : news = [] := List.eq_nil_of_length_eq_zero (by have := hs.size; simpa using this)
            subst hn0
            cases A with
            | none => rfl
            | some ad => rfl))) h1 ?_ (hE0.trans h2)
          simp only [RV]
          refine ⟨by simp; omega, ?_, fun _ => ?_⟩
          · simp only [RC]
            exact ⟨fun k h => (by cases h), A, 0, rfl, Nat.le_refl _, fun h => (by cases h), by simp, fun h => absurd h (by simp)⟩
          · unfold OwnAt
            rw [← hH0, h3]
            exact ⟨A, rfl⟩
        · exact hgrow (olds := []) hH0 hI0 hE0 rfl (src_nil A) (by simp only [RCs]) (fun v hv => by cases hv) (by omega)
      split at h
      · cases h
        obtain ⟨A, cap, hu', hc, hl, hn, hxx⟩ := sl_RC hu
        obtain ⟨rfl, rfl, rfl⟩ := hn rfl
        have hcs : cs = [] := List.eq_nil_of_length_eq_zero (by simpa using hl)
        exact hnil rfl hI (Ext.refl g H w) hu' rfl hcs
      · rename_i k
        split at h
        · rename_i hk
          cases h
          have hlk : (H.set k .dead).length = H.length := by simp
          obtain ⟨A, cap, hu', hc, hl, _, hxx⟩ := sl_RC hu
          simp only [RV] at hu
          obtain ⟨hkl, _, hown⟩ := hu
          have hown := hown hk
          unfold OwnAt at hown
          cases hm : g.μ k with
          | none =>
            rw [hm] at hown
            obtain ⟨A', hown⟩ := hown
            rw [hown] at hu'
            cases hu'
            have hcs : cs = [] := List.eq_nil_of_length_eq_zero (by simpa using hl)
            exact hnil hlk (hI.kill k) (Ext.kill g H w k) hown rfl hcs
          | some q =>
            obtain ⟨b, e', top⟩ := q
            rw [hm] at hown
            obtain ⟨hp0, off, n', cap', hv', he', htop⟩ := hown
            rw [hu'] at hv'
            cases hv'
            have hsz0 : sz0 = i.size := by rcases hc2 with h | h <;> omega
            subst hsz0
            have hcells : ∃ olds, Src P w i.size (.slice (some ⟨b, off, none⟩) n cap) n olds ∧ RCs g.σ cs olds ∧ g.σ.holds b off olds := by
              rcases Nat.eq_zero_or_pos n with h0 | h0
              · subst h0
                have hcs : cs = [] := List.eq_nil_of_length_eq_zero (by simpa using hl)
                subst hcs
                exact ⟨[], ⟨fun _ => rfl, fun w' _ => run_firstCells_some (P := P) w' i.size 0 ⟨b, off, none⟩ 0 cap [] (by simp) (fun j v h => by simp at h), by simp⟩, by simp only [RCs], fun j v h => by simp at h⟩
              · obtain ⟨b', off', vs, hA, h1, h2⟩ := hxx h0
                cases hA
                have hvl : vs.length = n * i.size := by rw [← h2.length]; exact hl
                exact ⟨vs, ⟨fun _ => rfl, fun w' hw => run_firstCells_some (P := P) w' i.size n ⟨b, off, none⟩ n cap vs hvl (fun j v hv => by
                  rw [Addr.add_lit, cell_heap hw]
                  exact hI.σw _ _ _ (h1 j v hv)), hvl⟩, h2, h1⟩
            obtain ⟨olds, ho, hr, hh⟩ := hcells
            rcases Nat.lt_or_ge cap (n + m) with hlt | hge
            · exact hgrow hlk (hI.kill k) (Ext.kill g H w k) hu' ho hr (fun v hv => by obtain ⟨j, hj, rfl⟩ := List.getElem_of_mem hv; exact hI.one _ _ _ (hh j _ (List.getElem?_eq_getElem hj))) hlt
            · have hnl : news.length = m * i.size := hs.size
              have hol : olds.length = n * i.size := ho.size
              have hfit : e' + news.length ≤ top := by
                have : (n + m) * i.size ≤ cap * i.size := Nat.mul_le_mul_right _ hge
                rw [Nat.add_mul] at this
                omega
              obtain ⟨hst, g', h1, h2, h3, h4⟩ := put_spare (P := P) hI hk hm hfit hone
              rw [hu']
              refine Runs.of (run_v_ok (run_append_in (w' := w.setCells b e' news) (A := some ⟨b, off, none⟩) ht hT hU0 hU hd hi hs hge (by simp only [Addr.add_lit, he']; exact hst))) h1 ?_ h2
              simp only [RV]
              refine ⟨by simp, ?_, fun _ => ?_⟩
              · simp only [RC]
                refine ⟨fun k h => (by cases h), _, cap, rfl, hge, fun h => (by cases h), by rw [List.length_append, hdl, hr.length, hol, Nat.add_mul], fun _ => ⟨b, off, olds ++ news, rfl, (hh.mono h2.σ).append ?_, (hr.append hds).mono h2.σ⟩⟩
                rw [hol, he']
                exact h3
              · unfold OwnAt
                rw [h4]
                exact ⟨hpos, off, n + m, cap, rfl, by rw [hnl, Nat.add_mul]; omega, htop⟩
        · cases h
      · cases h
    · cases h
  · cases h

theorem run_cut0 {T e : TypeId} {i : TypeInfo} (ht : P.underlying T = some (.slice e)) (hie : P.info? e = some i) {A : Option Addr} {n cap : Nat} {k k' : IntKind} :
    (Instr.sliceAt T (.slice A n cap) none (some (.int k 0)) (some (.int k' 0))).run P w = .ok (.slice A 0 0) w := by
  have hsz : (sizeOf e).run P w = .ok i.size w := by simp [sizeOf, typeInfo, hie]
  simp [Instr.sliceAt, Instr.slice, Instr.sliceBounds, Instr.sliceBound, run_underlying ht, hsz, asIntOf]
theorem snd_cut0 (hI : Inv g H w) {T e : TypeId} {i : TypeInfo} (ht : P.underlying T = some (.slice e)) (hie : P.info? e = some i) {x : X} {u : Value} (hu : RV g H (x.ev tm) u) {k k' : IntKind} {r : PV} {H' : Hp} (h : evalOp call tm H (.cut0 i.size x) = some (r, H')) :
    Runs P g H w (do pure (Next.value (← Instr.sliceAt T u none (some (.int k 0)) (some (.int k' 0))))) r H' := by
  simp only [evalOp] at h
  have key : ∀ {A : Option Addr} {n cap : Nat}, u = .slice A n cap → Runs P g H w (do pure (Next.value (← Instr.sliceAt T u none (some (.int k 0)) (some (.int k' 0))))) (.sl (.tok H.length) i.size 0 []) (H ++ [.tok]) := fun {A n cap} hu' => by
    subst hu'
    obtain ⟨g', h1, h2, h3, _⟩ := add_nil hI
    refine Runs.of (run_v_ok (run_cut0 ht hie)) h1 ?_ h2
    simp only [RV]
    refine ⟨by simp, ?_, fun _ => ?_⟩
    · simp only [RC]
      exact ⟨fun k h => (by cases h), A, 0, rfl, Nat.le_refl _, fun h => (by cases h), by simp, fun h => absurd h (by simp)⟩
    · unfold OwnAt
      rw [h3]
      exact ⟨A, rfl⟩
  generalize x.ev tm = p at h hu
  split at h
  · cases h
    obtain ⟨A, cap, hu', _⟩ := sl_RC hu
    exact key hu'
  · cases h
    simp only [RV] at hu
    obtain ⟨_, b, e, top, cap, _, hu', _⟩ := hu
    exact key hu'
  · cases h
/-! ### Rows that are written in place, made longer -/
theorem ones_ok {g : Gh} {H : Hp} : ∀ {ps : List PV} {vs : List Value}, ps.all PV.one = true → RVs g H ps vs → ∀ v ∈ vs, v.oneCell' = true
  | [], vs, _, hr, v, hv => by simp only [RVs] at hr; subst hr; cases hv
  | p :: ps, vs, h, hr, v, hv => by
    simp only [List.all_cons, Bool.and_eq_true] at h
    simp only [RVs] at hr
    obtain ⟨u, r, rfl, h1, h2⟩ := hr
    rcases List.mem_cons.1 hv with rfl | hv
    · exact one_ok h.1 h1
    · exact ones_ok h.2 h2 v hv
theorem row_src {id b e top n cap sz : Nat} {cs : List PV} (hI : Inv g H w) (hk : H[id]? = some (.cells cs)) (hm : g.μ id = some (b, e, top)) (off : Nat) (hl : off + n * sz ≤ cs.length) :
    ∃ news, Src P w sz (.slice (some ⟨b, e + off, none⟩) n cap) n news ∧ RVs g H ((cs.drop off).take (n * sz)) news := by
  obtain ⟨_, us, h1, h2⟩ := hI.obj id cs b e top hk hm
  have hul := h1.length
  refine ⟨(us.drop off).take (n * sz), ⟨fun w' => rfl, fun w' hw => run_firstCells_some (P := P) w' sz n ⟨b, e + off, none⟩ n cap _ (by simp; omega) (fun j v hv => ?_), by simp; omega⟩, (h1.drop off).take _⟩
  rw [Addr.add_lit, cell_heap hw]
  have := get_take_some hv
  rw [List.getElem?_drop] at this
  rw [Nat.add_assoc]
  exact h2 _ v this
theorem tailR_src {p : PV} {y : Value} (hI : Inv g H w) (hp : RV g H p y) {sz m : Nat} {ds : List PV} (ht : tailR H p = some (sz, m, ds)) {size : Nat} (hs : m = 0 ∨ sz = size) (hone : ds.all PV.one = true) : ∃ news, Src P w size y m news ∧ RVs g H ds news ∧ ds.length = m * size ∧ ∀ v ∈ news, v.oneCell' = true := by
  have old : tailP p = some (sz, m, ds) → ∃ news, Src P w size y m news ∧ RVs g H ds news ∧ ds.length = m * size ∧ ∀ v ∈ news, v.oneCell' = true := fun h => by
    obtain ⟨news, h1, h2, h3, h4⟩ := tailP_src (P := P) hI hp h hs
    exact ⟨news, h1, RVs.of_RCs h2, h3, h4⟩
  cases p
  case row id off sz' n =>
    simp only [tailR] at ht
    split at ht
    · rename_i cs hk
      split at ht
      · rename_i hl
        cases ht
        simp only [RV] at hp
        obtain ⟨hid, b, e, top, cap, hm, rfl, _⟩ := hp
        have hs' : m * sz = m * size := by rcases hs with h | h <;> rw [h]; simp
        rw [hs'] at hl hone ⊢
        obtain ⟨news, h1, h2⟩ := row_src (P := P) (cap := cap) hI hk hm off hl
        exact ⟨news, h1, h2, by simp; omega, ones_ok hone h2⟩
      · cases ht
    · cases ht
  all_goals exact old ht
theorem snd_appr (hI : Inv g H w) {T U e ty : TypeId} {ats : Array TypeId} {i : TypeInfo} {d : TypeDesc} {z : Value} (ht : P.underlying T = some (.slice e)) (hT : ats[0]? = some T) (hU0 : ats[1]? = some U) (hU : P.underlying U = some d) (hd : isSrcD d = true) (hi : P.info? e = some i) (hz : i.zero = some z) (hzs : z.cells.size = i.size)
    (hpos : 0 < i.size) (hb : 0 < i.bytes) {x y : X} {u v : Value} (hu : RV g H (x.ev tm) u) (hv : RV g H (y.ev tm) v) {r : PV} {H' : Hp} (h : evalOp call tm H (.appr i.size i.bytes x y) = some (r, H')) :
    Runs P g H w (do pure (Next.value (← Builtin.append_ ats ty #[u, v]))) r H' := by
  simp only [evalOp] at h
  generalize x.ev tm = p at h hu
  split at h
  case h_2 => cases h
  rename_i sz' m ds htl
  split at h
  case isFalse => cases h
  rename_i hc
  obtain ⟨news, hs, hds, hdl, hone⟩ := tailR_src (P := P) hI hv htl hc.1 hc.2
  have hnl : news.length = m * i.size := hs.size
  -- a new block
  have hgrow : ∀ {H0 : Hp} {A : Option Addr} {n cap : Nat} {cs : List PV} {olds : List Value}, H0.length = H.length → Inv g H0 w → Ext g H w g H0 w → u = .slice A n cap → Src P w i.size (.slice A n cap) n olds → RVs g H cs olds → cap < n + m → (n + m) * i.bytes ≤ roomMax →
      Runs P g H w (do pure (Next.value (← Builtin.append_ ats ty #[u, v]))) (.row H.length 0 i.size (n + m)) (H0 ++ [.cells (cs ++ ds)]) := fun {H0 A n cap cs olds} hH0 hI0 hE0 hu0 ho hr hlt hroom => by
    subst hu0
    obtain ⟨c, hge, hc63, hrun⟩ := run_append_out (ty := ty) ht hT hU0 hU hd hi hz hs ho hlt hb hroom
    have hol : olds.length = n * i.size := ho.size
    have hvl : (olds ++ news).length = (n + m) * i.size := by rw [List.length_append, hnl, hol, Nat.add_mul]
    have hcz : (olds.toArray ++ news.toArray ++ Builtin.zeroCells z.cells (c - (n + m))).size = c * i.size := by
      simp only [Array.size_append, List.size_toArray, size_zeroCells, hzs, hnl, hol]
      rw [Nat.sub_mul, Nat.add_mul]
      have : (n + m) * i.size ≤ c * i.size := Nat.mul_le_mul_right _ hge
      rw [Nat.add_mul] at this
      omega
    have hle : (n + m) * i.size ≤ c * i.size := Nat.mul_le_mul_right _ hge
    obtain ⟨g', h1, h2, h3⟩ := grow_obj (w' := w.drew.alloc (.cells (olds.toArray ++ news.toArray ++ Builtin.zeroCells z.cells (c - (n + m))) e)) hI0 rfl rfl rfl rfl ((hr.ext hE0).append (hds.ext hE0)) (fun j u hj => by
        have hjl := (List.getElem?_eq_some_iff.1 hj).1
        rw [Array.getElem?_append_left (by simpa using hjl)]
        simpa using hj) (by rw [hvl, hcz]; exact hle) (.inl rfl)
    refine Runs.of (run_v_ok hrun) h1 ?_ (hE0.trans h2)
    simp only [RV]
    rw [hH0] at h3
    refine ⟨by simp; omega, _, _, _, c, h3, rfl, hge, by rw [hcz]; omega, .inr hc63⟩
  -- in place
  have hin : ∀ {k b e0 top n cap : Nat} {cs : List PV}, (H[k]? = some (.cells cs) ∨ (H[k]? = some .tok ∧ cs = [])) → g.μ k = some (b, e0, top) → u = .slice (some ⟨b, e0, none⟩) n cap → cs.length = n * i.size → (e0 + cap * i.size ≤ top ∧ capOk cap) → n + m ≤ cap →
      Runs P g H w (do pure (Next.value (← Builtin.append_ ats ty #[u, v]))) (.row H.length 0 i.size (n + m)) (H.set k .dead ++ [.cells (cs ++ ds)]) := fun {k b e0 top n cap cs} hk hm hu0 hcl hcap hge => by
    have hfit : e0 + cs.length + news.length ≤ top := by
      have : (n + m) * i.size ≤ cap * i.size := Nat.mul_le_mul_right _ hge
      rw [Nat.add_mul] at this
      omega
    obtain ⟨hst, g', h1, h2, h3⟩ := put_more (P := P) hI hk hm hds hfit hone
    subst hu0
    refine Runs.of (run_v_ok (run_append_in (w' := w.setCells b (e0 + cs.length) news) (A := some ⟨b, e0, none⟩) ht hT hU0 hU hd hi hs hge (by simp only [Addr.add_lit, ← hcl]; exact hst))) h1 ?_ h2
    simp only [RV]
    exact ⟨by simp, _, _, _, cap, h3, rfl, hge, by omega, hcap.2⟩
  cases p with
  | row id off sz0 n =>
    simp only at h
    split at h
    · rename_i cs hk
      split at h
      · rename_i hcc
        obtain ⟨rfl, rfl, hcl, hall, hroom⟩ := hcc
        cases h
        simp only [RV] at hu
        obtain ⟨hid, b, e0, top, cap, hm, hu', hncap, hcap⟩ := hu
        simp only [Nat.add_zero] at hu' hcap
        rcases Nat.lt_or_ge cap (n + m) with hlt | hge
        · obtain ⟨olds, ho, hr⟩ := row_src (P := P) (cap := cap) (n := n) (sz := i.size) hI hk hm 0 (by omega)
          simp only [Nat.add_zero, List.drop_zero] at ho hr
          rw [List.take_of_length_le (by omega)] at hr
          exact hgrow (by simp) (hI.kill id) (Ext.kill g H w id) hu' ho hr hlt hroom
        · exact hin (.inl hk) hm hu' hcl.symm hcap hge
      · cases h
    · cases h
  | sl t sz0 n cs0 =>
    simp only at h
    split at h
    · rename_i hcc
      obtain ⟨rfl, hc2, hroom⟩ := hcc
      split at h
      · rename_i hm0
        cases h
        subst hm0
        obtain ⟨A, cap, hu', hcp, hl, _, _⟩ := sl_RC hu
        have hn0 : news = [] := List.eq_nil_of_length_eq_zero (by simpa using hnl)
        subst hn0
        subst hu'
        refine Runs.of (run_v_ok (run_append_in (w' := w) (A := A) ht hT hU0 hU hd hi hs (Nat.zero_le _) ?_)) hI (by simpa using hu) (Ext.refl g H w)
        cases A with
        | none => rfl
        | some ad => rfl
      · rename_i hm0
        have hmp : 0 < m := by omega
        have e0 : ∀ k : Nat, 0 + k = k := fun k => Nat.zero_add k
        split at h
        · cases h
          obtain ⟨A, cap, hu', hcp, hl, hn, _⟩ := sl_RC hu
          obtain ⟨rfl, _, rfl⟩ := hn rfl
          have := hgrow (H0 := H) (cs := []) (olds := []) rfl hI (Ext.refl g H w) hu' ⟨fun _ => rfl, fun _ _ => by simp [Builtin.firstCells], by simp⟩ (by simp only [RVs]) (by omega) (by rw [Nat.zero_add]; exact hroom)
          simpa using this
        · rename_i k
          split at h
          · rename_i hk
            cases h
            obtain ⟨A, cap, hu', hcp, hl, _, _⟩ := sl_RC hu
            simp only [RV] at hu
            obtain ⟨hkl, _, hown⟩ := hu
            have hown := hown hk
            unfold OwnAt at hown
            cases hm : g.μ k with
            | none =>
              rw [hm] at hown
              obtain ⟨A', hown⟩ := hown
              rw [hown] at hu'
              cases hu'
              have := hgrow (H0 := H.set k .dead) (cs := []) (olds := []) (by simp) (hI.kill k) (Ext.kill g H w k) hown (src_nil _) (by simp only [RVs]) (by omega) (by rw [Nat.zero_add]; exact hroom)
              simpa using this
            | some q =>
              obtain ⟨b, e', top⟩ := q
              rw [hm] at hown
              obtain ⟨hp0, off, n', cap', hv', he', htop⟩ := hown
              rw [hu'] at hv'
              cases hv'
              have hsz0 : sz0 = i.size := by rcases hc2 with h | h <;> omega
              subst hsz0
              have hoe : off = e' := by omega
              subst hoe
              rcases Nat.lt_or_ge cap (0 + m) with hlt | hge
              · have := hgrow (H0 := H.set k .dead) (cs := []) (olds := []) (by simp) (hI.kill k) (Ext.kill g H w k) hu' ⟨fun _ => rfl, fun w' _ => run_firstCells_some (P := P) w' i.size 0 ⟨b, off, none⟩ 0 cap [] (by simp) (fun j v h => by simp at h), by simp⟩ (by simp only [RVs]) hlt (by rw [Nat.zero_add]; exact hroom)
                simpa using this
              · have := hin (k := k) (cs := []) (n := 0) (.inr ⟨hk, rfl⟩) hm hu' (by simp) htop hge
                simpa using this
          · cases h
        · cases h
    · cases h
  | _ => simp at h
end
end Go.Proofs.YtnljpfjoboafoaaDoor.Ev
