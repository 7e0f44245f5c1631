/- Regions that draw their order, in which variables are made and written: any order comes to what the order of the text comes to. -/
import Derived.Test.YtnljpfjoboafoaaDoorEvF
namespace Go.Proofs.YtnljpfjoboafoaaDoor.Ev
set_option linter.all false
open Go Go.RowKit

section
variable {P : Program} {call : Nat → List PV → Hp → Option (PV × Hp)} {Q : Exit → Act → World → Prop} {ops : Array Oper} {cops : List CO} {B : List Nat} {T : Nat → List PV} {G : Nat → Hp} {val : Nat → PV} {L : Nat → Bool} {j : Nat} {cj : CO} {e : Nat → Eff}

theorem finOk_at : ∀ (l : List CO), finOk l = true → ∀ (i : Nat) c, l[i]? = some c → (c.op.fresh = true → ∃ d, c.dst = some d ∧ ∀ (k : Nat) c', i < k → l[k]? = some c' → c'.dst ≠ some d) ∧
    (c.op.fresh = false → ∀ x ∈ c.op.rd, ∀ t, x = .t t → ∀ (k : Nat) c', i ≤ k → l[k]? = some c' → c'.dst ≠ some t)
  | [], _, i, c, h => by simp at h
  | p :: r, hf, i, c, h => by
    simp only [finOk, Bool.and_eq_true] at hf
    obtain ⟨h1, h2⟩ := hf
    cases i with
    | zero =>
      simp at h
      subst h
      refine ⟨fun hfr => ?_, fun hfr x hx t ht k c' _ hk => ?_⟩
      · rw [if_pos hfr] at h1
        cases hd : p.dst with
        | none => rw [hd] at h1; cases h1
        | some d =>
          rw [hd] at h1
          refine ⟨d, rfl, fun k c' hk hc' => ?_⟩
          obtain ⟨k', rfl⟩ : ∃ k', k = k' + 1 := ⟨k - 1, by omega⟩
          have := List.all_eq_true.1 h1 c' (List.mem_of_getElem? (by simpa using hc'))
          simpa using this
      · rw [if_neg (by simp [hfr])] at h1
        have h3 := List.all_eq_true.1 h1 x hx
        subst ht
        have := List.all_eq_true.1 h3 c' (List.mem_of_getElem? hk)
        simpa using this
    | succ i =>
      obtain ⟨h3, h4⟩ := finOk_at r h2 i c (by simpa using h)
      refine ⟨fun hfr => ?_, fun hfr x hx t ht k c' hik hk => ?_⟩
      · obtain ⟨d, h5, h6⟩ := h3 hfr
        refine ⟨d, h5, fun k c' hk hc' => ?_⟩
        obtain ⟨k', rfl⟩ : ∃ k', k = k' + 1 := ⟨k - 1, by omega⟩
        exact h6 k' c' (by omega) (by simpa using hc')
      · obtain ⟨k', rfl⟩ : ∃ k', k = k' + 1 := ⟨k - 1, by omega⟩
        exact h4 hfr x hx t ht k' c' (by omega) (by simpa using hk)
theorem keepT (hr : Run call cops T G val) {t : Nat} : ∀ m i, i + m ≤ cops.length → (∀ (k : Nat) c, i ≤ k → cops[k]? = some c → c.dst ≠ some t) → (T (i + m)).getD t .bot = (T i).getD t .bot
  | 0, _, _, _ => rfl
  | m + 1, i, hk, h => by
    have hc : cops[i + m]? = some cops[i + m] := List.getElem?_eq_getElem (by omega)
    rw [← Nat.add_assoc, hr.put _ _ hc, putP_getD (h (i + m) _ (by omega) hc), keepT hr m i (by omega) h]
theorem rd_fin (hr : Run call cops T G val) (hf : finOk cops = true) {i : Nat} {c : CO} (hc : cops[i]? = some c) (hfr : c.op.fresh = false) {x : X} (hx : x ∈ c.op.rd) : x.ev (T cops.length) = x.ev (T i) := by
  have hlt : i < cops.length := (List.getElem?_eq_some_iff.1 hc).1
  cases x with
  | c v => rfl
  | t t =>
    have := keepT hr (t := t) (cops.length - i) i (by omega) ((finOk_at cops hf i c hc).2 hfr _ hx t rfl)
    rw [show i + (cops.length - i) = cops.length by omega] at this
    exact this

def unord (B : List Nat) (i j : Nat) : Prop := i ≠ j ∧ (i < j → orderedB B i j = false) ∧ (j < i → orderedB B j i = false)
/-- What an unordered store writes is not what is looked at, nor what is made. -/
theorem st_ne (hr : Run call cops T G val) (hE : Effs cops T G e) (hf : finOk cops = true) (hd : ∀ a b, (⟨none, .dif a b, none⟩ : CO) ∈ difs B cops → Dif (T cops.length) a b) {i j : Nat} {ci cj : CO} (hi : cops[i]? = some ci) (hj : cops[j]? = some cj) (hu : unord B i j)
    {id : Nat} {cs : List PV} (he : e i = .st id cs) : (cj.op.fresh = false → ∀ x ∈ cj.op.rd, ∀ u, (x.ev (T j)).id? = some u → id ≠ u) ∧ (∀ ds, e j = .al ds → id ≠ (G j).length) := by
  have hat := hE.at_ i ci hi
  rw [he] at hat
  obtain ⟨m, a, v, off, vc, cs0, hop, _, _, ha, _⟩ := hat
  have hfi : ci.op.fresh = false := by rw [hop]; rfl
  have hra : a ∈ ci.op.rd := by rw [hop]; simp [COp.rd]
  have hia : a ∈ refsOf ci := by unfold refsOf; rw [hfi]; simpa using hra
  have hsi : ci.op.isSt = true := by rw [hop]; rfl
  have hfin : a.ev (T cops.length) = .ptr id off := by rw [rd_fin hr hf hi hfi hra, ha]
  have key : ∀ b ∈ refsOf cj, Dif (T cops.length) a b ∨ Dif (T cops.length) b a := fun b hb => by
    rcases Nat.lt_trichotomy i j with h | h | h
    · exact .inl (hd a b (mem_difs hi hj h (hu.2.1 h) (.inl hsi) hia hb))
    · exact absurd h hu.1
    · exact .inr (hd b a (mem_difs hj hi h (hu.2.2 h) (.inr hsi) hb hia))
  have key2 : ∀ b ∈ refsOf cj, (b.ev (T cops.length)).isBot = false ∧ ∀ u, (b.ev (T cops.length)).id? = some u → id ≠ u := fun b hb => by
    rcases key b hb with ⟨_, h2, h3⟩ | ⟨h2, _, h3⟩
    · exact ⟨h2, fun u hu => h3 id u (by rw [hfin]; rfl) hu⟩
    · exact ⟨h2, fun u hu => Ne.symm (h3 u id hu (by rw [hfin]; rfl))⟩
  refine ⟨fun hfr x hx u hxu => ?_, fun ds hal => ?_⟩
  · have hb : x ∈ refsOf cj := by unfold refsOf; rw [hfr]; simpa using hx
    exact (key2 x hb).2 u (by rw [rd_fin hr hf hj hfr hx]; exact hxu)
  · have hat := hE.at_ j cj hj
    rw [hal] at hat
    obtain ⟨_, _, ht, hfr, _⟩ := hat
    have hjlt : j < cops.length := (List.getElem?_eq_some_iff.1 hj).1
    obtain ⟨d, hdst, hlast⟩ := (finOk_at cops hf j cj hj).1 hfr
    have hb : X.t d ∈ refsOf cj := by unfold refsOf; rw [hfr, hdst]; simp
    have hk := keepT hr (t := d) (cops.length - (j + 1)) (j + 1) (by omega) (fun k c hk hc => hlast k c (by omega) hc)
    rw [show j + 1 + (cops.length - (j + 1)) = cops.length by omega] at hk
    obtain ⟨h2, h3⟩ := key2 _ hb
    have hval : (X.t d).ev (T cops.length) = .ptr (G j).length 0 := by
      show (T cops.length).getD d .bot = _
      have h2' : ((T cops.length).getD d .bot).isBot = false := h2
      rw [hk, ht, hdst] at h2' ⊢
      simp only [putP, List.getD_eq_getElem?_getD] at h2' ⊢
      rcases Nat.lt_or_ge d (T j).length with hl | hl
      · rw [List.getElem?_set_self hl]; rfl
      · rw [List.getElem?_eq_none (by simpa using hl)] at h2'
        cases h2'
    exact h3 _ (by rw [hval]; rfl)

theorem draw2_wp (hcall : CallOk P call) (hmx : P.follows .mixedOrders = true) {cfg : Nat → Nat} {id : Nat} (hc : compOs P ops cfg ops.toList = some cops) (hok : easyOk (befs ops.toList []) cops = true) (hed : edgesB ops.toList 0 = true)
    {g : Gh} {tm : List PV} {H : Hp} {a : Act} {w : World} (h : StOk g tm H a w) {tm' : List PV} {H' : Hp}
    (he : evOs call cops tm H = some (tm', H')) (hdif : ∀ a b, (⟨none, .dif a b, none⟩ : CO) ∈ difs (befs ops.toList []) cops → Dif tm' a b) (hQ : ∀ a' w' g', StOk g' tm' H' a' w' → Ext g H w g' H' w' → Q .normal a' w') : (Code.region id ops true).wp P Q a w := by
  obtain ⟨T, G, val, hr, h1, h2, h3, h4⟩ := run_of cops tm H tm' H' he
  obtain ⟨hl, hget⟩ := compOs_get ops.toList cops hc
  have hlen : cops.length = ops.size := by simpa using hl
  obtain ⟨heasy, hfin, hapart⟩ := easyOk_spec hok
  obtain ⟨e, hE⟩ := effs_of hr heasy
  have hd : ∀ a b, (⟨none, .dif a b, none⟩ : CO) ∈ difs (befs ops.toList []) cops → Dif (T cops.length) a b := fun a b hm => by rw [h3]; exact hdif a b hm
  have hheap : ({ w with drawn := w.drawn + 1 } : World).heap = w.heap := rfl
  -- the state
  obtain ⟨J, hJ⟩ : ∃ J : (Nat → Bool) → Act → World → Prop, J = fun L a w1 => ∃ g1, StOk g1 (sL cops (T 0) val L cops.length) (hF (G 0) e cops.length L cops.length) a w1 ∧
      (∀ i cs, i < cops.length → e i = .al cs → L i = false → g1.μ (G i).length = none) ∧ Ext g H w g1 (hF (G 0) e cops.length L cops.length) w1 := ⟨_, rfl⟩
  have hlenF : ∀ L k, (hF (G 0) e cops.length L k).length = (G 0 ++ pads e 0 cops.length).length := fun L k => hF_len _ _ _ _ k
  have hlenP : ∀ i cs, i < cops.length → e i = .al cs → (G i).length < (G 0 ++ pads e 0 cops.length).length := fun i cs hi hal => by
    have h5 := hF_all hE (L := fun _ => true) (fun _ _ => rfl) (i + 1) (by omega)
    have h6 := hlenF (fun _ => true) (i + 1)
    rw [h5] at h6
    have h7 := hE.at_ i _ (List.getElem?_eq_getElem hi)
    rw [hal] at h7
    have h8 : (GF G e cops.length (i + 1)).length = (G (i + 1)).length + (pads e (i + 1) (cops.length - (i + 1))).length := by simp [GF]
    rw [h7.1] at h8
    simp at h8
    omega
  refine wp_region_any hmx (any_gen hed (J := J) ?_ ?_ ops.size _ a _ (by simp) (fun j o ho hL => by simp only [rep_false] at hL; cases hL) (by simp [List.count_replicate]) ?_)
  · -- done
    intro L a1 w1 hall hj
    rw [hJ] at hj
    obtain ⟨g1, hs, _, hx⟩ := hj
    have h5 := hF_all hE (L := L) (fun i hi => hall i (by omega)) cops.length (Nat.le_refl _)
    rw [GF_last] at h5
    have h6 : ∀ k, k ≤ cops.length → sL cops (T 0) val L k = T k := fun k => by
      induction k with
      | zero => intro _; rfl
      | succ k ih =>
        intro hk
        have hck : cops[k]? = some cops[k] := List.getElem?_eq_getElem (by omega)
        simp only [sL, hall k (by omega), if_true]
        rw [ih (by omega), hr.put k _ hck, dstAt_eq hck]
    rw [h5, h6 _ (Nat.le_refl _), h3, h4] at hs
    rw [h5, h4] at hx
    exact hQ a1 w1 g1 hs hx
  · -- a step
    intro L j o a1 w1 ho hLj hpre hpost hcl hj K hK
    rw [hJ] at hj hK
    obtain ⟨g1, hs, hpend, hx⟩ := hj
    obtain ⟨c, hcj, hco⟩ := hget j o (by simpa using ho)
    have hjlt : j < cops.length := (List.getElem?_eq_some_iff.1 hcj).1
    have hun : ∀ i, i < cops.length → (i < j ∧ L i = false ∨ j < i ∧ L i = true) → unord (befs ops.toList []) i j := fun i _ hi => by
      rcases hi with ⟨hi, hL⟩ | ⟨hi, hL⟩
      · refine ⟨by omega, fun _ => ?_, fun h => by omega⟩
        cases hoij : orderedB (befs ops.toList []) i j with
        | false => rfl
        | true => rw [hpre i hi hoij] at hL; cases hL
      · exact ⟨by omega, fun h => by omega, fun _ => hpost i hi hL⟩
    have hm : Mz cops L j c := ⟨hcj, hLj, fun i ci hci hij hL => hapart i j ci c hci hcj hij ((hun i (by omega) (.inl ⟨hij, hL⟩)).2.1 hij), fun i ci hci hij hL => hapart j i c ci hcj hci hij (hpost i hij hL)⟩
    have hslots : ∀ t ∈ c.slots, (sL cops (T 0) val L cops.length).getD t .bot = (T j).getD t .bot := fun t ht => zL_slots hr hm ht
    have hTl : (T j).length = (sL cops (T 0) val L cops.length).length := by rw [sL_length, hr.T_length j (by omega)]
    have hwant : wantP (sL cops (T 0) val L cops.length) c.g = wantP (T j) c.g := wantP_congr fun t b hg => hslots t (by simp [CO.slots, hg])
    have hxs : ∀ x ∈ c.op.xs, x.ev (T j) = x.ev (sL cops (T 0) val L cops.length) := fun x hx => X.ev_congr fun t ht => (hslots t (List.mem_append_left _ (List.mem_flatMap.2 ⟨x, hx, ht⟩))).symm
    have hput := hr.put j c hcj
    have hstep := hr.step j c hcj
    have hupd := zL_upd (val := val) hm (tm := T 0)
    have hat := hE.at_ j c hcj
    -- what is looked at is there
    have hsame : ∀ x ∈ c.op.rd, c.op.fresh = false → ∀ u, (x.ev (T j)).id? = some u → u < (G j).length → (hF (G 0) e cops.length L cops.length)[u]? = (G j)[u]? := fun x hx hfr u hxu hul => by
      rw [hF_at hE (Nat.le_of_lt hjlt) hLj (fun k id' cs' hk hL hek => (st_ne hr hE hfin hd (List.getElem?_eq_getElem (show k < cops.length by omega)) hcj (hun k (by omega) (.inl ⟨hk, hL⟩)) hek).1 hfr x hx u hxu)
        (fun k id' cs' hk hkn hL hek => (st_ne hr hE hfin hd (List.getElem?_eq_getElem hkn) hcj (hun k hkn (.inr ⟨hk, hL⟩)) hek).1 hfr x hx u hxu)]
      unfold GF
      rw [List.getElem?_append_left hul]
    -- what is still to be made stays so
    have hpend' : ∀ (g2 : Gh), (∀ i, i < (hF (G 0) e cops.length L cops.length).length → g2.μ i = g1.μ i) → ∀ i cs, i < cops.length → e i = .al cs → updL L j i = false → g2.μ (G i).length = none := fun g2 hg i cs hi hal hL => by
      have hne : i ≠ j := fun h => by subst h; rw [updL_self] at hL; cases hL
      rw [updL_ne hne] at hL
      rw [hg _ (by rw [hlenF]; exact hlenP i cs hi hal)]
      exact hpend i cs hi hal hL
    cases hej : e j with
    | no =>
      rw [hej] at hat
      have hnF := hF_upd_no (L := L) (e := e) (j := j) (fun id cs h => by rw [hej] at h; cases h) (H0 := G 0) (n := cops.length) cops.length
      have hev : evO call c (sL cops (T 0) val L cops.length) (hF (G 0) e cops.length L cops.length) = some (sL cops (T 0) val (updL L j) cops.length, hF (G 0) e cops.length (updL L j) cops.length) := by
        rw [hupd, hnF]
        unfold evO at hstep ⊢
        rw [hwant]
        cases hwt : wantP (T j) c.g with
        | none => rw [hwt] at hstep; cases hstep
        | some b =>
          rw [hwt] at hstep
          cases b with
          | false =>
            simp only [Option.some.injEq, Prod.mk.injEq] at hstep ⊢
            exact ⟨putP_same (hstep.1.trans hput) hTl, trivial⟩
          | true =>
            have hwr : c.op.wr = false := hat.2.resolve_right (by rw [hwt]; simp)
            have hfr : c.op.fresh = false := by
              cases hop : c.op <;> first | rfl | (rw [hop] at hwr; simp [COp.wr] at hwr)
            simp only at hstep ⊢
            cases hev : evalOp call (T j) (G j) c.op with
            | none => rw [hev] at hstep; cases hstep
            | some x =>
              obtain ⟨r, H1⟩ := x
              rw [hev] at hstep
              simp only [Option.some.injEq, Prod.mk.injEq] at hstep
              obtain ⟨_, hlt, hread⟩ := evalOp_read2 hwr hev
              have := hread (hF (G 0) e cops.length L cops.length) (fun x hx u hu => hsame x hx hfr u hu (hlt x hx u hu))
              rw [← evalOp_congr _ hxs, this]
              simp only [Option.some.injEq, Prod.mk.injEq]
              exact ⟨putP_same (hstep.1.trans hput) hTl, trivial⟩
      refine step_wp hcall hs ho hco hev fun a' w' g' hs' hx' => hK a' w' ⟨g', hs', hpend' g' hx'.μ, hx.trans hx'⟩
    | st id cs =>
      rw [hej] at hat
      obtain ⟨m, ax, vx, off, vc, cs0, hop, hwt, ht', hax, hvx, hcs0, hvl, hol, hcs, hG⟩ := hat
      have hfr : c.op.fresh = false := by rw [hop]; rfl
      have hra : ax ∈ c.op.rd := by rw [hop]; simp [COp.rd]
      have hsF := hF_upd_st hLj hjlt hej (fun k id' cs' hk hkn hL hek => (st_ne hr hE hfin hd (List.getElem?_eq_getElem hkn) hcj (hun k hkn (.inr ⟨hk, hL⟩)) hek).1 hfr ax hra id (by rw [hax]; rfl)) (H0 := G 0)
      have hthere : (hF (G 0) e cops.length L cops.length)[id]? = some (.cells cs0) := by
        rw [hsame ax hra hfr id (by rw [hax]; rfl) (List.getElem?_eq_some_iff.1 hcs0).1]; exact hcs0
      have hev : evO call c (sL cops (T 0) val L cops.length) (hF (G 0) e cops.length L cops.length) = some (sL cops (T 0) val (updL L j) cops.length, hF (G 0) e cops.length (updL L j) cops.length) := by
        rw [hupd, hsF]
        unfold evO
        rw [hwant, hwt]
        simp only
        have e1 := hxs ax (by rw [hop]; simp [COp.xs])
        have e2 := hxs vx (by rw [hop]; simp [COp.xs])
        rw [hop]
        simp only [evalOp, ← e1, ← e2, hax, hvx, hthere]
        rw [if_pos ⟨hvl, hol⟩]
        simp only [Option.some.injEq, Prod.mk.injEq]
        exact ⟨putP_same (ht'.symm.trans hput) hTl, by rw [hcs]⟩
      refine step_wp hcall hs ho hco hev fun a' w' g' hs' hx' => hK a' w' ⟨g', hs', hpend' g' hx'.μ, hx.trans hx'⟩
    | al cs =>
      rw [hej] at hat
      obtain ⟨hG, hwt, ht', hfr, hop⟩ := hat
      have hnF := hF_upd_no (L := L) (e := e) (j := j) (fun id cs h => by rw [hej] at h; cases h) (H0 := G 0) (n := cops.length) cops.length
      have hthere : (hF (G 0) e cops.length L cops.length)[(G j).length]? = some (.cells cs) := by
        rw [hF_at hE (Nat.le_of_lt hjlt) hLj (fun k id' cs' hk hL hek => by
            have h5 := hE.at_ k _ (List.getElem?_eq_getElem (show k < cops.length by omega))
            rw [hek] at h5
            obtain ⟨_, _, _, _, _, _, _, _, _, _, _, h6, _⟩ := h5
            have h7 := (List.getElem?_eq_some_iff.1 h6).1
            have h8 := G_len hE (j - k) k (by omega)
            rw [show k + (j - k) = j by omega] at h8
            omega)
          (fun k id' cs' hk hkn hL hek => (st_ne hr hE hfin hd (List.getElem?_eq_getElem hkn) hcj (hun k hkn (.inr ⟨hk, hL⟩)) hek).2 cs hej)]
        unfold GF
        rw [List.getElem?_append_right (Nat.le_refl _), Nat.sub_self, show cops.length - j = (cops.length - (j + 1)) + 1 by omega]
        simp only [pads, hej]
        rfl
      refine fresh_wp hs ho hco (by rw [hwant]; exact hwt) (cs := cs) (k := (G j).length) ?_ hthere (hpend j cs hjlt hej hLj) fun a' w' g' hs' hmu hext => ?_
      · rcases hop with hop | ⟨x, hop, hxc⟩
        · exact .inl hop
        · exact .inr ⟨x, hop, by rw [← hxs x (by rw [hop]; simp [COp.xs])]; exact hxc⟩
      · have hsl : putP (sL cops (T 0) val L cops.length) c.dst (.ptr (G j).length 0) = sL cops (T 0) val (updL L j) cops.length := by
          rw [hupd]
          exact putP_same (ht'.symm.trans hput) hTl
        have hG0 : (G 0).length ≤ (G j).length := by have := G_len hE j 0 (by omega); rwa [Nat.zero_add] at this
        refine hK a' w' ⟨g', by rw [hnF, ← hsl]; exact hs', fun i ds hi hal hL => ?_, by rw [hnF]; exact hext (by rw [← h2]; exact hG0) hx⟩
        have hne : i ≠ j := fun h => by subst h; rw [updL_self] at hL; cases hL
        rw [updL_ne hne] at hL
        rw [hmu _ (fun heq => ?_)]
        · exact hpend i ds hi hal hL
        · -- two that are made are two
          have h5 := hE.at_ i _ (List.getElem?_eq_getElem hi)
          rw [hal] at h5
          rcases Nat.lt_or_ge i j with hij | hij
          · have h6 := G_len hE (j - (i + 1)) (i + 1) (by omega)
            rw [show i + 1 + (j - (i + 1)) = j by omega, h5.1] at h6
            simp at h6
            omega
          · have h6 := G_len hE (i - (j + 1)) (j + 1) (by omega)
            rw [show j + 1 + (i - (j + 1)) = i by omega, hG] at h6
            simp at h6
            omega
  · -- the beginning
    rw [hJ]
    show ∃ g1, StOk g1 (sL cops (T 0) val (fun i => (Array.replicate ops.size false).getD i false) cops.length) (hF (G 0) e cops.length (fun i => (Array.replicate ops.size false).getD i false) cops.length) _ _ ∧ (∀ i cs, i < cops.length → e i = .al cs → (Array.replicate ops.size false).getD i false = false → g1.μ (G i).length = none) ∧ Ext g H w g1 (hF (G 0) e cops.length (fun i => (Array.replicate ops.size false).getD i false) cops.length) _
    have hno : ∀ k, sL cops (T 0) val (fun i => (Array.replicate ops.size false).getD i false) k = T 0 ∧ hF (G 0) e cops.length (fun i => (Array.replicate ops.size false).getD i false) k = G 0 ++ pads e 0 cops.length := fun k => by
      induction k with
      | zero => exact ⟨rfl, rfl⟩
      | succ k ih =>
        simp only [sL, hF, rep_false, Bool.false_eq_true, if_false]
        refine ⟨by simpa only [rep_false] using ih.1, ?_⟩
        have ih2 := ih.2
        simp only [rep_false] at ih2
        cases e k <;> exact ih2
    rw [(hno _).1, (hno _).2, h1, h2]
    obtain ⟨g', h5, h6, h7⟩ := pad_ok (h.inv.heap hheap) (pads_cells e cops.length 0)
    refine ⟨g', ⟨h.tm.ext h6, h5, h.defers⟩, fun i cs hi hal _ => h7 _ ?_, (Ext.heap g H hheap rfl rfl rfl).trans h6⟩
    have := G_len hE i 0 (by omega)
    rw [Nat.zero_add, h2] at this
    exact this
end
end Go.Proofs.YtnljpfjoboafoaaDoor.Ev
