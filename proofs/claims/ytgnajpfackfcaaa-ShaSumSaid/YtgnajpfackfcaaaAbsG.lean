/- What the abstract machine's memory operations do to what is known: moves, stores into variables, appends. No condition. -/
import Derived.Test.YtgnajpfackfcaaaAbsF
import Derived.Laws.CopyRow
set_option linter.unusedVariables false
set_option linter.unusedSimpArgs false
namespace Go.Abs
open Go.RowKit

section
variable {X : Ctx} {G : Gh} {s : S} {a : Act} {w : World}

def mvOwn (own : Key → Nat → Option (Nat × Nat)) (n d : Key) : Key → Nat → Option (Nat × Nat) := fun k j => if k = d then own n j else if k = n then none else own k j

/-- A slot's value moves to another slot. -/
theorem Rel.move (h : Rel X G s a w) {n d : Nat} (hd : d < a.tmps.size) (hn : n ≠ d) :
    ∃ G', Rel X G' ((s.up (.t n) (s (.t n)).dem2).up (.t d) (s (.t n))) (a.put (some d) (a.tmps.getD n Go.undef)) w ∧ ∀ x, G'.site x = G.site x := by
  refine ⟨{ G with own := mvOwn G.own (.t n) (.t d) }, h.same _ (fun k j be hb => ?_) (fun k j k' j' b e e' h1 h2 => ?_) (fun t => ?_) (fun x => ?_) ((put_defers _ _ _).trans h.df), fun _ => rfl⟩
  · unfold mvOwn at hb
    split at hb
    · exact ⟨_, _, hb⟩
    · split at hb
      · cases hb
      · exact ⟨_, _, hb⟩
  · unfold mvOwn at h1 h2
    split at h1 <;> split at h2
    · rename_i q1 q2
      obtain ⟨_, e⟩ := h.ownI _ _ _ _ _ _ _ h1 h2
      exact ⟨q1.trans q2.symm, e⟩
    · split at h2
      · cases h2
      · rename_i q1 q2 q3
        obtain ⟨e, _⟩ := h.ownI _ _ _ _ _ _ _ h1 h2
        exact absurd e.symm q3
    · split at h1
      · cases h1
      · rename_i q1 q2 q3
        obtain ⟨e, _⟩ := h.ownI _ _ _ _ _ _ _ h1 h2
        exact absurd e q3
    · split at h1
      · cases h1
      · split at h2
        · cases h2
        · exact h.ownI _ _ _ _ _ _ _ h1 h2
  · by_cases ht : t = d
    · subst ht
      rw [getD_put_same hd, S.up_same]
      have e1 : mvOwn G.own (.t n) (.t t) (.t t) = G.own (.t n) := by funext j; simp [mvOwn]
      rw [e1]
      exact h.tmp n
    · rw [getD_put_other ht, S.up_other _ _ (by simp [ht])]
      by_cases htn : t = n
      · subst htn
        rw [S.up_same]
        have e1 : mvOwn G.own (.t t) (.t d) (.t t) = fun _ => none := by funext j; simp [mvOwn, ht]
        rw [e1]
        exact (h.tmp t).dem fun j g e he o ho => h.ownfp he ho
      · rw [S.up_other _ _ (by simp [htn])]
        have e1 : mvOwn G.own (.t n) (.t d) (.t t) = G.own (.t t) := by funext j; simp [mvOwn, ht, htn]
        rw [e1]
        exact h.tmp t
  · rw [S.up_other _ _ (by simp), S.up_other _ _ (by simp)]
    have e1 : mvOwn G.own (.t n) (.t d) (.m x) = G.own (.m x) := by funext j; simp [mvOwn]
    rw [e1]
    exact h.mem x

theorem Rel.drew (h : Rel X G s a w) : Rel X G s a w.drew :=
  ⟨fun t => VR2.mono (w := w) (w' := w.drew) (fp' := fp X G) (site' := G.site) (fun _ _ _ hf hc => ⟨hf, hc⟩) (fun _ _ h => h) (fun _ _ _ _ => rfl) (h.tmp t), fun x => MR.mono (w := w) (w' := w.drew) (fp' := fp X G) (site' := G.site) (fun _ _ _ hf hc => ⟨hf, hc⟩) (fun _ _ h => h) (fun b hb => ⟨hb, rfl⟩) (fun _ _ _ _ => rfl) (h.mem x),
    h.ownI, h.ownS, h.siteI, h.siteF, h.ownF, h.okS, h.okB, ⟨h.fr.os, h.fr.tape, h.fr.output, h.fr.size, h.fr.block, h.fr.cell⟩, h.df⟩

theorem Rel.siteSafe (h : Rel X G s a w) {b o y : Nat} (hs : G.safe b o) : G.site y ≠ some b := hs.1 y

/-- A variable's cells turn; what is owned may have moved. -/
theorem Rel.setSite (h : Rel X G s a w) {y b : Nat} (hy : G.site y = some b) {cs cs' : Array Value} {e : TypeId} (hb : w.heap[b]? = some (.cells cs e (0, 0)))
    (own' : Key → Nat → Option (Nat × Nat)) {s' : S} {a' : Act}
    (h1 : ∀ k j be, own' k j = some be → ∃ k0 j0, G.own k0 j0 = some be)
    (h2 : ∀ k j k' j' b e e', own' k j = some (b, e) → own' k' j' = some (b, e') → k = k' ∧ j = j')
    (ht : ∀ t, VR2 (fp X G) G.site w (a'.tmps.getD t Go.undef) (s' (.t t)) (own' (.t t)))
    (hm : ∀ x, x ≠ y → MR (fp X G) G.site w (s' (.m x)) (G.site x) (own' (.m x)))
    (hc : VR1 (fp X G) G.site w (.agg cs') (s' (.m y)) (own' (.m y))) (hagg : (s' (.m y)).isAgg)
    (hd : a'.defers = []) : Rel X { G with own := own' } s' a' (w.setRow b cs') := by
  obtain ⟨hblt, hbF⟩ := h.siteF y b hy
  have hsafe : ∀ b o, G.safe b o → Gh.safe { G with own := own' } b o := fun b o hs => ⟨hs.1, fun k j e he => by
    obtain ⟨k0, j0, h0⟩ := h1 k j _ he
    exact hs.2 k0 j0 e h0⟩
  have hoth : ∀ b', b' ≠ b → (w.setRow b cs').heap[b']? = w.heap[b']? := fun b' hne => setRow_other w b b' cs' hne
  have hfp : ∀ b' o v, fp X G b' o → w.cell? ⟨b', o, none⟩ = some v → fp X { G with own := own' } b' o ∧ (w.setRow b cs').cell? ⟨b', o, none⟩ = some v := fun b' o v hf hc => by
    have hne : b' ≠ b := by rintro rfl; exact hf.2.1 y hy
    exact ⟨⟨hf.1, hsafe b' o hf.2⟩, (World.cell?_of_block (a := ⟨b', o, none⟩) (hoth b' hne)).trans hc⟩
  have hsize : (w.setRow b cs').heap.size = w.heap.size := by simp [World.setRow]
  have hown : ∀ k j g e, own' k j = some (g, e) → (w.setRow b cs').heap[g]? = w.heap[g]? := fun k j g e he => by
    obtain ⟨k0, j0, h0⟩ := h1 k j _ he
    exact hoth g (by rintro rfl; exact h.ownS _ _ _ _ y h0 hy)
  refine ⟨fun t => (ht t).mono hfp (fun _ _ h => h) (hown (.t t)), fun x => ?_, h2, fun k j b e x he => ?_, h.siteI, fun x b' hx => ?_, fun k j b e he => ?_, fun b o ho => hsafe b o (h.okS b o ho), h.okB, ?_, hd⟩
  · by_cases hx : x = y
    · subst hx
      have hc' := hc.mono hfp (fun _ _ h => h) (hown (.m x))
      generalize s' (.m x) = c at hc' hagg
      cases c <;> first | exact hagg.elim | exact ⟨b, cs', e, hy, setRow_heap w b cs cs' e _ hb, hc', trivial⟩
    · refine (hm x hx).mono hfp (fun _ _ h => h) (fun b' hb' => ⟨hb', hoth b' ?_⟩) (hown (.m x))
      rintro rfl
      exact hx (h.siteI _ _ _ hb' hy)
  · obtain ⟨k0, j0, h0⟩ := h1 k j _ he
    exact h.ownS k0 j0 b e x h0
  · obtain ⟨q1, q2⟩ := h.siteF x b' hx
    exact ⟨by rw [hsize]; exact q1, q2⟩
  · obtain ⟨k0, j0, h0⟩ := h1 k j _ he
    obtain ⟨q1, q2⟩ := h.ownF k0 j0 b e h0
    exact ⟨by rw [hsize]; exact q1, q2⟩
  · refine ⟨h.fr.os, h.fr.tape, h.fr.output, by rw [hsize]; exact h.fr.size, fun b' hb' hl => ?_, fun b' o ho => ?_⟩
    · have hne : b' ≠ b := by
        rintro rfl
        rcases hbF with q | q
        · omega
        · exact hl q.1
      exact (hoth b' hne).trans (h.fr.block b' hb' hl)
    · have hne : b' ≠ b := by rintro rfl; exact (h.okS b' o ho).1 y hy
      exact (World.cell?_of_block (a := ⟨b', o, none⟩) (hoth b' hne)).trans (h.fr.cell b' o ho)

/-- append(v, ..) of what lies at A: how the world turns. -/
theorem run_app {P : Program} {t ty e : TypeId} {i : TypeInfo} {z : Value} {size bytes : Nat} (ht : P.underlying t = some (.slice e)) (hi : P.info? e = some i) (hz : i.zero = some z)
    (hsize : i.size = size) (hby : i.bytes = bytes) (hzs : z.cells.size = size) (hsz : 0 < size)
    {v : Value} {n : Nat} {xs : List Value} (hown : w.ownsRow 0 e size v n xs)
    {A : Option Addr} {m c : Nat} {news : List Value} (hl : news.length = m * size) (hnews : 0 < m → ∃ ad, A = some ad ∧ ∀ (j : Nat) u, news[j]? = some u → w.cell? (ad.add j) = some u) (h1 : ∀ u ∈ news, u.oneCell' = true)
    (h63 : n + m ≤ maxLen) (hbytes : (n + m) * bytes ≤ 140737488355328) :
    ∃ v' w', (Builtin.append_ #[t, t] ty #[v, .slice A m c]).run P w = .ok v' w' ∧ w'.ownsRow 0 e size v' (n + m) (xs ++ news) ∧
      ((m = 0 ∧ v' = v ∧ w' = w) ∨ (∃ g cur cur', v.ownBlock = some g ∧ v'.ownBlock = some g ∧ w.heap[g]? = some (.cells cur e (0, 0)) ∧ w' = w.setRow g cur') ∨ (∃ cs, v'.ownBlock = some w.heap.size ∧ w' = w.drew.alloc (.cells cs e))) := by
  subst hsize
  subst hby
  by_cases hm : m = 0
  · subst hm
    have hn : news = [] := List.eq_nil_of_length_eq_zero (by simpa using hl)
    subst hn
    refine ⟨v, w, ?_, by simpa using hown, Or.inl ⟨rfl, rfl, rfl⟩⟩
    rcases hown.2 with ⟨rfl, hn⟩ | ⟨g, cap, cur, rfl, _, _, hnc, _⟩
    · subst hn
      cases A <;> simp [Builtin.append_, run_underlying ht, sizeOf, typeInfo, hi, Builtin.lenOf, Builtin.firstCells, loadCells, loadCellsFrom]
    · cases A <;> simp [Builtin.append_, run_underlying ht, sizeOf, typeInfo, hi, Builtin.lenOf, Builtin.firstCells, hnc, storeCells, loadCells, loadCellsFrom]
  obtain ⟨ad, rfl, hnews'⟩ := hnews (by omega)
  clear hnews
  have hnews := hnews'
  have hsmall : n + m ≤ 9223372036854775807 := by simp only [maxLen] at h63; omega
  have hlen : (xs ++ news).length = (n + m) * i.size := by rw [List.length_append, hown.1, hl, Nat.add_mul]
  have grown : ∀ (old : Nat), old < n + m →
      (w.drew.alloc (.cells (xs.toArray ++ news.toArray ++ Builtin.zeroCells z.cells (grownCap w (n + m) old e - (n + m))) e)).ownsRow 0 e i.size
        (.slice (some ⟨w.heap.size, 0, none⟩) (n + m) (grownCap w (n + m) old e)) (n + m) (xs ++ news) := by
    intro old ho
    have hge := grownCap_ge w (n + m) old e
    have hcm : grownCap w (n + m) old e ≤ maxLen := grownCap_le_maxLen w (n + m) old e h63
    refine ⟨hlen, .inr ⟨w.heap.size, _, _, rfl, Nat.zero_le _, heap_alloc_new w.drew _, hge, hcm, ?_, ?_⟩⟩
    · simp only [Array.size_append, List.size_toArray, size_zeroCells, hzs, hown.1, hl, ← Nat.add_mul]
      congr 1
      omega
    · simp only [Array.toList_append, List.append_assoc]
      rw [← List.append_assoc, ← hlen]
      exact List.take_left
  rcases hown.2 with ⟨rfl, rfl⟩ | ⟨g, cap, cur, rfl, hbg, hg, hnc, hcm, hcs, htake⟩
  · have hx : xs = [] := List.eq_nil_of_length_eq_zero (by simpa using hown.1)
    subst hx
    have hr := run_append_nil (P := P) w t ty e i z ht hi hz ad m c news hl hnews (by omega) (by omega) (by have hb := hbytes; simp only [Nat.zero_add] at hb; omega)
    have hgr := grown 0 (by omega)
    simp only [Nat.zero_add, List.nil_append, Array.empty_append] at hgr ⊢
    exact ⟨_, _, hr, hgr, Or.inr (Or.inr ⟨_, rfl, rfl⟩)⟩
  · by_cases hroom : n + m ≤ cap
    · have hfit : n * i.size + news.length ≤ cur.size := by rw [hl, hcs, ← Nat.add_mul]; exact Nat.mul_le_mul_right _ hroom
      have hr := run_append_room (P := P) w t ty e i ht hi g n cap cur hg ad m c news hl hnews h1 hroom hfit
      refine ⟨_, _, hr, ⟨hlen, .inr ⟨g, cap, _, rfl, hbg, setRow_heap w g cur _ e _ hg, hroom, hcm, ?_, ?_⟩⟩, Or.inr (Or.inl ⟨g, cur, _, rfl, rfl, hg, rfl⟩)⟩
      · simp only [List.size_toArray, List.length_append, List.length_take, List.length_drop, Array.length_toList]
        omega
      · rw [htake, ← hlen]
        exact List.take_left
    · have holds : ∀ (j : Nat) u, xs[j]? = some u → w.cell? ((⟨g, 0, none⟩ : Addr).add j) = some u := hown.cells (g := g) rfl
      have hr := run_append_grow (P := P) w t ty e i z ht hi hz ⟨g, 0, none⟩ n cap xs hown.1 holds ad m c news hl hnews (by omega) (by omega) (growslice_fits (by omega) hbytes)
      have hgr := grown cap (by omega)
      exact ⟨_, _, hr, hgr, Or.inr (Or.inr ⟨_, rfl, rfl⟩)⟩

def appOwn (own : Key → Nat → Option (Nat × Nat)) (n d : Nat) (be : Nat × Nat) : Key → Nat → Option (Nat × Nat) := fun k j => if k = .t d then (if j = 0 then some be else none) else if k = .t n then none else own k j

theorem ownBlock_form {w : World} {e sz n : Nat} {v : Value} {xs : List Value} (h : w.ownsRow 0 e sz v n xs) {g : Nat} (hg : v.ownBlock = some g) : ∃ cap cur, v = .slice (some ⟨g, 0, none⟩) n cap ∧ w.heap[g]? = some (.cells cur e (0, 0)) ∧ n ≤ cap ∧ cap ≤ maxLen ∧ cur.size = cap * sz ∧ cur.toList.take (n * sz) = xs := by
  rcases h.2 with ⟨rfl, _⟩ | ⟨g', cap, cur, rfl, _, r⟩
  · cases hg
  · cases hg; exact ⟨cap, cur, rfl, r⟩

/-- An append: the slot n is what it appends to, the slot d gets what comes of it. -/
theorem Rel.app (h : Rel X G s a w) {n d : Nat} (hd : d < a.tmps.size) (hn : n ≠ d) {e sz : Nat} {es rows : List (List PV)} (hs : s (.t n) = .os e sz es)
    {v' : Value} {w' : World} {xs news : List Value} (hx : PRs (fp X G) w xs es.flatten) (hnews : PRs (fp X G) w news rows.flatten) (hrl : ∀ r ∈ rows, r.length = sz)
    (hown : w.ownsRow 0 e sz (a.tmps.getD n Go.undef) es.length xs)
    (hown' : w'.ownsRow 0 e sz v' (es.length + rows.length) (xs ++ news))
    (hcase : (rows.length = 0 ∧ v' = a.tmps.getD n Go.undef ∧ w' = w) ∨ (∃ g cur cur', (a.tmps.getD n Go.undef).ownBlock = some g ∧ v'.ownBlock = some g ∧ w.heap[g]? = some (.cells cur e (0, 0)) ∧ w' = w.setRow g cur') ∨ (∃ cs, v'.ownBlock = some w.heap.size ∧ w' = w.drew.alloc (.cells cs e))) :
    ∃ G', Rel X G' ((s.up (.t n) (s (.t n)).dem2).up (.t d) (.os e sz (es ++ rows))) (a.put (some d) v') w' ∧ ∀ x, G'.site x = G.site x := by
  have htn := h.tmp n
  rw [hs] at htn
  obtain ⟨⟨xs0, q1, q2, q3, q4, q5⟩, q6⟩ := htn
  rcases hcase with ⟨h0, rfl, rfl⟩ | ⟨g, cur, cur', hg, hg', hcur, rfl⟩ | ⟨cs, hg', rfl⟩
  · have : rows = [] := List.eq_nil_of_length_eq_zero h0
    subst this
    rw [List.append_nil]
    have := h.move hd hn
    rw [hs] at this
    rwa [hs]
  · -- in place
    obtain ⟨cap, cur0, hv, hc0, hnc, hcm, hcs, htake⟩ := ownBlock_form hown hg
    rw [hcur] at hc0
    cases hc0
    obtain ⟨cap', cur1, hv', hc1, hnc', hcm', hcs', htake'⟩ := ownBlock_form hown' hg'
    rw [setRow_heap w g cur cur' e _ hcur] at hc1
    cases hc1
    have how : G.own (.t n) 0 = some (g, es.length * sz) := by
      rcases q5 with ⟨e1, _⟩ | ⟨g1, n1, c1, e1, e2⟩
      · rw [hv] at e1; cases e1
      · rw [hv] at e1; cases e1; exact e2
    have hflen : xs.length = es.length * sz := by rw [hown.1]
    have hoth : ∀ b', b' ≠ g → (w.setRow g cur').heap[b']? = w.heap[b']? := fun b' hne => setRow_other w g b' cur' hne
    have hcellg : ∀ o v, o < es.length * sz → w.cell? ⟨g, o, none⟩ = some v → (w.setRow g cur').cell? ⟨g, o, none⟩ = some v := fun o v ho hc => by
      rw [cell_of_heap hcur] at hc
      rw [cell_of_heap (setRow_heap w g cur cur' e _ hcur)]
      have e1 : xs[o]? = some v := by rw [← htake, List.getElem?_take, if_pos ho]; simpa using hc
      have e2 : (xs ++ news)[o]? = some v := by rw [List.getElem?_append_left (by omega)]; exact e1
      rw [← htake', List.getElem?_take] at e2
      split at e2
      · simpa using e2
      · cases e2
    have hsafe : ∀ b o, G.safe b o → Gh.safe ⟨G.site, appOwn G.own n d (g, (es.length + rows.length) * sz)⟩ b o := fun b o hsf => ⟨hsf.1, fun k j e' he => by
      simp only [appOwn] at he
      split at he
      · split at he
        · cases he
          have := hsf.2 _ _ _ how
          rw [Nat.add_mul]
          omega
        · cases he
      · split at he
        · cases he
        · exact hsf.2 k j e' he⟩
    have hfp : ∀ b' o v, fp X G b' o → w.cell? ⟨b', o, none⟩ = some v → fp X ⟨G.site, appOwn G.own n d (g, (es.length + rows.length) * sz)⟩ b' o ∧ (w.setRow g cur').cell? ⟨b', o, none⟩ = some v := fun b' o v hf hc => by
      refine ⟨⟨hf.1, hsafe b' o hf.2⟩, ?_⟩
      by_cases hb : b' = g
      · subst hb
        exact hcellg o v (hf.2.2 _ _ _ how) hc
      · exact (World.cell?_of_block (a := ⟨b', o, none⟩) (hoth b' hb)).trans hc
    have hsize : (w.setRow g cur').heap.size = w.heap.size := by simp [World.setRow]
    have hsites : ∀ x b, G.site x = some b → (w.setRow g cur').heap[b]? = w.heap[b]? := fun x b hx => hoth b (by rintro rfl; exact h.ownS _ _ _ _ x how hx)
    have hownO : ∀ k j g1 e1, k ≠ .t n → G.own k j = some (g1, e1) → (w.setRow g cur').heap[g1]? = w.heap[g1]? := fun k j g1 e1 hk he => hoth g1 (by
      rintro rfl
      exact hk (h.ownI _ _ _ _ _ _ _ he how).1)
    refine ⟨⟨G.site, appOwn G.own n d (g, (es.length + rows.length) * sz)⟩, ⟨fun t => ?_, fun x => ?_, fun k j k' j' b e1 e2 g1 g2 => ?_, fun k j b e1 x g1 => ?_, h.siteI, fun x b hx => ?_, fun k j b e1 g1 => ?_, fun b o ho => hsafe b o (h.okS b o ho), h.okB, ?_, (put_defers _ _ _).trans h.df⟩, fun _ => rfl⟩
    · by_cases ht : t = d
      · subst ht
        rw [getD_put_same hd, S.up_same]
        refine ⟨⟨xs ++ news, by simpa using hown', ?_, ?_, q4, Or.inr ⟨g, _, cap', hv', by simp [appOwn]⟩⟩, fun j hj => ?_⟩
        · rw [List.flatten_append]
          exact (hx.mono hfp).append (hnews.mono hfp)
        · intro r hr
          rcases List.mem_append.1 hr with hr | hr
          · exact q3 r hr
          · exact hrl r hr
        · simp [appOwn, show j ≠ 0 by omega]
      · rw [getD_put_other ht, S.up_other _ _ (by simp [ht])]
        by_cases htn : t = n
        · subst htn
          rw [S.up_same]
          have e1 : appOwn G.own t d (g, (es.length + rows.length) * sz) (.t t) = fun _ => none := by funext j; simp [appOwn, ht]
          simp only [e1]
          refine VR2.mono hfp (fun _ _ h => h) (fun _ _ _ he => by cases he) ((h.tmp t).dem fun j g e he o ho => h.ownfp he ho)
        · rw [S.up_other _ _ (by simp [htn])]
          have e1 : appOwn G.own n d (g, (es.length + rows.length) * sz) (.t t) = G.own (.t t) := by funext j; simp [appOwn, ht, htn]
          simp only [e1]
          exact (h.tmp t).mono hfp (fun _ _ h => h) fun j g1 e1 he => hownO _ j g1 e1 (by simp [htn]) he
    · rw [S.up_other _ _ (by simp), S.up_other _ _ (by simp)]
      have e1 : appOwn G.own n d (g, (es.length + rows.length) * sz) (.m x) = G.own (.m x) := by funext j; simp [appOwn]
      simp only [e1]
      exact (h.mem x).mono hfp (fun _ _ h => h) (fun b hb => ⟨hb, hsites x b hb⟩) fun j g1 e1 he => hownO _ j g1 e1 (by simp) he
    · simp only [appOwn] at g1 g2
      have key : ∀ k j e1, (if k = Key.t d then (if j = 0 then some (g, (es.length + rows.length) * sz) else none) else if k = Key.t n then none else G.own k j) = some (b, e1) → (k = .t d ∧ j = 0 ∧ b = g) ∨ (k ≠ .t d ∧ k ≠ .t n ∧ G.own k j = some (b, e1)) := fun k j e1 hk => by
        split at hk
        · split at hk
          · cases hk; exact Or.inl ⟨by assumption, by assumption, rfl⟩
          · cases hk
        · split at hk
          · cases hk
          · exact Or.inr ⟨by assumption, by assumption, hk⟩
      rcases key _ _ _ g1 with ⟨r1, r2, r3⟩ | ⟨r1, r2, r3⟩ <;> rcases key _ _ _ g2 with ⟨p1, p2, p3⟩ | ⟨p1, p2, p3⟩
      · exact ⟨r1.trans p1.symm, r2.trans p2.symm⟩
      · subst r3; exact absurd (h.ownI _ _ _ _ _ _ _ p3 how).1 p2
      · subst p3; exact absurd (h.ownI _ _ _ _ _ _ _ r3 how).1 r2
      · exact h.ownI _ _ _ _ _ _ _ r3 p3
    · simp only [appOwn] at g1
      split at g1
      · split at g1
        · cases g1; exact h.ownS _ _ _ _ x how
        · cases g1
      · split at g1
        · cases g1
        · exact h.ownS _ _ _ _ x g1
    · obtain ⟨r1, r2⟩ := h.siteF x b hx
      exact ⟨by rw [hsize]; exact r1, r2⟩
    · simp only [appOwn] at g1
      rw [hsize]
      split at g1
      · split at g1
        · cases g1; exact h.ownF _ _ _ _ how
        · cases g1
      · split at g1
        · cases g1
        · exact h.ownF _ _ _ _ g1
    · obtain ⟨_, hgF⟩ := h.ownF _ _ _ _ how
      refine ⟨h.fr.os, h.fr.tape, h.fr.output, by rw [hsize]; exact h.fr.size, fun b' hb' hl => ?_, fun b' o ho => ?_⟩
      · have hne : b' ≠ g := by
          rintro rfl
          rcases hgF with q | q
          · omega
          · exact hl q
        exact (hoth b' hne).trans (h.fr.block b' hb' hl)
      · rw [← h.fr.cell b' o ho]
        by_cases hb : b' = g
        · subst hb
          have ho' := (h.okS b' o ho).2 _ _ _ how
          have hlt : o < cur.size := by
            rw [hcs]
            exact Nat.lt_of_lt_of_le ho' (Nat.mul_le_mul_right _ hnc)
          have hc := cell_of_heap hcur o
          rw [Array.getElem?_eq_getElem hlt] at hc
          rw [hc]
          exact hcellg o _ ho' hc
        · exact World.cell?_of_block (a := ⟨b', o, none⟩) (hoth b' hb)
  · -- in a new block
    obtain ⟨cap', cur1, hv', hc1, hnc', hcm', hcs', htake'⟩ := ownBlock_form hown' hg'
    have hmono0 : ∀ b o v, fp X G b o → w.cell? ⟨b, o, none⟩ = some v → fp X G b o ∧ w.drew.cell? ⟨b, o, none⟩ = some v := fun _ _ _ hf hc => ⟨hf, hc⟩
    refine ⟨⟨G.site, appOwn G.own n d (w.heap.size, (es.length + rows.length) * sz)⟩, h.drew.newBlock _ (fun x b hb => hb) (fun x b hb => Or.inl hb) (fun k j b e' hb => ?_) (fun x y h1 h2 => ?_) (fun k j k' j' e' e'' h1 h2 => ?_) (fun k j e' x h1 hx => ?_) (fun hfp t => ?_) (fun hfp x => ?_) ((put_defers _ _ _).trans h.df), fun _ => rfl⟩
    · simp only [appOwn] at hb
      split at hb
      · split at hb
        · cases hb; exact Or.inr rfl
        · cases hb
      · split at hb
        · cases hb
        · exact Or.inl hb
    · have := (h.siteF x _ h1).1
      exact absurd this (Nat.lt_irrefl _)
    · have key : ∀ k j e', appOwn G.own n d (w.heap.size, (es.length + rows.length) * sz) k j = some (w.heap.size, e') → k = .t d ∧ j = 0 := fun k j e' hk => by
        simp only [appOwn] at hk
        split at hk
        · split at hk
          · exact ⟨by assumption, by assumption⟩
          · cases hk
        · split at hk
          · cases hk
          · have := (h.ownF _ _ _ _ hk).1
            exact absurd this (Nat.lt_irrefl _)
      obtain ⟨rfl, rfl⟩ := key _ _ _ h1
      obtain ⟨rfl, rfl⟩ := key _ _ _ h2
      exact ⟨rfl, rfl⟩
    · have := (h.siteF x _ hx).1
      exact absurd this (Nat.lt_irrefl _)
    · by_cases ht : t = d
      · subst ht
        rw [getD_put_same hd, S.up_same]
        refine ⟨⟨xs ++ news, by simpa using hown', ?_, ?_, q4, Or.inr ⟨_, _, cap', hv', by simp [appOwn]⟩⟩, fun j hj => ?_⟩
        · rw [List.flatten_append]
          exact ((hx.mono hmono0).mono hfp).append ((hnews.mono hmono0).mono hfp)
        · intro r hr
          rcases List.mem_append.1 hr with hr | hr
          · exact q3 r hr
          · exact hrl r hr
        · simp [appOwn, show j ≠ 0 by omega]
      · rw [getD_put_other ht, S.up_other _ _ (by simp [ht])]
        by_cases htn : t = n
        · subst htn
          rw [S.up_same]
          have e1 : appOwn G.own t d (w.heap.size, (es.length + rows.length) * sz) (.t t) = fun _ => none := by funext j; simp [appOwn, ht]
          simp only [e1]
          refine VR2.mono hfp (fun _ _ h => h) (fun _ _ _ he => by cases he) ((h.drew.tmp t).dem fun j g e he o ho => h.drew.ownfp he ho)
        · rw [S.up_other _ _ (by simp [htn])]
          have e1 : appOwn G.own n d (w.heap.size, (es.length + rows.length) * sz) (.t t) = G.own (.t t) := by funext j; simp [appOwn, ht, htn]
          simp only [e1]
          exact (h.drew.tmp t).mono hfp (fun _ _ h => h) fun j g1 e1 he => own_heap h.drew _ he
    · rw [S.up_other _ _ (by simp), S.up_other _ _ (by simp)]
      have e1 : appOwn G.own n d (w.heap.size, (es.length + rows.length) * sz) (.m x) = G.own (.m x) := by funext j; simp [appOwn]
      simp only [e1]
      exact (h.drew.mem x).mono hfp (fun _ _ h => h) (fun b hb => ⟨hb, Below.heap_alloc w.drew _ b (h.siteF x b hb).1⟩) fun j g1 e1 he => own_heap h.drew _ he
end
end Go.Abs
