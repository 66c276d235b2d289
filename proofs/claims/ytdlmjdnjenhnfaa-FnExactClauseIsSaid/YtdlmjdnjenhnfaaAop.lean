/-
  append, make, store, alloc on states of the machine. No condition.
-/
import Derived.Test.YtdlmjdnjenhnfaaApp
namespace Cg
open Go

/-- What an operation with an effect does in the model. -/
def ERun (E : Ent) (a : Act) (K : AV → St → Prop) (r : Result Value) : Prop :=
  ∃ y w' v st' S' μ', r = .ok y w' ∧ K v st' ∧ Good E st' a w' S' μ' ∧ Rel S' μ' w' v y ∧ ∀ k, st'.H.length ≤ k → ment k v = false

section
variable {P : Program} {S : Nat → Prop} {μ : Nat → OI} {w : World} {E : Ent} {st : St} {a : Act} {base : Nat} {K : AV → St → Prop}

theorem need_elim {ps : List Prop} {k : Prop} (h : need ps k) : (∀ q ∈ ps, q) ∧ k := by
  induction ps with
  | nil => exact ⟨fun q hq => by simp at hq, h⟩
  | cons p ps ih =>
    obtain ⟨h1, h2⟩ := ih h.2
    exact ⟨fun q hq => by rcases List.mem_cons.1 hq with rfl | hq <;> first | exact h.1 | exact h1 q hq, h2⟩

theorem ment_osl {k o : Nat} (h : o < k) (lo n : Nat) : ment k (.osl o lo n) = false := by
  simp only [ment]
  cases hb : Nat.beq k o
  · rfl
  · have := Nat.eq_of_beq_eq_true hb; omega

theorem heap_new (w : World) (o : Obj) (d : Nat) : ({ w with heap := w.heap.push o, drawn := d } : World).heap[w.heap.size]? = some o := by simp

theorem setRow_size (w : World) (g : Nat) (c : Array Value) : (w.setRow g c).heap.size = w.heap.size := by simp [World.setRow]

theorem append_sound (g : Good E st a w S μ) (hbase : E.H.length ≤ base) {t e : TypeId} {z : List AV} (ty : TypeId) (he : elemOf P t = some e) (hz : zeroCells P e = some z) (hzl : z.length = P.cellsOf e) (hpos : 0 < z.length) (hbp : 0 < P.bytesOf e)
    {dst src : AV} {x y : Value} (hd : Rel S μ w dst y) (hs : Rel S μ w src x) (hdm : ∀ k, st.H.length ≤ k → ment k dst = false) (h : aAppend P base e dst src st K) : ERun E a K ((Builtin.append_ #[t, t] ty #[y, x]).run P w) := by
  have hu := elemOf_some he
  obtain ⟨i, zv, hi, hzv, hzc⟩ := zeroCells_some hz
  have hsize : i.size = P.cellsOf e := by simp [Program.cellsOf, hi]
  have hbytes : i.bytes = P.bytesOf e := by simp [Program.bytesOf, hi]
  have hzcs : zv.cells.size = P.cellsOf e := by
    have := RelL_length (Rel_cells (S := S) (μ := μ) (w := w) hzc (Rel_ofConst S μ w zv))
    rw [← hzl, ← this]; simp
  unfold aAppend at h
  split at h
  case h_2 => exact h.elim
  rename_i p m esz' b hrows
  cases hc : Nat.beq esz' (P.cellsOf e) || Nat.beq m 0
  · simp [hc] at h
  simp only [hc, cond_true] at h
  have hne := need_elim h
  clear h
  obtain ⟨hp, h⟩ := hne
  have hesz : esz' = P.cellsOf e ∨ m = 0 := by
    simp only [Bool.or_eq_true] at hc
    exact hc.imp Nat.eq_of_beq_eq_true Nat.eq_of_beq_eq_true
  obtain ⟨B, cB, rfl, news, hln, hnews, hB, hnb⟩ := rowsOf_sound g.hok hrows hp (hesz.imp (fun h => by omega) id) hs
  have hln' : news.length = m * i.size := by rw [hln, hsize]; rcases hesz with h | h <;> rw [h]; simp
  have hnb' : ∀ k, k < m → ∀ j, j < P.cellsOf e → ∃ x, news[k * P.cellsOf e + j]? = some x ∧ RelI S w (b k j) x := fun k hk j hj => by
    rcases hesz with h | h
    · rw [← h]; exact hnb k hk j (by omega)
    · omega
  have hone : ∀ u ∈ news, u.oneCell' = true := fun u hu => by
    obtain ⟨k, hk⟩ := List.getElem?_of_mem hu
    have hkl := (List.getElem?_eq_some_iff.1 hk).1
    have hm : m ≠ 0 := fun h0 => by rw [hln', h0] at hkl; omega
    have hkd : k / P.cellsOf e < m := by rw [Nat.div_lt_iff_lt_mul (by omega)]; rw [hln', hsize] at hkl; exact hkl
    obtain ⟨v, h1, h2⟩ := hnb' (k / P.cellsOf e) hkd (k % P.cellsOf e) (Nat.mod_lt _ (by omega))
    rw [Nat.div_add_mod' k (P.cellsOf e), hk] at h1
    cases h1
    exact oneCell_of (RelI_one h2)
  have hpush : ∀ (c : Array Value) (T : TypeId) (d : Nat), ∀ b, S b → ({ w with heap := w.heap.push (.cells c T), drawn := d } : World).heap[b]? = w.heap[b]? := fun c T d b hb => (Ext.push w (.cells c T) d).block b (g.hok.inS b hb)
  split at h
  · -- a literal
    rename_i n esz ac
    cases hc2 : Nat.beq esz (P.cellsOf e) || Nat.beq n 0
    · simp [hc2] at h
    simp only [hc2, cond_true] at h
    obtain ⟨hn, hbd, hK⟩ := h
    simp only [Bool.or_eq_true] at hc2
    obtain ⟨A, rfl, hrow⟩ := hd
    by_cases hm : m = 0
    · have hn0 : n = 0 := hn.resolve_right (by omega)
      subst hm; subst hn0
      refine ⟨_, w, _, _, S, _, run_app_none ty hu hi (Nat.le_refl 0), hK, g.place (placed_append st.H _) ⟨none, 0, 0, P.cellsOf e⟩ (.inr ⟨g.len, g.ids _ (Nat.le_refl _), fun k cs _ hk => g.hok.ids k cs hk _ (Nat.le_refl _)⟩) rfl rfl rfl (Nat.le_refl _) (fun _ _ _ => rfl) (fun b hb => by cases hb) ?_ (fun cs hcs => by cases hcs), ?_, fun k hk => ment_osl (by simp at hk; omega) _ _⟩
      · refine ⟨by rw [upd_same], ?_⟩
        rw [upd_same]
      · unfold Rel
        rw [upd_same]
        exact ⟨rfl, rfl, A, rfl⟩
    · have holds : ∃ olds : List Value, olds.length = n * i.size ∧ (∀ b, A = some b → ∀ j v, olds[j]? = some v → w.cell? (b.add j) = some v) ∧ (A = none → n = 0) ∧ ∀ k, k < n → ∀ j, j < P.cellsOf e → ∃ x, olds[k * P.cellsOf e + j]? = some x ∧ RelI S w (ac k j) x := by
        by_cases hn0 : n = 0
        · subst hn0
          exact ⟨[], by simp, fun _ _ j v hv => by simp at hv, fun _ => rfl, fun k hk => by omega⟩
        · have hesz2 : esz = P.cellsOf e := hc2.elim Nat.eq_of_beq_eq_true fun h => absurd (Nat.eq_of_beq_eq_true h) hn0
          rcases hrow with h0 | ⟨b0, off, rfl, _, C, T, fr, hC, hx⟩
          · exact absurd h0 hn0
          · obtain ⟨l, h1, h2, h3⟩ := row_list (w := w) (by omega) hC hx
            exact ⟨l, by rw [h1, hsize, hesz2], fun z hz => by cases hz; exact h2, fun h => (by cases h), by rw [← hesz2]; exact h3⟩
      obtain ⟨olds, hlo, hold, hA, hob⟩ := holds
      have hbd' : (n + m) * i.bytes ≤ 140737488355328 := by rw [hbytes]; omega
      have hrun := run_grow (w := w) ty hu hi hzv (by omega) (A := A) (n := n) (cap := n) hlo hold hA (B := B) (m := m) (c := cB) hln' hnews hB (by omega) hbd'
      have hcap := grownCap_ge w (n + m) n e
      obtain ⟨h1, h2⟩ := grown_cells (S := S) (w := w) (z := zv.cells) (k := grownCap w (n + m) n e) (by rw [hlo, hsize]) (by rw [hln', hsize]) hzcs hcap hob hnb'
      refine ⟨_, _, _, _, S, _, hrun, hK, g.made _ _ _ _ ⟨some w.heap.size, 0, grownCap w (n + m) n e, P.cellsOf e⟩ rfl ?_ (fun cs hcs => by cases hcs), ?_, fun k hk => ment_osl (by simp at hk; omega) _ _⟩
      · refine ⟨by rw [upd_same], ?_⟩
        rw [upd_same]
        refine ⟨hcap, _, _, heap_new _ _ _, h1, fun k hk j hj => ?_⟩
        obtain ⟨x, h3, h4⟩ := h2 k hk j hj
        exact ⟨x, h3, RelI_mono (fun _ h => h) (hpush _ _ _) _ _ h4⟩
      · unfold Rel
        rw [upd_same]
        exact ⟨by simpa using hcap, _, rfl, fun _ => by simp⟩
  · -- the call's own
    rename_i o lo n
    split at h
    case h_2 => exact h.elim
    rename_i k esz ac hobj
    have hH := H_getD hobj (by simp)
    cases hc2 : Nat.beq esz (P.cellsOf e)
    · simp [hc2] at h
    simp only [hc2, cond_true] at h
    have hesz2 := Nat.eq_of_beq_eq_true hc2
    subst hesz2
    obtain ⟨hlok, hbd, hK⟩ := h
    have hol : o < st.H.length := (List.getElem?_eq_some_iff.1 hH).1
    have hlive : LiveAt st.H o := LiveAt_iff.2 (.inr ⟨_, _, _, hH⟩)
    obtain ⟨hμe, hobjR⟩ := g.hok.obj _ _ hH
    have hbd' : (n + m) * i.bytes ≤ 140737488355328 := by rw [hbytes]; omega
    -- what comes out, whatever the name: an OI q, a world
    have core : ∃ y' w' q, (Builtin.append_ #[t, t] ty #[y, .slice B m cB]).run P w = .ok y' w' ∧ w'.os = w.os ∧ w'.tape = w.tape ∧ w'.output = w.output ∧ w.heap.size ≤ w'.heap.size ∧
        (∀ c, c < w.heap.size → q.b ≠ some c → w'.heap[c]? = w.heap[c]?) ∧ (∀ c, q.b = some c → c < w'.heap.size ∧ (w.heap.size ≤ c ∨ (μ o).b = some c)) ∧
        (∀ (o' : Nat) (μ' : Nat → OI), μ' o' = q → ObjRel S μ' w' o' (.arr (n + m) (P.cellsOf e) (joinC n (fun i j => ac (i + lo) j) b)) ∧ Rel S μ' w' (.osl o' 0 (n + m)) y') := by
      unfold Rel at hd
      cases hμb : (μ o).b with
      | none =>
        rw [hμb] at hd hobjR
        obtain ⟨rfl, rfl, A, rfl⟩ := hd
        by_cases hm : m = 0
        · subst hm
          refine ⟨_, w, ⟨none, 0, 0, P.cellsOf e⟩, run_app_none ty hu hi (Nat.le_refl 0), rfl, rfl, rfl, Nat.le_refl _, fun _ _ _ => rfl, fun c hc => (by cases hc), fun o' μ' hμ' => ⟨⟨by rw [hμ'], by rw [hμ']⟩, ?_⟩⟩
          unfold Rel
          rw [hμ']
          exact ⟨rfl, rfl, A, rfl⟩
        · have hrun := run_grow (w := w) ty hu hi hzv (by omega) (A := A) (n := 0) (cap := 0) (olds := []) (by simp) (fun _ _ j v hv => by simp at hv) (fun _ => rfl) (B := B) (m := m) (c := cB) hln' hnews hB (by omega) hbd'
          have hcap := grownCap_ge w (0 + m) 0 e
          obtain ⟨h1, h2⟩ := grown_cells (S := S) (w := w) (n := 0) (olds := []) (z := zv.cells) (k := grownCap w (0 + m) 0 e) (a := fun i j => ac (i + 0) j) (by simp) (by rw [hln', hsize]) hzcs hcap (fun k hk => by omega) hnb'
          refine ⟨_, _, ⟨some w.heap.size, 0, grownCap w (0 + m) 0 e, P.cellsOf e⟩, hrun, rfl, rfl, rfl, (Ext.push w _ _).size, fun c hc _ => (Ext.push w _ _).block c hc, fun c hc => by cases hc; exact ⟨by simp, .inl (Nat.le_refl _)⟩, fun o' μ' hμ' => ⟨⟨by rw [hμ'], ?_⟩, ?_⟩⟩
          · rw [hμ']
            refine ⟨hcap, _, _, heap_new _ _ _, h1, fun k hk j hj => ?_⟩
            obtain ⟨x, h3, h4⟩ := h2 k hk j hj
            exact ⟨x, h3, RelI_mono (fun _ h => h) (hpush _ _ _) _ _ h4⟩
          · unfold Rel
            rw [hμ']
            exact ⟨by simpa using hcap, _, rfl, fun _ => by simp⟩
      | some blk =>
        rw [hμb] at hd hobjR
        obtain ⟨hcapn, A, rfl, hA⟩ := hd
        obtain ⟨hkc, C, T, hC, hfitC, hx⟩ := hobjR
        have hx' : ∀ q, q < n → ∀ j, j < P.cellsOf e → ∃ x, C[(μ o).base + lo * P.cellsOf e + q * P.cellsOf e + j]? = some x ∧ RelI S w ((fun i j => ac (i + lo) j) q j) x := fun q hq j hj => by
          obtain ⟨x, h1, h2⟩ := hx (q + lo) (by omega) j hj
          refine ⟨x, ?_, h2⟩
          rw [← h1]; congr 1; rw [Nat.add_mul]; omega
        have hbS : ∀ c, S c → c ≠ blk := fun c hc e => (g.hok.own o blk hlive hμb).1 (e ▸ hc)
        by_cases hroom : n + m ≤ (μ o).cap - lo
        · by_cases hm : m = 0
          · subst hm
            refine ⟨_, w, ⟨some blk, (μ o).base + lo * P.cellsOf e, (μ o).cap - lo, P.cellsOf e⟩, run_app_none ty hu hi (by omega), rfl, rfl, rfl, Nat.le_refl _, fun _ _ _ => rfl, fun c hc => by cases hc; exact ⟨(g.hok.own o blk hlive hμb).2, .inr rfl⟩, fun o' μ' hμ' => ⟨⟨by rw [hμ'], ?_⟩, ?_⟩⟩
            · rw [hμ']
              refine ⟨by simp; omega, C, T, hC, ?_, fun q hq j hj => ?_⟩
              · have : lo * P.cellsOf e + ((μ o).cap - lo) * P.cellsOf e = (μ o).cap * P.cellsOf e := by rw [← Nat.add_mul]; congr 1; omega
                simp only; omega
              · obtain ⟨x, h1, h2⟩ := hx' q (by omega) j hj
                refine ⟨x, h1, ?_⟩
                have : Nat.blt q n = true := Nat.ble_eq_true_of_le (by omega : q + 1 ≤ n)
                simp only [joinC, this, cond_true]; exact h2
            · unfold Rel
              rw [hμ']
              refine ⟨by simp; omega, A, by simp, fun hlt => ?_⟩
              have := hA (by simp at hlt; omega)
              rw [this]; simp [hμe]
          · have hAe := hA (by omega)
            rw [hμe] at hAe
            subst hAe
            have hfit : (μ o).base + lo * P.cellsOf e + n * i.size + news.length ≤ C.size := by
              have h1 : (lo + (n + m)) * P.cellsOf e ≤ (μ o).cap * P.cellsOf e := Nat.mul_le_mul_right _ (by omega)
              rw [Nat.add_mul, Nat.add_mul] at h1
              rw [hln', hsize]; omega
            have hrun := run_app_room (w := w) ty hu hi hC (n := n) (B := B) (m := m) (c := cB) hln' hnews hB hone hroom hfit
            rw [hsize] at hrun hfit
            obtain ⟨h1, h2⟩ := room_cells (S := S) (w := w) (base := (μ o).base + lo * P.cellsOf e) (by rw [hln', hsize]) hfit hx' hnb'
            have hSb : ∀ c, S c → (w.setRow blk (C.toList.take ((μ o).base + lo * P.cellsOf e + n * P.cellsOf e) ++ news ++ C.toList.drop ((μ o).base + lo * P.cellsOf e + n * P.cellsOf e + news.length)).toArray).heap[c]? = w.heap[c]? := fun c hc => setRow_other w blk c _ (hbS c hc)
            refine ⟨_, _, ⟨some blk, (μ o).base + lo * P.cellsOf e, (μ o).cap - lo, P.cellsOf e⟩, hrun, rfl, rfl, rfl, by rw [setRow_size]; exact Nat.le_refl _, fun c _ hne => setRow_other w blk c _ (fun e => hne (by rw [e])), fun c hc => by cases hc; exact ⟨by rw [setRow_size]; exact (g.hok.own o blk hlive hμb).2, .inr rfl⟩, fun o' μ' hμ' => ⟨⟨by rw [hμ'], ?_⟩, ?_⟩⟩
            · rw [hμ']
              refine ⟨hroom, _, T, setRow_heap w blk C _ T (0, 0) hC, ?_, fun q hq j hj => ?_⟩
              · rw [h1]
                have : lo * P.cellsOf e + ((μ o).cap - lo) * P.cellsOf e = (μ o).cap * P.cellsOf e := by rw [← Nat.add_mul]; congr 1; omega
                simp only; omega
              · obtain ⟨x, h3, h4⟩ := h2 q hq j hj
                exact ⟨x, h3, RelI_mono (fun _ h => h) hSb _ _ h4⟩
            · unfold Rel
              rw [hμ']
              exact ⟨by simpa using hroom, ⟨blk, (μ o).base + lo * P.cellsOf e, none⟩, by simp, fun _ => by simp⟩
        · have holds : ∃ olds : List Value, olds.length = n * i.size ∧ (∀ j v, olds[j]? = some v → w.cell? (A.add j) = some v) ∧ ∀ k, k < n → ∀ j, j < P.cellsOf e → ∃ x, olds[k * P.cellsOf e + j]? = some x ∧ RelI S w ((fun i j => ac (i + lo) j) k j) x := by
            by_cases hn0 : n = 0
            · subst hn0
              exact ⟨[], by simp, fun j v hv => by simp at hv, fun k hk => by omega⟩
            · have hAe := hA (by omega)
              rw [hμe] at hAe
              obtain ⟨l, h1, h2, h3⟩ := row_list (w := w) (by omega) hC hx'
              exact ⟨l, by rw [h1, hsize], by rw [hAe]; exact h2, h3⟩
          obtain ⟨olds, hlo, hold, hob⟩ := holds
          have hrun := run_grow (w := w) ty hu hi hzv (by omega) (A := some A) (n := n) (cap := (μ o).cap - lo) hlo (fun b hb => by cases hb; exact hold) (fun h => (by cases h)) (B := B) (m := m) (c := cB) hln' hnews hB (by omega) hbd'
          have hcap := grownCap_ge w (n + m) ((μ o).cap - lo) e
          obtain ⟨h1, h2⟩ := grown_cells (S := S) (w := w) (z := zv.cells) (k := grownCap w (n + m) ((μ o).cap - lo) e) (by rw [hlo, hsize]) (by rw [hln', hsize]) hzcs hcap hob hnb'
          refine ⟨_, _, ⟨some w.heap.size, 0, grownCap w (n + m) ((μ o).cap - lo) e, P.cellsOf e⟩, hrun, rfl, rfl, rfl, (Ext.push w _ _).size, fun c hc _ => (Ext.push w _ _).block c hc, fun c hc => by cases hc; exact ⟨by simp, .inl (Nat.le_refl _)⟩, fun o' μ' hμ' => ⟨⟨by rw [hμ'], ?_⟩, ?_⟩⟩
          · rw [hμ']
            refine ⟨hcap, _, _, heap_new _ _ _, h1, fun k hk j hj => ?_⟩
            obtain ⟨x, h3, h4⟩ := h2 k hk j hj
            exact ⟨x, h3, RelI_mono (fun _ h => h) (hpush _ _ _) _ _ h4⟩
          · unfold Rel
            rw [hμ']
            exact ⟨by simpa using hcap, _, rfl, fun _ => by simp⟩
    obtain ⟨y', w', q, hrun, hos, htape, hout, hsz, hblk, hqb, hfin⟩ := core
    -- the old name is given up first
    have hq : ∀ (H0 : List AObj), (∀ k, k ≠ o → LiveAt H0 k → LiveAt st.H k) → (∀ k, LiveAt H0 k → k ≠ o) → ∀ c, q.b = some c → ¬ S c ∧ c < w'.heap.size ∧ (∀ k, LiveAt H0 k → (μ k).b ≠ some c) ∧ (E.w.heap.size ≤ c ∨ Blk E.μ E.H c) := by
      intro H0 hl hne c hc
      obtain ⟨h1, h2⟩ := hqb c hc
      rcases h2 with h2 | h2
      · refine ⟨fun hS => by have := g.hok.inS c hS; omega, h1, fun k hk hkc => ?_, .inl (Nat.le_trans g.kept.size h2)⟩
        have := (g.hok.own k c (hl k (hne k hk) hk) hkc).2
        omega
      · refine ⟨(g.hok.own o c hlive h2).1, h1, fun k hk hkc => g.hok.sep k o c (hl k (hne k hk) hk) hlive (hne k hk) hkc h2, g.mine o c hlive h2⟩
    cases hbo : Nat.ble base o
    · -- a caller's object: a new name
      simp only [hbo, cond_false] at hK
      have hPl : Placed st.H (st.H.set o .dead) o .dead := placed_set hol _
      have g1 : Good E { st with H := st.H.set o .dead } a w S μ := by
        have := g.place hPl (μ o) (.inl rfl) (w' := w) rfl rfl rfl (Nat.le_refl _) (fun _ _ _ => rfl) (fun c hc => ⟨(g.hok.own o c hlive hc).1, (g.hok.own o c hlive hc).2, fun k hk hl hkc => g.hok.sep k o c hl hlive hk hkc hc, g.mine o c hlive hc⟩) trivial (fun cs hcs => by cases hcs)
        rwa [upd_id] at this
      have hlen : (st.H.set o AObj.dead).length = st.H.length := by simp
      have hnolive : ∀ k, LiveAt (st.H.set o .dead) k → k ≠ o := fun k hk e => by
        subst e
        unfold LiveAt at hk
        rw [List.getElem?_set_self hol] at hk
        exact hk
      have hqq := hq (st.H.set o .dead) (fun k hk hl => (hPl.live hk).1 hl) hnolive
      obtain ⟨hO, hR⟩ := hfin st.H.length (upd μ st.H.length q) (upd_same _ _ _)
      have g2 := g1.place (placed_append (st.H.set o .dead) (.arr (n + m) (P.cellsOf e) (joinC n (fun i j => ac (i + lo) j) b))) q
        (.inr ⟨by rw [hlen]; exact g.len, by rw [hlen]; exact g.ids _ (Nat.le_refl _), fun k cs _ hk => g1.hok.ids k cs hk _ (Nat.le_refl _)⟩) hos htape hout hsz hblk
        (fun c hc => ⟨(hqq c hc).1, (hqq c hc).2.1, fun k _ hl => (hqq c hc).2.2.1 k hl, (hqq c hc).2.2.2⟩) (by rw [hlen]; exact hO) (fun cs hcs => by cases hcs)
      rw [hlen] at g2
      exact ⟨y', w', _, _, S, _, hrun, hK, g2, hR, fun k hk => ment_osl (by simp at hk; omega) _ _⟩
    · -- the call's own object: its name goes over
      simp only [hbo, cond_true] at hK
      have hbo' := Nat.le_of_ble_eq_true hbo
      have g1 := g.forget o
      have hlen : ((st.H.map (killObj o)).set o AObj.dead).length = st.H.length := by simp
      have hnolive : ∀ k, LiveAt ((st.H.map (killObj o)).set o .dead) k → k ≠ o := fun k hk e => by
        subst e
        unfold LiveAt at hk
        rw [List.getElem?_set_self (by simpa using hol)] at hk
        exact hk
      have hlv : ∀ k, k ≠ o → LiveAt ((st.H.map (killObj o)).set o .dead) k → LiveAt st.H k := fun k hk hl => by
        unfold LiveAt at hl ⊢
        rw [List.getElem?_set_ne (Ne.symm hk), List.getElem?_map] at hl
        cases hkk : st.H[k]? with
        | none => rw [hkk] at hl; exact hl
        | some y0 => rw [hkk] at hl; cases y0 <;> simp [killObj] at hl ⊢
      have hqq := hq ((st.H.map (killObj o)).set o .dead) hlv hnolive
      have hPl : Placed ((st.H.map (killObj o)).set o .dead) ((st.H.map (killObj o)).set o (.arr (n + m) (P.cellsOf e) (joinC n (fun i j => ac (i + lo) j) b))) o (.arr (n + m) (P.cellsOf e) (joinC n (fun i j => ac (i + lo) j) b)) :=
        { le := by rw [hlen]; omega, at_ := List.getElem?_set_self (by simpa using hol), other := fun k hk => by rw [List.getElem?_set_ne (Ne.symm hk), List.getElem?_set_ne (Ne.symm hk)], len := by simp }
      obtain ⟨hO, hR⟩ := hfin o (upd μ o q) (upd_same _ _ _)
      have g2 := g1.place hPl q (.inr ⟨by omega, kill_mentL o _, fun k cs hk hcs => by
          rw [List.getElem?_set_ne (Ne.symm hk), List.getElem?_map] at hcs
          cases hkk : st.H[k]? with
          | none => rw [hkk] at hcs; simp at hcs
          | some y0 =>
            rw [hkk] at hcs
            cases y0 <;> simp [killObj] at hcs
            subst hcs
            exact kill_mentL o _⟩) hos htape hout hsz hblk
        (fun c hc => ⟨(hqq c hc).1, (hqq c hc).2.1, fun k _ hl => (hqq c hc).2.2.1 k hl, (hqq c hc).2.2.2⟩) hO (fun cs hcs => by cases hcs)
      exact ⟨y', w', _, _, S, _, hrun, hK, g2, hR, fun k hk => ment_osl (by simp at hk; omega) _ _⟩
  · exact h.elim

end
end Cg
