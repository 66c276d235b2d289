/-
  append: a row is laid behind a slice. No condition.
-/
import Derived.Test.YtdlmjdnjenhnfaaEff
namespace Cg
open Go

section
variable {P : Program} {S : Nat → Prop} {μ : Nat → OI} {w : World}

/-- The cells of a row as one list. -/
theorem row_list {b off n esz : Nat} {c : Array Value} {T : TypeId} {fr : Nat × Nat} {R : Nat → Nat → Value → Prop} (hpos : 0 < esz) (hc : w.heap[b]? = some (.cells c T fr))
    (h : ∀ i, i < n → ∀ j, j < esz → ∃ x, c[off + i * esz + j]? = some x ∧ R i j x) :
    ∃ l : List Value, l.length = n * esz ∧ (∀ j v, l[j]? = some v → w.cell? ((⟨b, off, none⟩ : Addr).add j) = some v) ∧ ∀ i, i < n → ∀ j, j < esz → ∃ x, l[i * esz + j]? = some x ∧ R i j x := by
  have hfit : n = 0 ∨ off + n * esz ≤ c.size := by
    by_cases hn : n = 0
    · exact .inl hn
    · obtain ⟨x, h1, _⟩ := h (n - 1) (by omega) (esz - 1) (by omega)
      have h2 := (Array.getElem?_eq_some_iff.1 h1).1
      have h3 : (n - 1) * esz + esz = n * esz := by rw [← Nat.succ_mul]; congr 1; omega
      exact .inr (by omega)
  refine ⟨(c.toList.drop off).take (n * esz), ?_, fun j v hv => ?_, fun i hi j hj => ?_⟩
  · simp only [List.length_take, List.length_drop, Array.length_toList]
    rcases hfit with rfl | hfit
    · simp
    · omega
  · rw [add_eq rfl]
    rw [List.getElem?_take] at hv
    split at hv
    · rw [List.getElem?_drop, Array.getElem?_toList] at hv
      rw [cell_of hc]; exact hv
    · cases hv
  · obtain ⟨x, h1, h2⟩ := h i hi j hj
    have h3 : i * esz + esz ≤ n * esz := by rw [← Nat.succ_mul]; exact Nat.mul_le_mul_right _ hi
    refine ⟨x, ?_, h2⟩
    rw [List.getElem?_take, if_pos (by omega), List.getElem?_drop, Array.getElem?_toList, ← h1]
    congr 1; omega

/-- The rows of a slice, as values in memory. -/
theorem rowsOf_sound {H : List AObj} (hH : HOK S μ w H) {a : AV} {p : List Prop} {n esz : Nat} {cell : Nat → Nat → AV} (h : rowsOf H a = some (p, n, esz, cell)) (hp : ∀ q ∈ p, q) (hpos : 0 < esz ∨ n = 0) {y : Value} (hr : Rel S μ w a y) :
    ∃ A c, y = .slice A n c ∧ ∃ l : List Value, l.length = n * esz ∧ (∀ z, A = some z → ∀ j v, l[j]? = some v → w.cell? (z.add j) = some v) ∧ (A = none → n = 0) ∧
      ∀ i, i < n → ∀ j, j < esz → ∃ x, l[i * esz + j]? = some x ∧ RelI S w (cell i j) x := by
  have zero : ∀ (A : Option Addr) (c : Nat), n = 0 → y = .slice A 0 c → ∃ A c, y = .slice A n c ∧ ∃ l : List Value, l.length = n * esz ∧ (∀ z, A = some z → ∀ j v, l[j]? = some v → w.cell? (z.add j) = some v) ∧ (A = none → n = 0) ∧
      ∀ i, i < n → ∀ j, j < esz → ∃ x, l[i * esz + j]? = some x ∧ RelI S w (cell i j) x := fun A c h0 hy => by
    subst h0
    exact ⟨A, c, hy, [], by simp, fun z _ j v hv => by simp at hv, fun _ => rfl, fun i hi => by omega⟩
  have row : ∀ (b off c : Nat) (C : Array Value) (T : TypeId) (fr : Nat × Nat), n ≠ 0 → y = .slice (some ⟨b, off, none⟩) n c → w.heap[b]? = some (.cells C T fr) →
      (∀ i, i < n → ∀ j, j < esz → ∃ x, C[off + i * esz + j]? = some x ∧ RelI S w (cell i j) x) → ∃ A c, y = .slice A n c ∧ ∃ l : List Value, l.length = n * esz ∧ (∀ z, A = some z → ∀ j v, l[j]? = some v → w.cell? (z.add j) = some v) ∧ (A = none → n = 0) ∧
      ∀ i, i < n → ∀ j, j < esz → ∃ x, l[i * esz + j]? = some x ∧ RelI S w (cell i j) x := fun b off c C T fr hn hy hc hx => by
    obtain ⟨l, h1, h2, h3⟩ := row_list (w := w) (hpos.resolve_right hn) hc hx
    exact ⟨_, c, hy, l, h1, fun z hz j v hv => by cases hz; exact h2 j v hv, fun h => (by cases h), h3⟩
  unfold rowsOf at h
  split at h
  · rename_i n1 e1 c1
    simp only [Option.some.injEq, Prod.mk.injEq] at h
    obtain ⟨h1, h2, h3, h4⟩ := h
    subst h1; subst h2; subst h3; subst h4
    obtain ⟨A, cap, rfl, _, hrow⟩ := hr
    by_cases hn : n1 = 0
    · exact zero A cap hn (by rw [hn])
    · rcases hrow with h0 | ⟨b, off, rfl, _, C, T, fr, hc, hx⟩
      · exact absurd h0 hn
      · exact row b off cap C T fr hn rfl hc hx
  · rename_i n1 e1 c1
    simp only [Option.some.injEq, Prod.mk.injEq] at h
    obtain ⟨h1, h2, h3, h4⟩ := h
    subst h1; subst h2; subst h3; subst h4
    obtain ⟨A, rfl, hrow⟩ := hr
    by_cases hn : n1 = 0
    · exact zero A n1 hn (by rw [hn])
    · rcases hrow with h0 | ⟨b, off, rfl, _, C, T, fr, hc, hx⟩
      · exact absurd h0 hn
      · exact row b off n1 C T fr hn rfl hc hx
  · rename_i o lo k
    have fin : ∀ (m : Nat) (c0 : Nat → Nat → AV), lo + k ≤ m → (μ o).esz = esz → n = k → (cell = fun i j => c0 (i + lo) j) →
        (∀ b, (μ o).b = some b → ∃ C T fr, w.heap[b]? = some (.cells C T fr) ∧ ∀ i, i < m → ∀ j, j < esz → ∃ x, C[(μ o).base + i * esz + j]? = some x ∧ RelI S w (c0 i j) x) →
        ∃ A c, y = .slice A n c ∧ ∃ l : List Value, l.length = n * esz ∧ (∀ z, A = some z → ∀ j v, l[j]? = some v → w.cell? (z.add j) = some v) ∧ (A = none → n = 0) ∧
      ∀ i, i < n → ∀ j, j < esz → ∃ x, l[i * esz + j]? = some x ∧ RelI S w (cell i j) x := fun m c0 hm he hnk hcell hb => by
      subst hnk
      unfold Rel at hr
      split at hr
      · obtain ⟨_, h0, A, rfl⟩ := hr
        exact zero A 0 h0 rfl
      · rename_i b hb'
        obtain ⟨h1, A, rfl, h2⟩ := hr
        by_cases hn : n = 0
        · exact zero _ _ hn (by rw [hn])
        · have hA := h2 (by omega)
          subst hA
          obtain ⟨C, T, fr, hc, hx⟩ := hb b hb'
          refine row b _ _ C T fr hn rfl hc fun i hi j hj => ?_
          obtain ⟨x, h3, h4⟩ := hx (i + lo) (by omega) j hj
          refine ⟨x, ?_, by rw [hcell]; exact h4⟩
          rw [← h3]; congr 1; rw [he, Nat.add_mul]; omega
    split at h
    · rename_i m e c0 hl
      simp only [Option.some.injEq, Prod.mk.injEq] at h
      obtain ⟨rfl, rfl, rfl, rfl⟩ := h
      obtain ⟨he, ho⟩ := hH.obj _ _ (H_getD hl (by simp))
      refine fin m c0 (hp _ (List.mem_singleton.2 rfl)) he rfl rfl fun b hb => ?_
      rw [hb] at ho
      obtain ⟨_, C, T, h1, _, h2⟩ := ho
      exact ⟨C, T, _, h1, h2⟩
    · rename_i m e c0 hl
      simp only [Option.some.injEq, Prod.mk.injEq] at h
      obtain ⟨rfl, rfl, rfl, rfl⟩ := h
      obtain ⟨he, ho⟩ := hH.obj _ _ (H_getD hl (by simp))
      refine fin m c0 (hp _ (List.mem_singleton.2 rfl)) he rfl rfl fun b hb => ?_
      rw [hb] at ho
      obtain ⟨_, _, C, T, fr, h1, h2⟩ := ho
      exact ⟨C, T, fr, h1, h2⟩
    · cases h
  · cases h

/-- append that makes a new block. -/
theorem run_grow {t e : TypeId} {i : TypeInfo} {z : Value} (ty : TypeId) (ht : P.underlying t = some (.slice e)) (hi : P.info? e = some i) (hz : i.zero = some z) (hb : 0 < i.bytes)
    {A : Option Addr} {n cap : Nat} {olds : List Value} (hlo : olds.length = n * i.size) (holds : ∀ b, A = some b → ∀ j v, olds[j]? = some v → w.cell? (b.add j) = some v) (hA : A = none → n = 0)
    {B : Option Addr} {m c : Nat} {news : List Value} (hl : news.length = m * i.size) (hnews : ∀ b, B = some b → ∀ j v, news[j]? = some v → w.cell? (b.add j) = some v) (hB : B = none → m = 0)
    (hg : cap < n + m) (hbytes : (n + m) * i.bytes ≤ 140737488355328) :
    (Builtin.append_ #[t, t] ty #[.slice A n cap, .slice B m c]).run P w =
      .ok (.slice (some ⟨w.heap.size, 0, none⟩) (n + m) (grownCap w (n + m) cap e))
        { w with heap := w.heap.push (.cells (olds.toArray ++ news.toArray ++ Builtin.zeroCells z.cells (grownCap w (n + m) cap e - (n + m))) e), drawn := w.drawn + 1 } := by
  have hn : ¬ (n + m ≤ cap) := by omega
  have hb0 : i.bytes ≠ 0 := by omega
  have h48 : Builtin.nextslicecap (n + m) cap * i.bytes ≤ 281474976710656 := growslice_fits hg hbytes
  have h48' : ¬ (281474976710656 < Builtin.nextslicecap (n + m) cap * i.bytes) := by omega
  have hfirst : ∀ (w' : World) (A : Option Addr) (k cp : Nat) (l : List Value), l.length = k * i.size → (∀ b, A = some b → ∀ j v, l[j]? = some v → w'.cell? (b.add j) = some v) → (A = none → k = 0) →
      (Builtin.firstCells i.size k (.slice A k cp)).run P w' = .ok l.toArray w' := fun w' A k cp l hl h h0 => by
    cases A with
    | none =>
      have := h0 rfl
      subst this
      have : l = [] := List.eq_nil_of_length_eq_zero (by simpa using hl)
      subst this
      exact run_firstCells_none w' i.size 0 0 cp
    | some b => exact run_firstCells_some (P := P) w' i.size k b k cp l hl (h b rfl)
  have hf := hfirst w.drew B m c news hl (by simpa using hnews) hB
  have hfo := hfirst w.drew A n cap olds hlo (by simpa using holds) hA
  simp [Builtin.append_, run_underlying ht, Go.sizeOf, typeInfo, zeroValue, hi, hz, Builtin.lenOf, hn, hb0, h48', Question.forced, hf, hfo, newRow, grownCap]
  have e1 : ∀ X : Array Value, olds.toArray ++ (news.toArray ++ X) = (olds ++ news).toArray ++ X := fun X => by apply Array.ext'; simp
  rw [e1]
  rfl

/-- append that fits: nothing to lay. -/
theorem run_app_none {t e : TypeId} {i : TypeInfo} (ty : TypeId) (ht : P.underlying t = some (.slice e)) (hi : P.info? e = some i) {A : Option Addr} {n cap : Nat} (hn : n ≤ cap) {B : Option Addr} {c : Nat} :
    (Builtin.append_ #[t, t] ty #[.slice A n cap, .slice B 0 c]).run P w = .ok (.slice A n cap) w := by
  have hf : (Builtin.firstCells i.size 0 (.slice B 0 c)).run P w = .ok #[] w := by
    cases B with
    | none => exact run_firstCells_none w i.size 0 0 c
    | some b => exact run_firstCells_some (P := P) w i.size 0 b 0 c [] (by simp) (fun j v h => by simp at h)
  cases A with
  | none => simp [Builtin.append_, run_underlying ht, Go.sizeOf, typeInfo, hi, Builtin.lenOf, hn, hf]
  | some a => simp [Builtin.append_, run_underlying ht, Go.sizeOf, typeInfo, hi, Builtin.lenOf, hn, hf, storeCells]

/-- append within the room that there is. -/
theorem run_app_room {t e : TypeId} {i : TypeInfo} (ty : TypeId) (ht : P.underlying t = some (.slice e)) (hi : P.info? e = some i) {g off n cap : Nat} {cur : Array Value} {T : TypeId} (hg : w.heap[g]? = some (.cells cur T (0, 0)))
    {B : Option Addr} {m c : Nat} {news : List Value} (hl : news.length = m * i.size) (hnews : ∀ b, B = some b → ∀ j v, news[j]? = some v → w.cell? (b.add j) = some v) (hB : B = none → m = 0) (h1 : ∀ u ∈ news, u.oneCell' = true)
    (hroom : n + m ≤ cap) (hfit : off + n * i.size + news.length ≤ cur.size) :
    (Builtin.append_ #[t, t] ty #[.slice (some ⟨g, off, none⟩) n cap, .slice B m c]).run P w =
      .ok (.slice (some ⟨g, off, none⟩) (n + m) cap) (w.setRow g (cur.toList.take (off + n * i.size) ++ news ++ cur.toList.drop (off + n * i.size + news.length)).toArray) := by
  have hf : (Builtin.firstCells i.size m (.slice B m c)).run P w = .ok news.toArray w := by
    cases B with
    | none =>
      have := hB rfl
      subst this
      have : news = [] := List.eq_nil_of_length_eq_zero (by simpa using hl)
      subst this
      exact run_firstCells_none w i.size 0 0 c
    | some b => exact run_firstCells_some (P := P) w i.size m b m c news hl (hnews b rfl)
  have hst := run_storeCells_at P g (off + n * i.size) T news 0 cur w hg (by simpa using hfit) h1
  simp only [Nat.add_zero] at hst
  have ha : (⟨g, off, none⟩ : Addr).add (n * i.size) = ⟨g, off + n * i.size, none⟩ := add_eq rfl _
  simp [Builtin.append_, run_underlying ht, Go.sizeOf, typeInfo, hi, Builtin.lenOf, hroom, hf, ha, hst]

theorem oneCell_of {y : Value} (h : isOne y = true) : y.oneCell' = true := by cases y <;> first | rfl | simp [isOne] at h

/-- The cells of a new block behind a growing append. -/
theorem grown_cells {n m esz k : Nat} {olds news : List Value} {z : Array Value} (hlo : olds.length = n * esz) (hln : news.length = m * esz) (hz : z.size = esz) (hk : n + m ≤ k) {a b : Nat → Nat → AV}
    (ha : ∀ i, i < n → ∀ j, j < esz → ∃ x, olds[i * esz + j]? = some x ∧ RelI S w (a i j) x) (hb : ∀ i, i < m → ∀ j, j < esz → ∃ x, news[i * esz + j]? = some x ∧ RelI S w (b i j) x) :
    0 + k * esz ≤ (olds.toArray ++ news.toArray ++ Builtin.zeroCells z (k - (n + m))).size ∧
    ∀ i, i < n + m → ∀ j, j < esz → ∃ x, (olds.toArray ++ news.toArray ++ Builtin.zeroCells z (k - (n + m)))[0 + i * esz + j]? = some x ∧ RelI S w (joinC n a b i j) x := by
  constructor
  · simp only [Array.size_append, List.size_toArray, size_zeroCells, hz, hlo, hln, Nat.zero_add, ← Nat.add_mul]
    refine Nat.mul_le_mul_right _ ?_
    omega
  · intro i hi j hj
    simp only [Nat.zero_add]
    by_cases h : i < n
    · obtain ⟨x, h1, h2⟩ := ha i h j hj
      have h3 := (List.getElem?_eq_some_iff.1 h1).1
      refine ⟨x, ?_, ?_⟩
      · rw [Array.append_assoc, Array.getElem?_append_left (by simpa using h3)]; simpa using h1
      · have : Nat.blt i n = true := Nat.ble_eq_true_of_le h
        simp only [joinC, this, cond_true]; exact h2
    · obtain ⟨x, h1, h2⟩ := hb (i - n) (by omega) j hj
      have h3 := (List.getElem?_eq_some_iff.1 h1).1
      have h4 : i * esz = n * esz + (i - n) * esz := by rw [← Nat.add_mul]; congr 1; omega
      refine ⟨x, ?_, ?_⟩
      · rw [Array.append_assoc, Array.getElem?_append_right (by simp; omega), Array.getElem?_append_left (by simp; omega)]
        simp only [List.size_toArray, List.getElem?_toArray]
        rw [← h1]; congr 1; omega
      · have : Nat.blt i n = false := by
          cases hbl : Nat.blt i n
          · rfl
          · exact absurd (Nat.le_of_ble_eq_true hbl) (by omega)
        simp only [joinC, this, cond_false]; exact h2

/-- The cells of a block behind an append within its room. -/
theorem room_cells {base n m esz : Nat} {cur : Array Value} {news : List Value} (hln : news.length = m * esz) (hfit : base + n * esz + news.length ≤ cur.size) {a b : Nat → Nat → AV}
    (ha : ∀ i, i < n → ∀ j, j < esz → ∃ x, cur[base + i * esz + j]? = some x ∧ RelI S w (a i j) x) (hb : ∀ i, i < m → ∀ j, j < esz → ∃ x, news[i * esz + j]? = some x ∧ RelI S w (b i j) x) :
    (cur.toList.take (base + n * esz) ++ news ++ cur.toList.drop (base + n * esz + news.length)).toArray.size = cur.size ∧
    ∀ i, i < n + m → ∀ j, j < esz → ∃ x, (cur.toList.take (base + n * esz) ++ news ++ cur.toList.drop (base + n * esz + news.length)).toArray[base + i * esz + j]? = some x ∧ RelI S w (joinC n a b i j) x := by
  constructor
  · simp only [List.size_toArray, List.length_append, List.length_take, List.length_drop, Array.length_toList]; omega
  · intro i hi j hj
    simp only [List.getElem?_toArray]
    have htl : (cur.toList.take (base + n * esz)).length = base + n * esz := by simp only [List.length_take, Array.length_toList]; omega
    by_cases h : i < n
    · obtain ⟨x, h1, h2⟩ := ha i h j hj
      have h5 : i * esz + esz ≤ n * esz := by rw [← Nat.succ_mul]; exact Nat.mul_le_mul_right _ h
      refine ⟨x, ?_, ?_⟩
      · rw [List.append_assoc, List.getElem?_append_left (by omega), List.getElem?_take, if_pos (by omega), Array.getElem?_toList]; exact h1
      · have : Nat.blt i n = true := Nat.ble_eq_true_of_le h
        simp only [joinC, this, cond_true]; exact h2
    · obtain ⟨x, h1, h2⟩ := hb (i - n) (by omega) j hj
      have h3 := (List.getElem?_eq_some_iff.1 h1).1
      have h4 : i * esz = n * esz + (i - n) * esz := by rw [← Nat.add_mul]; congr 1; omega
      refine ⟨x, ?_, ?_⟩
      · rw [List.append_assoc, List.getElem?_append_right (by omega), htl, List.getElem?_append_left (by omega)]
        rw [← h1]; congr 1; omega
      · have : Nat.blt i n = false := by
          cases hbl : Nat.blt i n
          · rfl
          · exact absurd (Nat.le_of_ble_eq_true hbl) (by omega)
        simp only [joinC, this, cond_false]; exact h2

end
end Cg
