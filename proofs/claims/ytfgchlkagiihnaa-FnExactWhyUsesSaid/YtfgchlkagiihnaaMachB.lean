/-
  The abstract machine, part MachB. No condition.
-/
import Derived.Test.YtfgchlkagiihnaaMachA
set_option linter.unusedVariables false
set_option linter.unusedSimpArgs false
/-
  append: a row is laid behind a slice. No condition.
-/
namespace Cg
open Go

section
variable {P : Program} {S : Nat → Prop} {μ : Nat → OI} {w : World}

/-- The cells of a row as one list. -/
theorem row_list {b off n esz : Nat} {c : Array Value} {T : TypeId} {fr : Nat × Nat} {R : Nat → Nat → Value → Prop} (hpos : 0 < esz) (hc : w.heap[b]? = some (.cells c T fr))
    (h : ∀ i, i < n → ∀ j, j < esz → ∃ x, c[off + i * esz + j]? = some x ∧ R i j x) :
    ∃ l : List Value, l.length = n * esz ∧ (∀ j v, l[j]? = some v → w.cell? ((⟨b, off, none⟩ : Addr).add j) = some v) ∧ ∀ i, i < n → ∀ j, j < esz → ∃ x, l[i * esz + j]? = some x ∧ R i j x := by
  have hfit : n = 0 ∨ off + n * esz ≤ c.size := by
    by_cases hn : n = 0
    · exact .inl hn
    · obtain ⟨x, h1, _⟩ := h (n - 1) (by omega) (esz - 1) (by omega)
      have h2 := (Array.getElem?_eq_some_iff.1 h1).1
      have h3 : (n - 1) * esz + esz = n * esz := by rw [← Nat.succ_mul]; congr 1; omega
      exact .inr (by omega)
  refine ⟨(c.toList.drop off).take (n * esz), ?_, fun j v hv => ?_, fun i hi j hj => ?_⟩
  · simp only [List.length_take, List.length_drop, Array.length_toList]
    rcases hfit with rfl | hfit
    · simp
    · omega
  · rw [add_eq rfl]
    rw [List.getElem?_take] at hv
    split at hv
    · rw [List.getElem?_drop, Array.getElem?_toList] at hv
      rw [cell_of hc]; exact hv
    · cases hv
  · obtain ⟨x, h1, h2⟩ := h i hi j hj
    have h3 : i * esz + esz ≤ n * esz := by rw [← Nat.succ_mul]; exact Nat.mul_le_mul_right _ hi
    refine ⟨x, ?_, h2⟩
    rw [List.getElem?_take, if_pos (by omega), List.getElem?_drop, Array.getElem?_toList, ← h1]
    congr 1; omega

/-- The rows of a slice, as values in memory. -/
theorem rowsOf_sound {H : List AObj} (hH : HOK S μ w H) {a : AV} {p : List Prop} {n esz : Nat} {cell : Nat → Nat → AV} (h : rowsOf H a = some (p, n, esz, cell)) (hp : ∀ q ∈ p, q) (hpos : 0 < esz ∨ n = 0) {y : Value} (hr : Rel S μ w a y) :
    ∃ A c, y = .slice A n c ∧ ∃ l : List Value, l.length = n * esz ∧ (∀ z, A = some z → ∀ j v, l[j]? = some v → w.cell? (z.add j) = some v) ∧ (A = none → n = 0) ∧
      ∀ i, i < n → ∀ j, j < esz → ∃ x, l[i * esz + j]? = some x ∧ RelI S w (cell i j) x := by
  have zero : ∀ (A : Option Addr) (c : Nat), n = 0 → y = .slice A 0 c → ∃ A c, y = .slice A n c ∧ ∃ l : List Value, l.length = n * esz ∧ (∀ z, A = some z → ∀ j v, l[j]? = some v → w.cell? (z.add j) = some v) ∧ (A = none → n = 0) ∧
      ∀ i, i < n → ∀ j, j < esz → ∃ x, l[i * esz + j]? = some x ∧ RelI S w (cell i j) x := fun A c h0 hy => by
    subst h0
    exact ⟨A, c, hy, [], by simp, fun z _ j v hv => by simp at hv, fun _ => rfl, fun i hi => by omega⟩
  have row : ∀ (b off c : Nat) (C : Array Value) (T : TypeId) (fr : Nat × Nat), n ≠ 0 → y = .slice (some ⟨b, off, none⟩) n c → w.heap[b]? = some (.cells C T fr) →
      (∀ i, i < n → ∀ j, j < esz → ∃ x, C[off + i * esz + j]? = some x ∧ RelI S w (cell i j) x) → ∃ A c, y = .slice A n c ∧ ∃ l : List Value, l.length = n * esz ∧ (∀ z, A = some z → ∀ j v, l[j]? = some v → w.cell? (z.add j) = some v) ∧ (A = none → n = 0) ∧
      ∀ i, i < n → ∀ j, j < esz → ∃ x, l[i * esz + j]? = some x ∧ RelI S w (cell i j) x := fun b off c C T fr hn hy hc hx => by
    obtain ⟨l, h1, h2, h3⟩ := row_list (w := w) (hpos.resolve_right hn) hc hx
    exact ⟨_, c, hy, l, h1, fun z hz j v hv => by cases hz; exact h2 j v hv, fun h => (by cases h), h3⟩
  unfold rowsOf at h
  split at h
  · rename_i n1 e1 c1
    simp only [Option.some.injEq, Prod.mk.injEq] at h
    obtain ⟨h1, h2, h3, h4⟩ := h
    subst h1; subst h2; subst h3; subst h4
    obtain ⟨A, cap, rfl, _, hrow⟩ := hr
    by_cases hn : n1 = 0
    · exact zero A cap hn (by rw [hn])
    · rcases hrow with h0 | ⟨b, off, rfl, _, C, T, fr, hc, hx⟩
      · exact absurd h0 hn
      · exact row b off cap C T fr hn rfl hc hx
  · rename_i n1 e1 c1
    simp only [Option.some.injEq, Prod.mk.injEq] at h
    obtain ⟨h1, h2, h3, h4⟩ := h
    subst h1; subst h2; subst h3; subst h4
    obtain ⟨A, rfl, hrow⟩ := hr
    by_cases hn : n1 = 0
    · exact zero A n1 hn (by rw [hn])
    · rcases hrow with h0 | ⟨b, off, rfl, _, C, T, fr, hc, hx⟩
      · exact absurd h0 hn
      · exact row b off n1 C T fr hn rfl hc hx
  · rename_i o lo k
    have fin : ∀ (m : Nat) (c0 : Nat → Nat → AV), lo + k ≤ m → (μ o).esz = esz → n = k → (cell = fun i j => c0 (i + lo) j) →
        (∀ b, (μ o).b = some b → ∃ C T fr, w.heap[b]? = some (.cells C T fr) ∧ ∀ i, i < m → ∀ j, j < esz → ∃ x, C[(μ o).base + i * esz + j]? = some x ∧ RelI S w (c0 i j) x) →
        ∃ A c, y = .slice A n c ∧ ∃ l : List Value, l.length = n * esz ∧ (∀ z, A = some z → ∀ j v, l[j]? = some v → w.cell? (z.add j) = some v) ∧ (A = none → n = 0) ∧
      ∀ i, i < n → ∀ j, j < esz → ∃ x, l[i * esz + j]? = some x ∧ RelI S w (cell i j) x := fun m c0 hm he hnk hcell hb => by
      subst hnk
      unfold Rel at hr
      split at hr
      · obtain ⟨_, h0, A, rfl⟩ := hr
        exact zero A 0 h0 rfl
      · rename_i b hb'
        obtain ⟨h1, A, rfl, h2⟩ := hr
        by_cases hn : n = 0
        · exact zero _ _ hn (by rw [hn])
        · have hA := h2 (by omega)
          subst hA
          obtain ⟨C, T, fr, hc, hx⟩ := hb b hb'
          refine row b _ _ C T fr hn rfl hc fun i hi j hj => ?_
          obtain ⟨x, h3, h4⟩ := hx (i + lo) (by omega) j hj
          refine ⟨x, ?_, by rw [hcell]; exact h4⟩
          rw [← h3]; congr 1; rw [he, Nat.add_mul]; omega
    split at h
    · rename_i m e c0 hl
      simp only [Option.some.injEq, Prod.mk.injEq] at h
      obtain ⟨rfl, rfl, rfl, rfl⟩ := h
      obtain ⟨he, ho⟩ := hH.obj _ _ (H_getD hl (by simp))
      refine fin m c0 (hp _ (List.mem_singleton.2 rfl)) he rfl rfl fun b hb => ?_
      rw [hb] at ho
      obtain ⟨_, C, T, h1, _, h2⟩ := ho
      exact ⟨C, T, _, h1, h2⟩
    · rename_i m e c0 hl
      simp only [Option.some.injEq, Prod.mk.injEq] at h
      obtain ⟨rfl, rfl, rfl, rfl⟩ := h
      obtain ⟨he, ho⟩ := hH.obj _ _ (H_getD hl (by simp))
      refine fin m c0 (hp _ (List.mem_singleton.2 rfl)) he rfl rfl fun b hb => ?_
      rw [hb] at ho
      obtain ⟨_, _, C, T, fr, h1, h2⟩ := ho
      exact ⟨C, T, fr, h1, h2⟩
    · cases h
  · cases h

/-- append that makes a new block. -/
theorem run_grow {t e : TypeId} {i : TypeInfo} {z : Value} (ty : TypeId) (ht : P.underlying t = some (.slice e)) (hi : P.info? e = some i) (hz : i.zero = some z) (hb : 0 < i.bytes)
    {A : Option Addr} {n cap : Nat} {olds : List Value} (hlo : olds.length = n * i.size) (holds : ∀ b, A = some b → ∀ j v, olds[j]? = some v → w.cell? (b.add j) = some v) (hA : A = none → n = 0)
    {B : Option Addr} {m c : Nat} {news : List Value} (hl : news.length = m * i.size) (hnews : ∀ b, B = some b → ∀ j v, news[j]? = some v → w.cell? (b.add j) = some v) (hB : B = none → m = 0)
    (hg : cap < n + m) (hbytes : (n + m) * i.bytes ≤ 140737488355328) :
    (Builtin.append_ #[t, t] ty #[.slice A n cap, .slice B m c]).run P w =
      .ok (.slice (some ⟨w.heap.size, 0, none⟩) (n + m) (grownCap w (n + m) cap e))
        { w with heap := w.heap.push (.cells (olds.toArray ++ news.toArray ++ Builtin.zeroCells z.cells (grownCap w (n + m) cap e - (n + m))) e), drawn := w.drawn + 1 } := by
  have hn : ¬ (n + m ≤ cap) := by omega
  have hb0 : i.bytes ≠ 0 := by omega
  have h48 : Builtin.nextslicecap (n + m) cap * i.bytes ≤ 281474976710656 := growslice_fits hg hbytes
  have h48' : ¬ (281474976710656 < Builtin.nextslicecap (n + m) cap * i.bytes) := by omega
  have hfirst : ∀ (w' : World) (A : Option Addr) (k cp : Nat) (l : List Value), l.length = k * i.size → (∀ b, A = some b → ∀ j v, l[j]? = some v → w'.cell? (b.add j) = some v) → (A = none → k = 0) →
      (Builtin.firstCells i.size k (.slice A k cp)).run P w' = .ok l.toArray w' := fun w' A k cp l hl h h0 => by
    cases A with
    | none =>
      have := h0 rfl
      subst this
      have : l = [] := List.eq_nil_of_length_eq_zero (by simpa using hl)
      subst this
      exact run_firstCells_none w' i.size 0 0 cp
    | some b => exact run_firstCells_some (P := P) w' i.size k b k cp l hl (h b rfl)
  have hf := hfirst w.drew B m c news hl (by simpa using hnews) hB
  have hfo := hfirst w.drew A n cap olds hlo (by simpa using holds) hA
  simp [Builtin.append_, run_underlying ht, Go.sizeOf, typeInfo, zeroValue, hi, hz, Builtin.lenOf, hn, hb0, h48', Question.forced, hf, hfo, newRow, grownCap]
  have e1 : ∀ X : Array Value, olds.toArray ++ (news.toArray ++ X) = (olds ++ news).toArray ++ X := fun X => by apply Array.ext'; simp
  rw [e1]
  rfl

/-- append that fits: nothing to lay. -/
theorem run_app_none {t e : TypeId} {i : TypeInfo} (ty : TypeId) (ht : P.underlying t = some (.slice e)) (hi : P.info? e = some i) {A : Option Addr} {n cap : Nat} (hn : n ≤ cap) {B : Option Addr} {c : Nat} :
    (Builtin.append_ #[t, t] ty #[.slice A n cap, .slice B 0 c]).run P w = .ok (.slice A n cap) w := by
  have hf : (Builtin.firstCells i.size 0 (.slice B 0 c)).run P w = .ok #[] w := by
    cases B with
    | none => exact run_firstCells_none w i.size 0 0 c
    | some b => exact run_firstCells_some (P := P) w i.size 0 b 0 c [] (by simp) (fun j v h => by simp at h)
  cases A with
  | none => simp [Builtin.append_, run_underlying ht, Go.sizeOf, typeInfo, hi, Builtin.lenOf, hn, hf]
  | some a => simp [Builtin.append_, run_underlying ht, Go.sizeOf, typeInfo, hi, Builtin.lenOf, hn, hf, storeCells]

/-- append within the room that there is. -/
theorem run_app_room {t e : TypeId} {i : TypeInfo} (ty : TypeId) (ht : P.underlying t = some (.slice e)) (hi : P.info? e = some i) {g off n cap : Nat} {cur : Array Value} {T : TypeId} (hg : w.heap[g]? = some (.cells cur T (0, 0)))
    {B : Option Addr} {m c : Nat} {news : List Value} (hl : news.length = m * i.size) (hnews : ∀ b, B = some b → ∀ j v, news[j]? = some v → w.cell? (b.add j) = some v) (hB : B = none → m = 0) (h1 : ∀ u ∈ news, u.oneCell' = true)
    (hroom : n + m ≤ cap) (hfit : off + n * i.size + news.length ≤ cur.size) :
    (Builtin.append_ #[t, t] ty #[.slice (some ⟨g, off, none⟩) n cap, .slice B m c]).run P w =
      .ok (.slice (some ⟨g, off, none⟩) (n + m) cap) (w.setRow g (cur.toList.take (off + n * i.size) ++ news ++ cur.toList.drop (off + n * i.size + news.length)).toArray) := by
  have hf : (Builtin.firstCells i.size m (.slice B m c)).run P w = .ok news.toArray w := by
    cases B with
    | none =>
      have := hB rfl
      subst this
      have : news = [] := List.eq_nil_of_length_eq_zero (by simpa using hl)
      subst this
      exact run_firstCells_none w i.size 0 0 c
    | some b => exact run_firstCells_some (P := P) w i.size m b m c news hl (hnews b rfl)
  have hst := run_storeCells_at P g (off + n * i.size) T news 0 cur w hg (by simpa using hfit) h1
  simp only [Nat.add_zero] at hst
  have ha : (⟨g, off, none⟩ : Addr).add (n * i.size) = ⟨g, off + n * i.size, none⟩ := add_eq rfl _
  simp [Builtin.append_, run_underlying ht, Go.sizeOf, typeInfo, hi, Builtin.lenOf, hroom, hf, ha, hst]

theorem oneCell_of {y : Value} (h : isOne y = true) : y.oneCell' = true := by cases y <;> first | rfl | simp [isOne] at h

/-- The cells of a new block behind a growing append. -/
theorem grown_cells {n m esz k : Nat} {olds news : List Value} {z : Array Value} (hlo : olds.length = n * esz) (hln : news.length = m * esz) (hz : z.size = esz) (hk : n + m ≤ k) {a b : Nat → Nat → AV}
    (ha : ∀ i, i < n → ∀ j, j < esz → ∃ x, olds[i * esz + j]? = some x ∧ RelI S w (a i j) x) (hb : ∀ i, i < m → ∀ j, j < esz → ∃ x, news[i * esz + j]? = some x ∧ RelI S w (b i j) x) :
    0 + k * esz ≤ (olds.toArray ++ news.toArray ++ Builtin.zeroCells z (k - (n + m))).size ∧
    ∀ i, i < n + m → ∀ j, j < esz → ∃ x, (olds.toArray ++ news.toArray ++ Builtin.zeroCells z (k - (n + m)))[0 + i * esz + j]? = some x ∧ RelI S w (joinC n a b i j) x := by
  constructor
  · simp only [Array.size_append, List.size_toArray, size_zeroCells, hz, hlo, hln, Nat.zero_add, ← Nat.add_mul]
    refine Nat.mul_le_mul_right _ ?_
    omega
  · intro i hi j hj
    simp only [Nat.zero_add]
    by_cases h : i < n
    · obtain ⟨x, h1, h2⟩ := ha i h j hj
      have h3 := (List.getElem?_eq_some_iff.1 h1).1
      refine ⟨x, ?_, ?_⟩
      · rw [Array.append_assoc, Array.getElem?_append_left (by simpa using h3)]; simpa using h1
      · have : Nat.blt i n = true := Nat.ble_eq_true_of_le h
        simp only [joinC, this, cond_true]; exact h2
    · obtain ⟨x, h1, h2⟩ := hb (i - n) (by omega) j hj
      have h3 := (List.getElem?_eq_some_iff.1 h1).1
      have h4 : i * esz = n * esz + (i - n) * esz := by rw [← Nat.add_mul]; congr 1; omega
      refine ⟨x, ?_, ?_⟩
      · rw [Array.append_assoc, Array.getElem?_append_right (by simp; omega), Array.getElem?_append_left (by simp; omega)]
        simp only [List.size_toArray, List.getElem?_toArray]
        rw [← h1]; congr 1; omega
      · have : Nat.blt i n = false := by
          cases hbl : Nat.blt i n
          · rfl
          · exact absurd (Nat.le_of_ble_eq_true hbl) (by omega)
        simp only [joinC, this, cond_false]; exact h2

/-- The cells of a block behind an append within its room. -/
theorem room_cells {base n m esz : Nat} {cur : Array Value} {news : List Value} (hln : news.length = m * esz) (hfit : base + n * esz + news.length ≤ cur.size) {a b : Nat → Nat → AV}
    (ha : ∀ i, i < n → ∀ j, j < esz → ∃ x, cur[base + i * esz + j]? = some x ∧ RelI S w (a i j) x) (hb : ∀ i, i < m → ∀ j, j < esz → ∃ x, news[i * esz + j]? = some x ∧ RelI S w (b i j) x) :
    (cur.toList.take (base + n * esz) ++ news ++ cur.toList.drop (base + n * esz + news.length)).toArray.size = cur.size ∧
    ∀ i, i < n + m → ∀ j, j < esz → ∃ x, (cur.toList.take (base + n * esz) ++ news ++ cur.toList.drop (base + n * esz + news.length)).toArray[base + i * esz + j]? = some x ∧ RelI S w (joinC n a b i j) x := by
  constructor
  · simp only [List.size_toArray, List.length_append, List.length_take, List.length_drop, Array.length_toList]; omega
  · intro i hi j hj
    simp only [List.getElem?_toArray]
    have htl : (cur.toList.take (base + n * esz)).length = base + n * esz := by simp only [List.length_take, Array.length_toList]; omega
    by_cases h : i < n
    · obtain ⟨x, h1, h2⟩ := ha i h j hj
      have h5 : i * esz + esz ≤ n * esz := by rw [← Nat.succ_mul]; exact Nat.mul_le_mul_right _ h
      refine ⟨x, ?_, ?_⟩
      · rw [List.append_assoc, List.getElem?_append_left (by omega), List.getElem?_take, if_pos (by omega), Array.getElem?_toList]; exact h1
      · have : Nat.blt i n = true := Nat.ble_eq_true_of_le h
        simp only [joinC, this, cond_true]; exact h2
    · obtain ⟨x, h1, h2⟩ := hb (i - n) (by omega) j hj
      have h3 := (List.getElem?_eq_some_iff.1 h1).1
      have h4 : i * esz = n * esz + (i - n) * esz := by rw [← Nat.add_mul]; congr 1; omega
      refine ⟨x, ?_, ?_⟩
      · rw [List.append_assoc, List.getElem?_append_right (by omega), htl, List.getElem?_append_left (by omega)]
        rw [← h1]; congr 1; omega
      · have : Nat.blt i n = false := by
          cases hbl : Nat.blt i n
          · rfl
          · exact absurd (Nat.le_of_ble_eq_true hbl) (by omega)
        simp only [joinC, this, cond_false]; exact h2

end
end Cg

/-
  append, make, store, alloc on states of the machine. No condition.
-/
namespace Cg
open Go

/-- What an operation with an effect does in the model. -/
def ERun (E : Ent) (st : St) (a : Act) (K : AV → List AObj → Prop) (r : Result Value) : Prop :=
  ∃ y w' v H' S' μ', r = .ok y w' ∧ K v H' ∧ Good E { st with H := H' } a w' S' μ' ∧ Rel S' μ' w' v y ∧ ∀ k, H'.length ≤ k → ment k v = false

section
variable {P : Program} {S : Nat → Prop} {μ : Nat → OI} {w : World} {E : Ent} {st : St} {a : Act} {K : AV → List AObj → Prop}

theorem ment_osl {k o : Nat} (h : o < k) (lo n : Nat) : ment k (.osl o lo n) = false := by
  simp only [ment]
  cases hb : Nat.beq k o
  · rfl
  · have := Nat.eq_of_beq_eq_true hb; omega

theorem heap_new (w : World) (o : Obj) (d : Nat) : ({ w with heap := w.heap.push o, drawn := d } : World).heap[w.heap.size]? = some o := by simp

theorem setRow_size (w : World) (g : Nat) (c : Array Value) : (w.setRow g c).heap.size = w.heap.size := by simp [World.setRow]

theorem append_sound (g : Good E st a w S μ) {t e : TypeId} {z : List AV} (ty : TypeId) (he : elemOf P t = some e) (hz : zeroCells P e = some z) (hzl : z.length = P.cellsOf e) (hpos : 0 < z.length) (hbp : 0 < P.bytesOf e)
    {dst src : AV} {x y : Value} (hd : Rel S μ w dst y) (hs : Rel S μ w src x) (hdm : ∀ k, st.H.length ≤ k → ment k dst = false) (h : aAppend P e dst src st.H K) : ERun E st a K ((Builtin.append_ #[t, t] ty #[y, x]).run P w) := by
  have hu := elemOf_some he
  obtain ⟨i, zv, hi, hzv, hzc⟩ := zeroCells_some hz
  have hsize : i.size = P.cellsOf e := by simp [Program.cellsOf, hi]
  have hbytes : i.bytes = P.bytesOf e := by simp [Program.bytesOf, hi]
  have hzcs : zv.cells.size = P.cellsOf e := by
    have := RelL_length (Rel_cells (S := S) (μ := μ) (w := w) hzc (Rel_ofConst S μ w zv))
    rw [← hzl, ← this]; simp
  unfold aAppend at h
  split at h
  case h_2 => exact h.elim
  rename_i p m esz' b hrows
  cases hc : Nat.beq esz' (P.cellsOf e) || Nat.beq m 0
  · simp [hc] at h
  simp only [hc, cond_true] at h
  have hne := need_elim h
  clear h
  obtain ⟨hp, h⟩ := hne
  have hesz : esz' = P.cellsOf e ∨ m = 0 := by
    simp only [Bool.or_eq_true] at hc
    exact hc.imp Nat.eq_of_beq_eq_true Nat.eq_of_beq_eq_true
  obtain ⟨B, cB, rfl, news, hln, hnews, hB, hnb⟩ := rowsOf_sound g.hok hrows hp (hesz.imp (fun h => by omega) id) hs
  have hln' : news.length = m * i.size := by rw [hln, hsize]; rcases hesz with h | h <;> rw [h]; simp
  have hnb' : ∀ k, k < m → ∀ j, j < P.cellsOf e → ∃ x, news[k * P.cellsOf e + j]? = some x ∧ RelI S w (b k j) x := fun k hk j hj => by
    rcases hesz with h | h
    · rw [← h]; exact hnb k hk j (by omega)
    · omega
  have hone : ∀ u ∈ news, u.oneCell' = true := fun u hu => by
    obtain ⟨k, hk⟩ := List.getElem?_of_mem hu
    have hkl := (List.getElem?_eq_some_iff.1 hk).1
    have hm : m ≠ 0 := fun h0 => by rw [hln', h0] at hkl; omega
    have hkd : k / P.cellsOf e < m := by rw [Nat.div_lt_iff_lt_mul (by omega)]; rw [hln', hsize] at hkl; exact hkl
    obtain ⟨v, h1, h2⟩ := hnb' (k / P.cellsOf e) hkd (k % P.cellsOf e) (Nat.mod_lt _ (by omega))
    rw [Nat.div_add_mod' k (P.cellsOf e), hk] at h1
    cases h1
    exact oneCell_of (RelI_one h2)
  have hpush : ∀ (c : Array Value) (T : TypeId) (d : Nat), ∀ b, S b → ({ w with heap := w.heap.push (.cells c T), drawn := d } : World).heap[b]? = w.heap[b]? := fun c T d b hb => (Ext.push w (.cells c T) d).block b (g.hok.inS b hb)
  split at h
  · -- a literal
    rename_i n esz ac
    cases hc2 : Nat.beq esz (P.cellsOf e) || Nat.beq n 0
    · simp [hc2] at h
    simp only [hc2, cond_true] at h
    obtain ⟨hn, hbd, hK⟩ := h
    simp only [Bool.or_eq_true] at hc2
    obtain ⟨A, rfl, hrow⟩ := hd
    by_cases hm : m = 0
    · have hn0 : n = 0 := hn.resolve_right (by omega)
      subst hm; subst hn0
      refine ⟨_, w, _, _, S, _, run_app_none ty hu hi (Nat.le_refl 0), hK, g.place (placed_append st.H _) ⟨none, 0, 0, P.cellsOf e, fun _ _ => none⟩ (.inr ⟨g.len, g.ids _ (Nat.le_refl _), fun k cs _ hk => g.hok.ids k cs hk _ (Nat.le_refl _)⟩) rfl rfl rfl (Nat.le_refl _) (fun _ _ _ => rfl) (fun b hb => by cases hb) ?_ (fun cs hcs => by cases hcs), ?_, fun k hk => ment_osl (by simp at hk; omega) _ _⟩
      · refine ⟨by rw [upd_same], ?_⟩
        rw [upd_same]
      · unfold Rel
        rw [upd_same]
        exact ⟨rfl, rfl, A, rfl⟩
    · have holds : ∃ olds : List Value, olds.length = n * i.size ∧ (∀ b, A = some b → ∀ j v, olds[j]? = some v → w.cell? (b.add j) = some v) ∧ (A = none → n = 0) ∧ ∀ k, k < n → ∀ j, j < P.cellsOf e → ∃ x, olds[k * P.cellsOf e + j]? = some x ∧ RelI S w (ac k j) x := by
        by_cases hn0 : n = 0
        · subst hn0
          exact ⟨[], by simp, fun _ _ j v hv => by simp at hv, fun _ => rfl, fun k hk => by omega⟩
        · have hesz2 : esz = P.cellsOf e := hc2.elim Nat.eq_of_beq_eq_true fun h => absurd (Nat.eq_of_beq_eq_true h) hn0
          rcases hrow with h0 | ⟨b0, off, rfl, _, C, T, fr, hC, hx⟩
          · exact absurd h0 hn0
          · obtain ⟨l, h1, h2, h3⟩ := row_list (w := w) (by omega) hC hx
            exact ⟨l, by rw [h1, hsize, hesz2], fun z hz => by cases hz; exact h2, fun h => (by cases h), by rw [← hesz2]; exact h3⟩
      obtain ⟨olds, hlo, hold, hA, hob⟩ := holds
      have hbd' : (n + m) * i.bytes ≤ 140737488355328 := by rw [hbytes]; omega
      have hrun := run_grow (w := w) ty hu hi hzv (by omega) (A := A) (n := n) (cap := n) hlo hold hA (B := B) (m := m) (c := cB) hln' hnews hB (by omega) hbd'
      have hcap := grownCap_ge w (n + m) n e
      obtain ⟨h1, h2⟩ := grown_cells (S := S) (w := w) (z := zv.cells) (k := grownCap w (n + m) n e) (by rw [hlo, hsize]) (by rw [hln', hsize]) hzcs hcap hob hnb'
      refine ⟨_, _, _, _, S, _, hrun, hK, g.made _ _ _ _ ⟨some w.heap.size, 0, grownCap w (n + m) n e, P.cellsOf e, fun _ _ => none⟩ (fun b hb => (Option.some.inj hb).symm) ?_ (fun cs hcs => by cases hcs), ?_, fun k hk => ment_osl (by simp at hk; omega) _ _⟩
      · refine ⟨by rw [upd_same], ?_⟩
        rw [upd_same]
        refine ⟨hcap, _, _, heap_new _ _ _, h1, fun k hk j hj => ?_⟩
        obtain ⟨x, h3, h4⟩ := h2 k hk j hj
        exact ⟨x, h3, RelI_mono (fun _ h => h) (hpush _ _ _) _ _ h4⟩
      · unfold Rel
        rw [upd_same]
        exact ⟨by simpa using hcap, _, rfl, fun _ => by simp⟩
  · -- the call's own
    rename_i o lo n
    split at h
    case h_2 => exact h.elim
    rename_i k esz ac hobj
    have hH := H_getD hobj (by simp)
    cases hc2 : Nat.beq esz (P.cellsOf e)
    · simp [hc2] at h
    simp only [hc2, cond_true] at h
    have hesz2 := Nat.eq_of_beq_eq_true hc2
    subst hesz2
    obtain ⟨hlok, hbd, hK⟩ := h
    have hol : o < st.H.length := (List.getElem?_eq_some_iff.1 hH).1
    have hlive : LiveAt st.H o := LiveAt_iff.2 (.inr ⟨_, _, _, .inl hH⟩)
    obtain ⟨hμe, hobjR⟩ := g.hok.obj _ _ hH
    have hbd' : (n + m) * i.bytes ≤ 140737488355328 := by rw [hbytes]; omega
    -- what comes out, whatever the name: an OI q, a world
    have core : ∃ y' w' q, (Builtin.append_ #[t, t] ty #[y, .slice B m cB]).run P w = .ok y' w' ∧ w'.os = w.os ∧ w'.tape = w.tape ∧ w'.output = w.output ∧ w.heap.size ≤ w'.heap.size ∧
        (∀ c, c < w.heap.size → q.b ≠ some c → w'.heap[c]? = w.heap[c]?) ∧ (∀ c, q.b = some c → c < w'.heap.size ∧ (w.heap.size ≤ c ∨ (μ o).b = some c)) ∧
        (∀ (o' : Nat) (μ' : Nat → OI), μ' o' = q → ObjRel S μ' w' o' (.arr (n + m) (P.cellsOf e) (joinC n (fun i j => ac (i + lo) j) b)) ∧ Rel S μ' w' (.osl o' 0 (n + m)) y') := by
      unfold Rel at hd
      cases hμb : (μ o).b with
      | none =>
        rw [hμb] at hd hobjR
        obtain ⟨rfl, rfl, A, rfl⟩ := hd
        by_cases hm : m = 0
        · subst hm
          refine ⟨_, w, ⟨none, 0, 0, P.cellsOf e, fun _ _ => none⟩, run_app_none ty hu hi (Nat.le_refl 0), rfl, rfl, rfl, Nat.le_refl _, fun _ _ _ => rfl, fun c hc => (by cases hc), fun o' μ' hμ' => ⟨⟨by rw [hμ'], by rw [hμ']⟩, ?_⟩⟩
          unfold Rel
          rw [hμ']
          exact ⟨rfl, rfl, A, rfl⟩
        · have hrun := run_grow (w := w) ty hu hi hzv (by omega) (A := A) (n := 0) (cap := 0) (olds := []) (by simp) (fun _ _ j v hv => by simp at hv) (fun _ => rfl) (B := B) (m := m) (c := cB) hln' hnews hB (by omega) hbd'
          have hcap := grownCap_ge w (0 + m) 0 e
          obtain ⟨h1, h2⟩ := grown_cells (S := S) (w := w) (n := 0) (olds := []) (z := zv.cells) (k := grownCap w (0 + m) 0 e) (a := fun i j => ac (i + 0) j) (by simp) (by rw [hln', hsize]) hzcs hcap (fun k hk => by omega) hnb'
          refine ⟨_, _, ⟨some w.heap.size, 0, grownCap w (0 + m) 0 e, P.cellsOf e, fun _ _ => none⟩, hrun, rfl, rfl, rfl, (Ext.push w _ _).size, fun c hc _ => (Ext.push w _ _).block c hc, fun c hc => by cases hc; exact ⟨by simp, .inl (Nat.le_refl _)⟩, fun o' μ' hμ' => ⟨⟨by rw [hμ'], ?_⟩, ?_⟩⟩
          · rw [hμ']
            refine ⟨hcap, _, _, heap_new _ _ _, h1, fun k hk j hj => ?_⟩
            obtain ⟨x, h3, h4⟩ := h2 k hk j hj
            exact ⟨x, h3, RelI_mono (fun _ h => h) (hpush _ _ _) _ _ h4⟩
          · unfold Rel
            rw [hμ']
            exact ⟨by simpa using hcap, _, rfl, fun _ => by simp⟩
      | some blk =>
        rw [hμb] at hd hobjR
        obtain ⟨hcapn, A, rfl, hA⟩ := hd
        obtain ⟨hkc, C, T, hC, hfitC, hx⟩ := hobjR
        have hx' : ∀ q, q < n → ∀ j, j < P.cellsOf e → ∃ x, C[(μ o).base + lo * P.cellsOf e + q * P.cellsOf e + j]? = some x ∧ RelI S w ((fun i j => ac (i + lo) j) q j) x := fun q hq j hj => by
          obtain ⟨x, h1, h2⟩ := hx (q + lo) (by omega) j hj
          refine ⟨x, ?_, h2⟩
          rw [← h1]; congr 1; rw [Nat.add_mul]; omega
        have hbS : ∀ c, S c → c ≠ blk := fun c hc e => (g.hok.own o blk hlive hμb).1 (e ▸ hc)
        by_cases hroom : n + m ≤ (μ o).cap - lo
        · by_cases hm : m = 0
          · subst hm
            refine ⟨_, w, ⟨some blk, (μ o).base + lo * P.cellsOf e, (μ o).cap - lo, P.cellsOf e, fun _ _ => none⟩, run_app_none ty hu hi (by omega), rfl, rfl, rfl, Nat.le_refl _, fun _ _ _ => rfl, fun c hc => by cases hc; exact ⟨(g.hok.own o blk hlive hμb).2, .inr rfl⟩, fun o' μ' hμ' => ⟨⟨by rw [hμ'], ?_⟩, ?_⟩⟩
            · rw [hμ']
              refine ⟨by simp; omega, C, T, hC, ?_, fun q hq j hj => ?_⟩
              · have : lo * P.cellsOf e + ((μ o).cap - lo) * P.cellsOf e = (μ o).cap * P.cellsOf e := by rw [← Nat.add_mul]; congr 1; omega
                simp only; omega
              · obtain ⟨x, h1, h2⟩ := hx' q (by omega) j hj
                refine ⟨x, h1, ?_⟩
                have : Nat.blt q n = true := Nat.ble_eq_true_of_le (by omega : q + 1 ≤ n)
                simp only [joinC, this, cond_true]; exact h2
            · unfold Rel
              rw [hμ']
              refine ⟨by simp; omega, A, by simp, fun hlt => ?_⟩
              have := hA (by simp at hlt; omega)
              rw [this]; simp [hμe]
          · have hAe := hA (by omega)
            rw [hμe] at hAe
            subst hAe
            have hfit : (μ o).base + lo * P.cellsOf e + n * i.size + news.length ≤ C.size := by
              have h1 : (lo + (n + m)) * P.cellsOf e ≤ (μ o).cap * P.cellsOf e := Nat.mul_le_mul_right _ (by omega)
              rw [Nat.add_mul, Nat.add_mul] at h1
              rw [hln', hsize]; omega
            have hrun := run_app_room (w := w) ty hu hi hC (n := n) (B := B) (m := m) (c := cB) hln' hnews hB hone hroom hfit
            rw [hsize] at hrun hfit
            obtain ⟨h1, h2⟩ := room_cells (S := S) (w := w) (base := (μ o).base + lo * P.cellsOf e) (by rw [hln', hsize]) hfit hx' hnb'
            have hSb : ∀ c, S c → (w.setRow blk (C.toList.take ((μ o).base + lo * P.cellsOf e + n * P.cellsOf e) ++ news ++ C.toList.drop ((μ o).base + lo * P.cellsOf e + n * P.cellsOf e + news.length)).toArray).heap[c]? = w.heap[c]? := fun c hc => setRow_other w blk c _ (hbS c hc)
            refine ⟨_, _, ⟨some blk, (μ o).base + lo * P.cellsOf e, (μ o).cap - lo, P.cellsOf e, fun _ _ => none⟩, hrun, rfl, rfl, rfl, by rw [setRow_size]; exact Nat.le_refl _, fun c _ hne => setRow_other w blk c _ (fun e => hne (by rw [e])), fun c hc => by cases hc; exact ⟨by rw [setRow_size]; exact (g.hok.own o blk hlive hμb).2, .inr rfl⟩, fun o' μ' hμ' => ⟨⟨by rw [hμ'], ?_⟩, ?_⟩⟩
            · rw [hμ']
              refine ⟨hroom, _, T, setRow_heap w blk C _ T (0, 0) hC, ?_, fun q hq j hj => ?_⟩
              · rw [h1]
                have : lo * P.cellsOf e + ((μ o).cap - lo) * P.cellsOf e = (μ o).cap * P.cellsOf e := by rw [← Nat.add_mul]; congr 1; omega
                simp only; omega
              · obtain ⟨x, h3, h4⟩ := h2 q hq j hj
                exact ⟨x, h3, RelI_mono (fun _ h => h) hSb _ _ h4⟩
            · unfold Rel
              rw [hμ']
              exact ⟨by simpa using hroom, ⟨blk, (μ o).base + lo * P.cellsOf e, none⟩, by simp, fun _ => by simp⟩
        · have holds : ∃ olds : List Value, olds.length = n * i.size ∧ (∀ j v, olds[j]? = some v → w.cell? (A.add j) = some v) ∧ ∀ k, k < n → ∀ j, j < P.cellsOf e → ∃ x, olds[k * P.cellsOf e + j]? = some x ∧ RelI S w ((fun i j => ac (i + lo) j) k j) x := by
            by_cases hn0 : n = 0
            · subst hn0
              exact ⟨[], by simp, fun j v hv => by simp at hv, fun k hk => by omega⟩
            · have hAe := hA (by omega)
              rw [hμe] at hAe
              obtain ⟨l, h1, h2, h3⟩ := row_list (w := w) (by omega) hC hx'
              exact ⟨l, by rw [h1, hsize], by rw [hAe]; exact h2, h3⟩
          obtain ⟨olds, hlo, hold, hob⟩ := holds
          have hrun := run_grow (w := w) ty hu hi hzv (by omega) (A := some A) (n := n) (cap := (μ o).cap - lo) hlo (fun b hb => by cases hb; exact hold) (fun h => (by cases h)) (B := B) (m := m) (c := cB) hln' hnews hB (by omega) hbd'
          have hcap := grownCap_ge w (n + m) ((μ o).cap - lo) e
          obtain ⟨h1, h2⟩ := grown_cells (S := S) (w := w) (z := zv.cells) (k := grownCap w (n + m) ((μ o).cap - lo) e) (by rw [hlo, hsize]) (by rw [hln', hsize]) hzcs hcap hob hnb'
          refine ⟨_, _, ⟨some w.heap.size, 0, grownCap w (n + m) ((μ o).cap - lo) e, P.cellsOf e, fun _ _ => none⟩, hrun, rfl, rfl, rfl, (Ext.push w _ _).size, fun c hc _ => (Ext.push w _ _).block c hc, fun c hc => by cases hc; exact ⟨by simp, .inl (Nat.le_refl _)⟩, fun o' μ' hμ' => ⟨⟨by rw [hμ'], ?_⟩, ?_⟩⟩
          · rw [hμ']
            refine ⟨hcap, _, _, heap_new _ _ _, h1, fun k hk j hj => ?_⟩
            obtain ⟨x, h3, h4⟩ := h2 k hk j hj
            exact ⟨x, h3, RelI_mono (fun _ h => h) (hpush _ _ _) _ _ h4⟩
          · unfold Rel
            rw [hμ']
            exact ⟨by simpa using hcap, _, rfl, fun _ => by simp⟩
    obtain ⟨y', w', q, hrun, hos, htape, hout, hsz, hblk, hqb, hfin⟩ := core
    -- the old name is given up first
    have g1 : Good E { st with H := st.H.set o .dead } a w S μ := g.kill hol
    have hlen : (st.H.set o AObj.dead).length = st.H.length := by simp
    have hqq : ∀ c, q.b = some c → ¬ S c ∧ c < w'.heap.size ∧ (∀ k, ¬ Own μ (st.H.set o .dead) k c) ∧ (E.w.heap.size ≤ c ∨ Blk E.μ E.H c) := by
      intro c hc
      obtain ⟨h1, h2⟩ := hqb c hc
      rcases h2 with h2 | h2
      · refine ⟨fun hS => by have := g.hok.inS c hS; omega, h1, fun k hk => ?_, .inl (Nat.le_trans g.kept.size h2)⟩
        have := (g.hok.owns k c (own_dead hk).2).2
        omega
      · exact ⟨(g.hok.own o c hlive h2).1, h1, fun k hk => g.hok.seps k o c (own_dead hk).1 (own_dead hk).2 (.of hlive h2), g.mine o c hlive h2⟩
    obtain ⟨hO, hR⟩ := hfin st.H.length (upd μ st.H.length q) (upd_same _ _ _)
    have g2 := g1.place (placed_append (st.H.set o .dead) (.arr (n + m) (P.cellsOf e) (joinC n (fun i j => ac (i + lo) j) b))) q
      (.inr ⟨by rw [hlen]; exact g.len, by rw [hlen]; exact g.ids _ (Nat.le_refl _), fun k cs _ hk => g1.hok.ids k cs hk _ (Nat.le_refl _)⟩) hos htape hout hsz hblk
      (fun c hc => ⟨(hqq c hc).1, (hqq c hc).2.1, fun k _ => (hqq c hc).2.2.1 k, (hqq c hc).2.2.2⟩) (by rw [hlen]; exact hO) (fun cs hcs => by cases hcs)
    rw [hlen] at g2
    exact ⟨y', w', _, _, S, _, hrun, hK, g2, hR, fun k hk => ment_osl (by simp at hk; omega) _ _⟩
  · exact h.elim

end
end Cg

/-
  One operation of the machine, held against the model's. No condition.
-/
namespace Cg
open Go

section
variable {P : Program} {S : Nat → Prop} {μ : Nat → OI} {w : World} {E : Ent} {st : St} {a : Act} {K : AV → List AObj → Prop}

theorem ment_ptr {k o : Nat} (h : o < k) (off : Nat) : ment k (.ptr o off) = false := by
  simp only [ment]
  cases hb : Nat.beq k o
  · rfl
  · have := Nat.eq_of_beq_eq_true hb; omega

theorem cells_one {cs : List AV} {ys : List Value} (h : RelL S μ w cs ys) (ho : cs.all oneA = true) : ∀ y ∈ ys, isOne y = true := fun y hy => by
  obtain ⟨i, hi⟩ := List.getElem?_of_mem hy
  have hil := (List.getElem?_eq_some_iff.1 hi).1
  rw [RelL_length h] at hil
  obtain ⟨y', h1, h2⟩ := RelL_get h (List.getElem?_eq_getElem hil)
  rw [hi] at h1; cases h1
  exact Rel_one (List.all_eq_true.1 ho _ (List.getElem_mem hil)) h2

/-- A new variable of the call's own. -/
theorem new_var (g : Good E st a w S μ) {vs : List AV} {y : Value} (T : TypeId) (hr : RelL S μ w vs y.cells.toList) (ho : vs.all oneA = true) (hm : ∀ k, st.H.length ≤ k → mentL k vs = false)
    (hK : K (.ptr st.H.length 0) (st.H ++ [.var vs])) : ERun E st a K (.ok (.pointer (some ⟨w.heap.size, 0, none⟩)) { w with heap := w.heap.push (.cells y.cells T) }) := by
  have hext := Ext.push w (.cells y.cells T) w.drawn
  refine ⟨_, _, _, _, S, _, rfl, hK, g.made y.cells T w.drawn (.var vs) ⟨some w.heap.size, 0, 0, 0, fun _ _ => none⟩ (fun b hb => (Option.some.inj hb).symm) ?_ (fun cs hcs => by cases hcs; exact hm), ?_, fun k hk => ment_ptr (by simp at hk; omega) _⟩
  · refine ⟨w.heap.size, y.cells, T, by rw [upd_same], heap_new _ _ _, RelL_mono (fun _ h => h) (fun b hb => hext.block b (g.hok.inS b hb)) _ _ (fun k hk => upd_other _ _ fun e => ?_) hr, cells_one hr ho⟩
    rw [e, hm _ (Nat.le_refl _)] at hk; cases hk
  · exact ⟨w.heap.size, by rw [upd_same], rfl⟩

theorem alloc_sound (g : Good E st a w S μ) {t : TypeId} {z : List AV} (hz : zeroCells P t = some z) (ho : z.all oneA = true) (hK : K (.ptr st.H.length 0) (st.H ++ [.var z])) :
    ERun E st a K ((Instr.alloc t true (.tuple #[])).run P w) := by
  obtain ⟨i, v, hi, hv, hc⟩ := zeroCells_some hz
  have hrun : (Instr.alloc t true (.tuple #[])).run P w = .ok (.pointer (some ⟨w.heap.size, 0, none⟩)) { w with heap := w.heap.push (.cells v.cells t) } := by
    simp [Instr.alloc, zeroValue, typeInfo, hi, hv, newVar, newRow]
  rw [hrun]
  exact new_var g t (Rel_cells hc (Rel_ofConst S μ w v)) ho (fun k _ => zero_ment hz) hK

theorem box_sound (g : Good E st a w S μ) {t : TypeId} {x : Operand} {vs : List AV} (hc : cellsA (Cg.ev st.fr x) = some vs) (ho : vs.all oneA = true) (hK : K (.ptr st.H.length 0) (st.H ++ [.var vs])) :
    ERun E st a K ((Instr.box t (a.eval x)).run P w) := by
  have hrun : (Instr.box t (a.eval x)).run P w = .ok (.pointer (some ⟨w.heap.size, 0, none⟩)) { w with heap := w.heap.push (.cells (a.eval x).cells t) } := by simp [Instr.box, newVar, newRow]
  rw [hrun]
  exact new_var g t (Rel_cells hc (g.ev x)) ho (fun k hk => ment_cells hc (g.ment x k hk)) hK

/-- 'append(nothing, make([]T, n)...)'. -/
theorem run_growMake {t t' e : TypeId} {i : TypeInfo} {z : Value} (ty : TypeId) (ht : P.underlying t = some (.slice e)) (hk : ∃ k, P.underlying t' = some (.int k)) (hi : P.info? e = some i) (hz : i.zero = some z) (hb : 0 < i.bytes) (hs : 0 < i.size)
    {A : Option Addr} {m : Nat} (hm : 0 < m) (hbytes : m * i.bytes ≤ 140737488355328) :
    (Builtin.append_ #[t, t'] ty #[.slice A 0 0, .int .i64 m]).run P w =
      .ok (.slice (some ⟨w.heap.size, 0, none⟩) m (grownCap w m 0 e))
        { w with heap := w.heap.push (.cells (#[] ++ Builtin.zeroCells z.cells m ++ Builtin.zeroCells z.cells (grownCap w m 0 e - m)) e), drawn := w.drawn + 1 } := by
  obtain ⟨k, hk⟩ := hk
  have hb0 : i.bytes ≠ 0 := by omega
  have hmb : m ≤ m * i.bytes := Nat.le_mul_of_pos_right _ hb
  have hw : IntKind.i64.wrap (m : Int) = m := wrap_small (by omega) (by omega)
  have h48 : Builtin.nextslicecap (0 + m) 0 * i.bytes ≤ 281474976710656 := growslice_fits (by omega) (by rw [Nat.zero_add]; exact hbytes)
  rw [Nat.zero_add] at h48
  have h48' : ¬ (281474976710656 < Builtin.nextslicecap m 0 * i.bytes) := by omega
  have h1 : ¬ ((m : Int) < 0) := by omega
  have h2 : ¬ ((281474976710656 : Int) < (m : Int) * (i.bytes : Int)) := by
    rw [← Int.natCast_mul]
    generalize m * i.bytes = q at hbytes
    omega
  have h3 : ¬ ((9223372036854775807 : Int) < (m : Int)) := by omega
  have h4 : ¬ (m = 0) := by omega
  have h5 : ¬ (m * i.size = 0) := by
    have := Nat.mul_pos hm hs; omega
  have hfo : (Builtin.firstCells i.size 0 (.slice A 0 0)).run P w.drew = .ok #[] w.drew := by
    cases A with
    | none => exact run_firstCells_none w.drew i.size 0 0 0
    | some b => exact run_firstCells_some (P := P) w.drew i.size 0 b 0 0 [] (by simp) (fun j v h => by simp at h)
  simp [Builtin.append_, run_underlying ht, run_underlying hk, Go.sizeOf, typeInfo, zeroValue, hi, hz, asInt, asIntOf, hw, h1, h2, h4, h5, hb0, h48', Question.forced, hfo, newRow, grownCap, IntKind.max]
  have h6 : ¬ ((if IntKind.i64.signed = true then (2 : Int) ^ (IntKind.i64.bits - 1) - 1 else 2 ^ IntKind.i64.bits - 1) < (m : Int)) := h3
  rw [if_neg h6]
  rfl

theorem make_sound (g : Good E st a w S μ) {t e : TypeId} {z : List AV} {kl kc : IntKind} {l c : Int} (he : elemOf P t = some e) (hz : zeroCells P e = some z) (hzl : z.length = P.cellsOf e) (_ : 0 < z.length)
    (himm : z.all isImm = true) (ho : z.all oneA = true) (h0 : 0 ≤ l) (hlc : l ≤ c) (hb : (P.bytesOf e : Int) * c ≤ 140737488355328) (hc : c ≤ 140737488355328)
    (hK : K (.osl st.H.length 0 l.toNat) (st.H ++ [.arr l.toNat (P.cellsOf e) (fun _ j => z.getD j .any)])) :
    ERun E st a K ((Instr.makeSlice t (.int kl l) (.int kc c)).run P w) := by
  have hu := elemOf_some he
  obtain ⟨i, v, hi, hv, hcz⟩ := zeroCells_some hz
  have hsize : i.size = P.cellsOf e := by simp [Program.cellsOf, hi]
  have hbytes : i.bytes = P.bytesOf e := by simp [Program.bytesOf, hi]
  have hzr := Rel_cells hcz (Rel_ofConst S μ w v)
  have hvl := RelL_length hzr
  simp only [Array.length_toList] at hvl
  rw [run_make w t e i v hu hi hv kl kc l c h0 hlc (by rw [hbytes]; omega) (by omega)]
  have hext := Ext.push w (.cells (madeCells v.cells (c.toNat * i.size)) e) w.drawn
  have hlc' : l.toNat ≤ c.toNat := by omega
  refine ⟨_, _, _, _, S, _, rfl, hK, g.made _ e w.drawn _ ⟨some w.heap.size, 0, c.toNat, P.cellsOf e, fun _ _ => none⟩ (fun b hb => (Option.some.inj hb).symm) ?_ (fun cs hcs => by cases hcs), ?_, fun k hk => ment_osl (by simp at hk; omega) _ _⟩
  · refine ⟨by rw [upd_same], ?_⟩
    rw [upd_same]
    refine ⟨hlc', _, e, heap_new _ _ _, by rw [size_madeCells, hsize]; simp, fun k hk j hj => ?_⟩
    have hzj : z[j]? = some z[j] := List.getElem?_eq_getElem (by omega)
    obtain ⟨x, h1, h2⟩ := RelL_get hzr hzj
    refine ⟨x, ?_, ?_⟩
    · have hlt : k * P.cellsOf e + j < c.toNat * P.cellsOf e := by
        have : k * P.cellsOf e + P.cellsOf e ≤ c.toNat * P.cellsOf e := by rw [← Nat.succ_mul]; exact Nat.mul_le_mul_right _ (by omega)
        omega
      have hmod : (k * P.cellsOf e + j) % v.cells.size = j := by rw [hvl, hzl, Nat.mul_comm, Nat.mul_add_mod, Nat.mod_eq_of_lt (by omega)]
      have hjs : j < v.cells.size := by omega
      simp only [madeCells, Nat.zero_add, hsize]
      rw [Array.getElem?_map, Array.getElem?_range, if_pos hlt]
      simp only [Option.map_some, hmod]
      rw [getElem!_pos v.cells j hjs, ← h1, Array.getElem?_toList, Array.getElem?_eq_getElem hjs]
    · have e1 : z.getD j AV.any = z[j] := by rw [List.getD_eq_getElem?_getD, hzj]; rfl
      show RelI S _ (z.getD j AV.any) x
      rw [e1]
      exact RelI_mono (fun _ h => h) (fun b hb => hext.block b (g.hok.inS b hb)) _ _ (RelI_of_Rel (List.all_eq_true.1 himm _ (List.getElem_mem _)) (Rel_one (List.all_eq_true.1 ho _ (List.getElem_mem _)) h2) h2)
  · unfold Rel
    rw [upd_same]
    exact ⟨by simpa using hlc', ⟨w.heap.size, 0, none⟩, by simp, fun _ => by simp⟩

theorem zero_row {S : Nat → Prop} {z : Array Value} {zs : List AV} {esz n k : Nat} (hz : z.size = esz) (hr : ∀ j, j < esz → ∃ x, z[j]? = some x ∧ RelI S w (zs.getD j .any) x) (hk : n ≤ k) :
    0 + k * esz ≤ (#[] ++ Builtin.zeroCells z n ++ Builtin.zeroCells z (k - n)).size ∧ ∀ i, i < n → ∀ j, j < esz → ∃ x, (#[] ++ Builtin.zeroCells z n ++ Builtin.zeroCells z (k - n))[0 + i * esz + j]? = some x ∧ RelI S w (zs.getD j .any) x := by
  constructor
  · simp only [Array.size_append, size_zeroCells, hz, Array.size_empty, Nat.zero_add, ← Nat.add_mul]
    refine Nat.mul_le_mul_right _ ?_
    omega
  · intro i hi j hj
    obtain ⟨x, h1, h2⟩ := hr j hj
    refine ⟨x, ?_, h2⟩
    have h3 : i * esz + esz ≤ n * esz := by rw [← Nat.succ_mul]; exact Nat.mul_le_mul_right _ hi
    rw [Array.getElem?_append_left (by simp [size_zeroCells, hz]; omega), Array.empty_append]
    have hlt : 0 + i * esz + j < n * z.size := by rw [hz]; omega
    unfold Builtin.zeroCells
    rw [Array.getElem?_map, Array.getElem?_range, if_pos hlt]
    simp only [Option.map_some, Nat.zero_add, hz]
    rw [Nat.mul_comm, Nat.mul_add_mod, Nat.mod_eq_of_lt hj, ← h1, Array.getElem?_eq_getElem (by omega), getElem!_pos z j (by omega)]

theorem appmake_sound (g : Good E st a w S μ) {t t' e : TypeId} {z : List AV} (ty : TypeId) (he : elemOf P t = some e) (hz : zeroCells P e = some z) (hk : isIntT P t' = true) (hzl : z.length = P.cellsOf e) (hpos : 0 < z.length) (hbp : 0 < P.bytesOf e)
    (himm : z.all isImm = true) (ho : z.all oneA = true) {dst k : AV} {x y : Value} (hd : Rel S μ w dst y) (hs : Rel S μ w k x) (h : aAppMake P e z dst k st.H K) : ERun E st a K ((Builtin.append_ #[t, t'] ty #[y, x]).run P w) := by
  have hu := elemOf_some he
  obtain ⟨i, zv, hi, hzv, hzc⟩ := zeroCells_some hz
  have hsize : i.size = P.cellsOf e := by simp [Program.cellsOf, hi]
  have hbytes : i.bytes = P.bytesOf e := by simp [Program.bytesOf, hi]
  have hzr := Rel_cells hzc (Rel_ofConst S μ w zv)
  have hvl := RelL_length hzr
  simp only [Array.length_toList] at hvl
  have hk' : ∃ k, P.underlying t' = some (.int k) := by
    unfold isIntT at hk
    split at hk
    · rename_i k hk'; exact ⟨k, hk'⟩
    · cases hk
  unfold aAppMake at h
  split at h
  case h_2 => exact h.elim
  rename_i esz ac n
  obtain ⟨h0, hbd, hK⟩ := h
  obtain ⟨A, rfl, _⟩ := hd
  cases hs
  obtain ⟨m, rfl⟩ : ∃ m : Nat, n = m := ⟨n.toNat, by omega⟩
  have hm : 0 < m := by omega
  have hbd' : m * i.bytes ≤ 140737488355328 := by
    rw [hbytes]
    have : ((m * P.bytesOf e : Nat) : Int) ≤ 70368744177664 := by rw [Int.natCast_mul]; exact hbd
    omega
  simp only [Int.toNat_natCast] at hK
  have hrun := run_growMake (w := w) ty hu hk' hi hzv (by omega) (by omega) (A := A) hm hbd'
  have hcap := grownCap_ge w m 0 e
  have hext := Ext.push w (.cells (#[] ++ Builtin.zeroCells zv.cells m ++ Builtin.zeroCells zv.cells (grownCap w m 0 e - m)) e) (w.drawn + 1)
  obtain ⟨h1, h2⟩ := zero_row (w := w) (S := S) (z := zv.cells) (zs := z) (esz := P.cellsOf e) (n := m) (k := grownCap w m 0 e) (by omega) (fun j hj => by
    have hzj : z[j]? = some z[j] := List.getElem?_eq_getElem (by omega)
    obtain ⟨x, h3, h4⟩ := RelL_get hzr hzj
    refine ⟨x, by rw [← Array.getElem?_toList]; exact h3, ?_⟩
    have e1 : z.getD j AV.any = z[j] := by rw [List.getD_eq_getElem?_getD, hzj]; rfl
    rw [e1]
    exact RelI_of_Rel (List.all_eq_true.1 himm _ (List.getElem_mem _)) (Rel_one (List.all_eq_true.1 ho _ (List.getElem_mem _)) h4) h4) hcap
  refine ⟨_, _, _, _, S, _, hrun, hK, g.made _ _ _ _ ⟨some w.heap.size, 0, grownCap w m 0 e, P.cellsOf e, fun _ _ => none⟩ (fun b hb => (Option.some.inj hb).symm) ?_ (fun cs hcs => by cases hcs), ?_, fun k hk => ment_osl (by simp at hk; omega) _ _⟩
  · refine ⟨by rw [upd_same], ?_⟩
    rw [upd_same]
    refine ⟨hcap, _, _, heap_new _ _ _, h1, fun k hk j hj => ?_⟩
    obtain ⟨x, h3, h4⟩ := h2 k hk j hj
    exact ⟨x, h3, RelI_mono (fun _ h => h) (fun b hb => hext.block b (g.hok.inS b hb)) _ _ h4⟩
  · unfold Rel
    rw [upd_same]
    exact ⟨by simpa using hcap, _, rfl, fun _ => by simp⟩

/-- A slice held against nil. -/
theorem nil_sound {t e : TypeId} {x : AV} {n : Nat} {y : Value} (hu : P.underlying t = some (.slice e)) (hn : lenA x = some n) (hx : Rel S μ w x y) (ox oy : Operand) :
    ∃ b : Bool, (b = true → n = 0) ∧ ((do eqGuard .eql t ox oy y (.slice none 0 0); binOp .eql t y (.slice none 0 0) : Sem Value)).run P w = .ok (.bool b) w ∧
      ((do eqGuard .neq t ox oy y (.slice none 0 0); binOp .neq t y (.slice none 0 0) : Sem Value)).run P w = .ok (.bool !b) w := by
  have hy : ∃ a cap, y = .slice a n cap ∧ (a = none → n = 0) := by
    unfold lenA at hn
    split at hn
    · cases hn
      obtain ⟨a, cap, rfl, _, hr⟩ := hx
      exact ⟨a, cap, rfl, fun h => by subst h; rcases hr with h | ⟨_, _, h, _⟩ <;> first | exact h | cases h⟩
    · cases hn
      obtain ⟨a, rfl, hr⟩ := hx
      exact ⟨a, _, rfl, fun h => by subst h; rcases hr with h | ⟨_, _, h, _⟩ <;> first | exact h | cases h⟩
    · cases hn
      unfold Rel at hx
      split at hx
      · obtain ⟨_, h0, a, rfl⟩ := hx; exact ⟨a, 0, by rw [h0], fun _ => h0⟩
      · obtain ⟨_, a, rfl, _⟩ := hx; exact ⟨_, _, rfl, fun h => by cases h⟩
    · cases hn
  obtain ⟨a, cap, rfl, ha⟩ := hy
  have he : (Op.equal t (.slice a n cap) (.slice none 0 0)).run P w = .ok a.isNone w := by
    unfold Op.equal
    have : Op.maxDepth = 9999 + 1 := rfl
    rw [this, Op.equalIn]
    simp only [Sem.run_bind, run_underlying hu, Result.andThen_ok]
    cases a <;> rfl
  refine ⟨a.isNone, fun h => ha (by simpa using h), ?_, ?_⟩
  · simp only [Sem.run_bind, run_guard (show ∀ cs, Value.slice a n cap ≠ .agg cs by simp) (by simp), Result.andThen_ok]
    simp only [binOp, Sem.run_bind, he, Result.andThen_ok, Sem.run_pure]
  · simp only [Sem.run_bind, run_guard (show ∀ cs, Value.slice a n cap ≠ .agg cs by simp) (by simp), Result.andThen_ok]
    simp only [binOp, Sem.run_bind, he, Result.andThen_ok, Sem.run_pure]

theorem isNilC_iff {x : Operand} (h : isNilC x = true) : x = .const (.slice none 0 0) := by
  unfold isNilC at h
  split at h
  · rfl
  · cases h

/-- A row of cells where some have been turned. -/
theorem put_cells {C : Array Value} {k : Nat} {ys : List Value} (hfit : k + ys.length ≤ C.size) (m : Nat) :
    (C.toList.take k ++ ys ++ C.toList.drop (k + ys.length)).toArray.size = C.size ∧
    (C.toList.take k ++ ys ++ C.toList.drop (k + ys.length)).toArray[m]? = if k ≤ m ∧ m < k + ys.length then ys[m - k]? else C[m]? := by
  have htl : (C.toList.take k).length = k := by simp only [List.length_take, Array.length_toList]; omega
  constructor
  · simp only [List.size_toArray, List.length_append, List.length_take, List.length_drop, Array.length_toList]; omega
  · simp only [List.getElem?_toArray]
    by_cases h1 : m < k
    · rw [if_neg (by omega), List.append_assoc, List.getElem?_append_left (by omega), List.getElem?_take, if_pos h1, Array.getElem?_toList]
    · by_cases h2 : m < k + ys.length
      · rw [if_pos (by omega), List.append_assoc, List.getElem?_append_right (by omega), htl, List.getElem?_append_left (by omega)]
      · rw [if_neg (by omega), List.getElem?_append_right (by simp; omega), List.getElem?_drop, Array.getElem?_toList]
        congr 1; simp; omega

theorem store_sound (g : Good E st a w S μ) {t : TypeId} {av : AV} {y z : Value} {vs : List AV} {K : List AObj → Prop} (hr : Rel S μ w av y) (hv : RelL S μ w vs z.cells.toList) (hm : ∀ k, st.H.length ≤ k → mentL k vs = false)
    (hl : vs.length = P.cellsOf t) (hpos : P.cellsOf t ≠ 0) (h : aStore av vs st.H K) : ∃ w' H' S' μ', (Instr.storeAt t y z).run P w = .ok () w' ∧ K H' ∧ Good E { st with H := H' } a w' S' μ' := by
  have hzl := RelL_length hv
  simp only [Array.length_toList] at hzl
  have run : ∀ (blk off : Nat) (C : Array Value) (T : TypeId), w.heap[blk]? = some (.cells C T (0, 0)) → off + z.cells.toList.length ≤ C.size → (∀ u ∈ z.cells.toList, isOne u = true) →
      (Instr.storeAt t (.pointer (some ⟨blk, off, none⟩)) z).run P w = .ok () (w.setRow blk (C.toList.take off ++ z.cells.toList ++ C.toList.drop (off + z.cells.toList.length)).toArray) := fun blk off C T hC hfit ho => by
    have hst := run_storeCells_at P blk off T z.cells.toList 0 C w hC (by simpa using hfit) (fun u hu => oneCell_of (ho u hu))
    simp only [Nat.add_zero] at hst
    have hne : ¬ (z.cells.size ≠ P.cellsOf t) := by omega
    simp only [Instr.storeAt, Instr.sureAddr, storeVar, Sem.run_bind, Sem.run_pure, Result.andThen_ok, run_sizeOf hpos]
    rw [if_neg hne]
    exact hst
  unfold aStore at h
  split at h
  · rename_i o off
    split at h
    · rename_i cs hl'
      have hH := H_getD hl' (by simp)
      cases hc : Nat.ble (off + vs.length) cs.length && vs.all oneA
      · simp [hc] at h
      simp only [hc, cond_true] at h
      simp only [Bool.and_eq_true] at hc
      have hfit := ble_iff.1 hc.1
      have hone := cells_one hv hc.2
      obtain ⟨b, hb, rfl⟩ := hr
      obtain ⟨b', C, T, h1, h2, h3, h4⟩ := g.hok.obj _ _ hH
      rw [hb] at h1; cases h1
      have hCl := RelL_length h3
      simp only [Array.length_toList] at hCl
      have hlive : LiveAt st.H o := LiveAt_iff.2 (.inl ⟨_, hH⟩)
      have hol : o < st.H.length := (List.getElem?_eq_some_iff.1 hH).1
      have hfit' : off + z.cells.toList.length ≤ C.size := by simp only [Array.length_toList]; omega
      have hpc := put_cells (C := C) (k := off) (ys := z.cells.toList) hfit'
      have hSb : ∀ c, S c → (w.setRow b (C.toList.take off ++ z.cells.toList ++ C.toList.drop (off + z.cells.toList.length)).toArray).heap[c]? = w.heap[c]? := fun c hc => setRow_other w b c _ fun e => (g.hok.own o b hlive hb).1 (e ▸ hc)
      have hfa := fillA_spec vs cs off
      have g' := g.place (placed_set hol (.var (fillA cs off vs))) (μ o) (.inl rfl) (w' := w.setRow b (C.toList.take off ++ z.cells.toList ++ C.toList.drop (off + z.cells.toList.length)).toArray) rfl rfl rfl (by rw [setRow_size]; exact Nat.le_refl _)
        (fun c _ hne => setRow_other w b c _ fun e => hne (by subst e; exact hb)) (fun c hc => ⟨(g.hok.own o c hlive hc).1, by rw [setRow_size]; exact (g.hok.own o c hlive hc).2, fun k hk hkc => g.hok.seps k o c hk hkc (.of hlive hc), g.mine o c hlive hc⟩)
        (by
          rw [upd_id]
          refine ⟨b, _, T, hb, setRow_heap w b C _ T (0, 0) h2, RelL_of (by rw [hfa.1, Array.length_toList, (hpc 0).1]; exact hCl) fun m c u hc' hu => ?_, fun u hu => ?_⟩
          · rw [Array.getElem?_toList, (hpc m).2] at hu
            rw [hfa.2 m] at hc'
            simp only [Array.length_toList] at hu
            by_cases hm' : off ≤ m ∧ m < off + vs.length ∧ m < cs.length
            · rw [if_pos hm'] at hc'
              rw [if_pos (by omega)] at hu
              obtain ⟨u', h5, h6⟩ := RelL_get hv hc'
              rw [hu] at h5; cases h5
              exact Rel_mono (fun _ h => h) hSb _ _ (fun _ _ => rfl) h6
            · rw [if_neg hm'] at hc'
              rw [if_neg (by have := (List.getElem?_eq_some_iff.1 hc').1; omega)] at hu
              obtain ⟨u', h5, h6⟩ := RelL_get h3 hc'
              rw [Array.getElem?_toList, hu] at h5; cases h5
              exact Rel_mono (fun _ h => h) hSb _ _ (fun _ _ => rfl) h6
          · obtain ⟨m, hm'⟩ := List.getElem?_of_mem hu
            rw [Array.getElem?_toList, (hpc m).2] at hm'
            split at hm'
            · exact hone u (List.mem_of_getElem? hm')
            · exact h4 u (by rw [← Array.getElem?_toList] at hm'; exact List.mem_of_getElem? hm'))
        (fun cs' hcs' k hk => by
          cases hcs'
          refine mentL_of fun c hc' => ?_
          obtain ⟨m, hm'⟩ := List.getElem?_of_mem hc'
          rw [hfa.2 m] at hm'
          have hk' : st.H.length ≤ k := by simpa using hk
          split at hm'
          · exact mentL_get (hm k hk') hm'
          · exact mentL_get (g.hok.ids o cs hH k hk') hm')
      rw [upd_id] at g'
      exact ⟨_, _, S, μ, run b off C T h2 hfit' hone, h, g'⟩
    · exact h.elim
  · rename_i o i off
    split at h
    · rename_i m esz cell hl'
      have hH := H_getD hl' (by simp)
      cases hc : Nat.ble (off + vs.length) esz && vs.all isImm && vs.all oneA
      · simp [hc] at h
      simp only [hc, cond_true] at h
      obtain ⟨him, h⟩ := h
      simp only [Bool.and_eq_true] at hc
      have hfit := ble_iff.1 hc.1.1
      have hone := cells_one hv hc.2
      obtain ⟨b, hb, hicap, rfl⟩ := hr
      obtain ⟨hesz, hO⟩ := g.hok.obj _ _ hH
      rw [hb] at hO
      obtain ⟨hmc, C, T, hC, hfitC, hx⟩ := hO
      have hlive : LiveAt st.H o := LiveAt_iff.2 (.inr ⟨_, _, _, .inl hH⟩)
      have hol : o < st.H.length := (List.getElem?_eq_some_iff.1 hH).1
      have hmul : i * esz + esz ≤ (μ o).cap * esz := by rw [← Nat.succ_mul]; exact Nat.mul_le_mul_right _ hicap
      rw [hesz]
      have hfit' : (μ o).base + i * esz + off + z.cells.toList.length ≤ C.size := by simp only [Array.length_toList]; omega
      have hpc := put_cells (C := C) (k := (μ o).base + i * esz + off) (ys := z.cells.toList) hfit'
      have hSb : ∀ c, S c → (w.setRow b (C.toList.take ((μ o).base + i * esz + off) ++ z.cells.toList ++ C.toList.drop ((μ o).base + i * esz + off + z.cells.toList.length)).toArray).heap[c]? = w.heap[c]? := fun c hc => setRow_other w b c _ fun e => (g.hok.own o b hlive hb).1 (e ▸ hc)
      have g' := g.place (placed_set hol (.arr m esz (storeC cell i off vs))) (μ o) (.inl rfl) (w' := w.setRow b (C.toList.take ((μ o).base + i * esz + off) ++ z.cells.toList ++ C.toList.drop ((μ o).base + i * esz + off + z.cells.toList.length)).toArray) rfl rfl rfl (by rw [setRow_size]; exact Nat.le_refl _)
        (fun c _ hne => setRow_other w b c _ fun e => hne (by subst e; exact hb)) (fun c hc => ⟨(g.hok.own o c hlive hc).1, by rw [setRow_size]; exact (g.hok.own o c hlive hc).2, fun k hk hkc => g.hok.seps k o c hk hkc (.of hlive hc), g.mine o c hlive hc⟩)
        (by
          rw [upd_id]
          refine ⟨hesz, ?_⟩
          rw [hb]
          refine ⟨hmc, _, T, setRow_heap w b C _ T (0, 0) hC, by rw [(hpc 0).1]; exact hfitC, fun i' hi' j' hj' => ?_⟩
          obtain ⟨x, h5, h6⟩ := hx i' hi' j' hj'
          rw [(hpc _).2]
          simp only [Array.length_toList]
          by_cases hin : i' = i ∧ off ≤ j' ∧ j' < off + vs.length
          · obtain ⟨rfl, hj1, hj2⟩ := hin
            have hvj : vs[j' - off]? = some vs[j' - off] := List.getElem?_eq_getElem (by omega)
            obtain ⟨u, h7, h8⟩ := RelL_get hv hvj
            refine ⟨u, ?_, ?_⟩
            · rw [if_pos (by omega), ← h7]; congr 1; omega
            · have e1 : storeC cell i' off vs i' j' = vs[j' - off] := by
                unfold storeC
                rw [beq_iff.2 rfl, ble_iff.2 hj1, blt_iff.2 hj2]
                simp only [Bool.and_self, cond_true]
                rw [List.getD_eq_getElem?_getD, hvj]; rfl
              rw [e1]
              exact RelI_mono (fun _ h => h) hSb _ _ (RelI_of_Rel (List.all_eq_true.1 hc.1.2 _ (List.getElem_mem _)) (hone u (List.mem_of_getElem? h7)) h8)
          · refine ⟨x, ?_, ?_⟩
            · rw [if_neg, h5]
              intro hcon
              apply hin
              have hii : i' = i := by
                rcases Nat.lt_trichotomy i' i with h9 | h9 | h9
                · have : i' * esz + esz ≤ i * esz := by rw [← Nat.succ_mul]; exact Nat.mul_le_mul_right _ h9
                  omega
                · exact h9
                · have : i * esz + esz ≤ i' * esz := by rw [← Nat.succ_mul]; exact Nat.mul_le_mul_right _ h9
                  omega
              subst hii
              exact ⟨rfl, by omega, by omega⟩
            · have e1 : storeC cell i off vs i' j' = cell i' j' := by
                unfold storeC
                cases hb' : Nat.beq i' i && Nat.ble off j' && Nat.blt j' (off + vs.length)
                · rfl
                · simp only [Bool.and_eq_true] at hb'
                  exact absurd ⟨beq_iff.1 hb'.1.1, ble_iff.1 hb'.1.2, blt_iff.1 hb'.2⟩ hin
              rw [e1]
              exact RelI_mono (fun _ h => h) hSb _ _ h6)
        (fun cs' hcs' => by cases hcs')
      rw [upd_id] at g'
      exact ⟨_, _, S, μ, run b _ C T hC hfit' hone, h, g'⟩
    · exact h.elim
  · exact h.elim

end
end Cg

/-
  Objects that own inner slices: they are given up for good, an inner slice grows, a row with a slice of the call's own is laid behind one. No condition.
-/
namespace Cg
open Go

section
variable {P : Program} {S : Nat → Prop} {μ : Nat → OI} {w : World} {E : Ent} {st : St} {a : Act} {K : AV → List AObj → Prop}

/-- What an object owns within. -/
def InB (q : OI) (b : Nat) : Prop := ∃ i j v, q.inn i j = some v ∧ InT v b

theorem own_set {H : List AObj} {o k b : Nat} {x : AObj} (h : Own μ (H.set o x) k b) : (k = o ∧ HasB x (μ o) b) ∨ (k ≠ o ∧ Own μ H k b) := by
  obtain ⟨y, h1, h2⟩ := h
  rw [List.getElem?_set] at h1
  by_cases hk : o = k
  · subst hk
    rw [if_pos rfl] at h1
    split at h1
    · cases h1; exact .inl ⟨rfl, h2⟩
    · cases h1
  · rw [if_neg hk] at h1
    exact .inr ⟨Ne.symm hk, y, h1, h2⟩

/-- What an object owns within is from now on for good. -/
theorem Good.thaw (g : Good E st a w S μ) {o n e : Nat} {c : Nat → Nat → AV} (hl : st.H[o]? = some (.xarr n e c)) :
    Good E { st with H := st.H.set o (.arr n e c) } a w (fun b => S b ∨ InB (μ o) b) μ := by
  have hol : o < st.H.length := (List.getElem?_eq_some_iff.1 hl).1
  have hin : ∀ b, InB (μ o) b → Own μ st.H o b := fun b ⟨i, j, v, hv, hb⟩ => ⟨_, hl, .inr ⟨i, j, v, hv, hb⟩⟩
  obtain ⟨he, hi, ho⟩ := g.hok.obj _ _ hl
  have back : ∀ k b, Own μ (st.H.set o (.arr n e c)) k b → Own μ st.H k b := fun k b h => by
    rcases own_set h with ⟨rfl, h1⟩ | ⟨_, h1⟩
    · exact ⟨_, hl, .inl h1⟩
    · exact h1
  exact {
    defers := g.defers
    fr := RelL_mono (fun _ h => .inl h) (fun _ _ => rfl) _ _ (fun _ _ => rfl) g.fr
    ids := fun k hk => g.ids k (by simpa using hk)
    hok := {
      obj := fun k x hk => by
        rw [List.getElem?_set] at hk
        by_cases hko : o = k
        · subst hko
          rw [if_pos rfl, if_pos hol] at hk
          cases hk
          refine ⟨he, ?_⟩
          cases hq : (μ o).b with
          | none => rw [hq] at ho; exact ho
          | some b =>
            rw [hq] at ho
            obtain ⟨h3, C, T, h4, h5, h6⟩ := ho
            refine ⟨h3, C, T, h4, h5, fun i hi' j hj => ?_⟩
            obtain ⟨x, h7, h8⟩ := h6 i hi' j hj
            exact ⟨x, h7, RelX_RelI (fun _ h => .inl h) (fun v hv c hc => .inr ⟨i, j, v, hv, hc⟩) h8⟩
        · rw [if_neg hko] at hk
          exact ObjRel_mono (fun _ h => .inl h) (fun _ _ => rfl) rfl (fun _ _ _ _ => rfl) (fun _ _ => rfl) (g.hok.obj k x hk)
      ids := fun k cs hk j hj => by
        rw [List.getElem?_set] at hk
        by_cases hko : o = k
        · subst hko
          rw [if_pos rfl, if_pos hol] at hk
          cases hk
        · rw [if_neg hko] at hk
          exact g.hok.ids k cs hk j (by simpa using hj)
      seps := fun k k' b hne h1 h2 => g.hok.seps k k' b hne (back k b h1) (back k' b h2)
      owns := fun k b h => by
        obtain ⟨h1, h2⟩ := g.hok.owns k b (back k b h)
        refine ⟨fun hs => ?_, h2⟩
        rcases hs with hs | hs
        · exact h1 hs
        · rcases own_set h with ⟨rfl, h3⟩ | ⟨h3, h4⟩
          · obtain ⟨i, j, v, hv, hb⟩ := hs
            exact (hi i j v hv).1 b hb h3
          · exact g.hok.seps k o b h3 h4 (hin b hs)
      inS := fun b hb => by
        rcases hb with hb | hb
        · exact g.hok.inS b hb
        · exact (g.hok.owns o b (hin b hb)).2
      gl := g.hok.gl.mono (fun _ h => .inl h) fun _ _ => rfl }
    sub := fun b hb => .inl (g.sub b hb)
    new := fun b hb => by
      rcases hb with hb | hb
      · exact g.new b hb
      · exact .inr (g.mines o b (hin b hb))
    mu := g.mu
    len := by simpa using g.len
    kept := g.kept
    mines := fun k b h => g.mines k b (back k b h) }

/-- A slice of the call's own stays as it is from now on. -/
theorem Good.frz (g : Good E st a w S μ) {o n e : Nat} {c : Nat → Nat → AV} (hl : st.H[o]? = some (.arr n e c)) :
    Good E { st with H := st.H.set o (.fro n e c) } a w (fun b => S b ∨ (μ o).b = some b) μ := by
  have hol : o < st.H.length := (List.getElem?_eq_some_iff.1 hl).1
  have hin : ∀ b, (μ o).b = some b → Own μ st.H o b := fun b hb => ⟨_, hl, hb⟩
  obtain ⟨he, ho⟩ := g.hok.obj _ _ hl
  have back : ∀ k b, Own μ (st.H.set o (.fro n e c)) k b → k ≠ o ∧ Own μ st.H k b := fun k b h => by
    rcases own_set h with ⟨rfl, h1⟩ | h1
    · exact h1.elim
    · exact h1
  exact {
    defers := g.defers
    fr := RelL_mono (fun _ h => .inl h) (fun _ _ => rfl) _ _ (fun _ _ => rfl) g.fr
    ids := fun k hk => g.ids k (by simpa using hk)
    hok := {
      obj := fun k x hk => by
        rw [List.getElem?_set] at hk
        by_cases hko : o = k
        · subst hko
          rw [if_pos rfl, if_pos hol] at hk
          cases hk
          refine ⟨he, ?_⟩
          cases hq : (μ o).b with
          | none => rw [hq] at ho; exact ho
          | some b =>
            rw [hq] at ho
            obtain ⟨h3, C, T, h4, h5, h6⟩ := ho
            refine ⟨h3, .inr rfl, C, T, (0, 0), h4, fun i hi' j hj => ?_⟩
            obtain ⟨x, h7, h8⟩ := h6 i hi' j hj
            exact ⟨x, h7, RelI_mono (fun _ h => .inl h) (fun _ _ => rfl) _ _ h8⟩
        · rw [if_neg hko] at hk
          exact ObjRel_mono (fun _ h => .inl h) (fun _ _ => rfl) rfl (fun _ _ _ _ => rfl) (fun _ _ => rfl) (g.hok.obj k x hk)
      ids := fun k cs hk j hj => by
        rw [List.getElem?_set] at hk
        by_cases hko : o = k
        · subst hko
          rw [if_pos rfl, if_pos hol] at hk
          cases hk
        · rw [if_neg hko] at hk
          exact g.hok.ids k cs hk j (by simpa using hj)
      seps := fun k k' b hne h1 h2 => g.hok.seps k k' b hne (back k b h1).2 (back k' b h2).2
      owns := fun k b h => by
        obtain ⟨h0, h⟩ := back k b h
        obtain ⟨h1, h2⟩ := g.hok.owns k b h
        refine ⟨fun hs => ?_, h2⟩
        rcases hs with hs | hs
        · exact h1 hs
        · exact g.hok.seps k o b h0 h (hin b hs)
      inS := fun b hb => by
        rcases hb with hb | hb
        · exact g.hok.inS b hb
        · exact (g.hok.owns o b (hin b hb)).2
      gl := g.hok.gl.mono (fun _ h => .inl h) fun _ _ => rfl }
    sub := fun b hb => .inl (g.sub b hb)
    new := fun b hb => by
      rcases hb with hb | hb
      · exact g.new b hb
      · exact .inr (g.mines o b (hin b hb))
    mu := g.mu
    len := by simpa using g.len
    kept := g.kept
    mines := fun k b h => g.mines k b (back k b h).2 }

/-- The same, where there may be none. -/
theorem Good.thO (g : Good E st a w S μ) (o : Nat) : ∃ S', (∀ b, S b → S' b) ∧ Good E { st with H := thO st.H o } a w S' μ := by
  unfold Cg.thO
  split
  · rename_i n e c hl
    exact ⟨_, fun _ h => .inl h, g.thaw (H_getD hl (by simp))⟩
  · exact ⟨S, fun _ h => h, g⟩
theorem Good.thD (g : Good E st a w S μ) (x : AV) : ∃ S', (∀ b, S b → S' b) ∧ Good E { st with H := thD st.H x } a w S' μ := by
  unfold Cg.thD
  split
  · exact g.thO _
  · exact g.thO _
  · exact ⟨S, fun _ h => h, g⟩
theorem thO_len (H : List AObj) (o : Nat) : (thO H o).length = H.length := by unfold thO; split <;> simp
theorem thD_len (H : List AObj) (x : AV) : (thD H x).length = H.length := by unfold thD; split <;> first | exact thO_len _ _ | rfl

theorem storeD_sound (g : Good E st a w S μ) {t : TypeId} {av : AV} {y z : Value} {vs : List AV} {K : List AObj → Prop} (hr : Rel S μ w av y) (hv : RelL S μ w vs z.cells.toList) (hm : ∀ k, st.H.length ≤ k → mentL k vs = false)
    (hl : vs.length = P.cellsOf t) (hpos : P.cellsOf t ≠ 0) (h : aStore av vs (thD st.H av) K) : ∃ w' H' S' μ', (Instr.storeAt t y z).run P w = .ok () w' ∧ K H' ∧ Good E { st with H := H' } a w' S' μ' := by
  obtain ⟨S', hS, g'⟩ := g.thD av
  exact store_sound (st := { st with H := thD st.H av }) g' (Rel_mono hS (fun _ _ => rfl) _ _ (fun _ _ => rfl) hr) (RelL_mono hS (fun _ _ => rfl) _ _ (fun _ _ => rfl) hv) (fun k hk => hm k (by rw [← thD_len st.H av]; exact hk)) hl hpos h

/-- What lies in the cells of a new block behind a growing append, whatever is said of it. -/
theorem grown_cellsR {n m esz k : Nat} {olds news : List Value} {z : Array Value} (hlo : olds.length = n * esz) (hln : news.length = m * esz) (hz : z.size = esz) (hk : n + m ≤ k) {Ra Rb : Nat → Nat → Value → Prop}
    (ha : ∀ i, i < n → ∀ j, j < esz → ∃ x, olds[i * esz + j]? = some x ∧ Ra i j x) (hb : ∀ i, i < m → ∀ j, j < esz → ∃ x, news[i * esz + j]? = some x ∧ Rb i j x) :
    0 + k * esz ≤ (olds.toArray ++ news.toArray ++ Builtin.zeroCells z (k - (n + m))).size ∧
    ∀ i, i < n + m → ∀ j, j < esz → ∃ x, (olds.toArray ++ news.toArray ++ Builtin.zeroCells z (k - (n + m)))[0 + i * esz + j]? = some x ∧ (i < n → Ra i j x) ∧ (n ≤ i → Rb (i - n) j x) := by
  constructor
  · simp only [Array.size_append, List.size_toArray, size_zeroCells, hz, hlo, hln, Nat.zero_add, ← Nat.add_mul]
    refine Nat.mul_le_mul_right _ ?_
    omega
  · intro i hi j hj
    simp only [Nat.zero_add]
    by_cases h : i < n
    · obtain ⟨x, h1, h2⟩ := ha i h j hj
      have h3 := (List.getElem?_eq_some_iff.1 h1).1
      refine ⟨x, ?_, fun _ => h2, fun h' => absurd h (by omega)⟩
      rw [Array.append_assoc, Array.getElem?_append_left (by simpa using h3)]; simpa using h1
    · obtain ⟨x, h1, h2⟩ := hb (i - n) (by omega) j hj
      have h3 := (List.getElem?_eq_some_iff.1 h1).1
      have h4 : i * esz = n * esz + (i - n) * esz := by rw [← Nat.add_mul]; congr 1; omega
      refine ⟨x, ?_, fun h' => absurd h' h, fun _ => h2⟩
      rw [Array.append_assoc, Array.getElem?_append_right (by simp; omega), Array.getElem?_append_left (by simp; omega)]
      simp only [List.size_toArray, List.getElem?_toArray]
      rw [← h1]; congr 1; omega

theorem room_cellsR {base n m esz : Nat} {cur : Array Value} {news : List Value} (hln : news.length = m * esz) (hfit : base + n * esz + news.length ≤ cur.size) {Ra Rb : Nat → Nat → Value → Prop}
    (ha : ∀ i, i < n → ∀ j, j < esz → ∃ x, cur[base + i * esz + j]? = some x ∧ Ra i j x) (hb : ∀ i, i < m → ∀ j, j < esz → ∃ x, news[i * esz + j]? = some x ∧ Rb i j x) :
    (cur.toList.take (base + n * esz) ++ news ++ cur.toList.drop (base + n * esz + news.length)).toArray.size = cur.size ∧
    ∀ i, i < n + m → ∀ j, j < esz → ∃ x, (cur.toList.take (base + n * esz) ++ news ++ cur.toList.drop (base + n * esz + news.length)).toArray[base + i * esz + j]? = some x ∧ (i < n → Ra i j x) ∧ (n ≤ i → Rb (i - n) j x) := by
  constructor
  · simp only [List.size_toArray, List.length_append, List.length_take, List.length_drop, Array.length_toList]; omega
  · intro i hi j hj
    simp only [List.getElem?_toArray]
    have htl : (cur.toList.take (base + n * esz)).length = base + n * esz := by simp only [List.length_take, Array.length_toList]; omega
    by_cases h : i < n
    · obtain ⟨x, h1, h2⟩ := ha i h j hj
      have h5 : i * esz + esz ≤ n * esz := by rw [← Nat.succ_mul]; exact Nat.mul_le_mul_right _ h
      refine ⟨x, ?_, fun _ => h2, fun h' => absurd h (by omega)⟩
      rw [List.append_assoc, List.getElem?_append_left (by omega), List.getElem?_take, if_pos (by omega), Array.getElem?_toList]; exact h1
    · obtain ⟨x, h1, h2⟩ := hb (i - n) (by omega) j hj
      have h3 := (List.getElem?_eq_some_iff.1 h1).1
      have h4 : i * esz = n * esz + (i - n) * esz := by rw [← Nat.add_mul]; congr 1; omega
      refine ⟨x, ?_, fun h' => absurd h' h, fun _ => h2⟩
      rw [List.append_assoc, List.getElem?_append_right (by omega), htl, List.getElem?_append_left (by omega)]
      rw [← h1]; congr 1; omega

theorem joinC_lt {n i j : Nat} {a b : Nat → Nat → AV} (h : i < n) : joinC n a b i j = a i j := by unfold joinC; rw [blt_iff.2 h]; rfl
theorem joinC_ge {n i j : Nat} {a b : Nat → Nat → AV} (h : n ≤ i) : joinC n a b i j = b (i - n) j := by
  unfold joinC
  cases hb : Nat.blt i n
  · rfl
  · exact absurd (blt_iff.1 hb) (by omega)

/-- An inner slice grows; what its object owns within is from now on for good. -/
theorem grow_sound (g : Good E st a w S μ) {t e : TypeId} {z : List AV} (ty : TypeId) (he : elemOf P t = some e) (hz : zeroCells P e = some z) (hzl : z.length = P.cellsOf e) (hpos : 0 < z.length) (hbp : 0 < P.bytesOf e)
    {src : AV} {x y : Value} {o i j n k esz n' m : Nat} {cell c' b : Nat → Nat → AV} {p : List Prop} (hd : Rel S μ w (.xsl o i j n) y) (hs : Rel S μ w src x) (hH : st.H[o]? = some (.xarr k esz cell))
    (hcell : cell i j = .sl n' (P.cellsOf e) c') (hrows : rowsOf st.H src = some (p, m, P.cellsOf e, b)) (hp : ∀ q ∈ p, q) (hn : n = n') (hi : i < k) (hj : j < esz) (hbd : (n + m) * P.bytesOf e ≤ 70368744177664)
    (hK : K (.sl (n + m) (P.cellsOf e) (joinC n c' b)) (st.H.set o (.arr k esz cell))) : ERun E st a K ((Builtin.append_ #[t, t] ty #[y, x]).run P w) := by
  have hu := elemOf_some he
  obtain ⟨inf, zv, hinf, hzv, hzc⟩ := zeroCells_some hz
  have hsize : inf.size = P.cellsOf e := by simp [Program.cellsOf, hinf]
  have hbytes : inf.bytes = P.bytesOf e := by simp [Program.bytesOf, hinf]
  have hzcs : zv.cells.size = P.cellsOf e := by
    have := RelL_length (Rel_cells (S := S) (μ := μ) (w := w) hzc (Rel_ofConst S μ w zv))
    rw [← hzl, ← this]; simp
  obtain ⟨B, cB, rfl, news, hln, hnews, hB, hnb⟩ := rowsOf_sound g.hok hrows hp (.inl (by omega)) hs
  have hln' : news.length = m * inf.size := by rw [hln, hsize]
  have hbd' : (n + m) * inf.bytes ≤ 140737488355328 := by rw [hbytes]; omega
  have hone : ∀ u ∈ news, u.oneCell' = true := fun u hu => by
    obtain ⟨k, hk⟩ := List.getElem?_of_mem hu
    have hkl := (List.getElem?_eq_some_iff.1 hk).1
    have hkd : k / P.cellsOf e < m := by rw [Nat.div_lt_iff_lt_mul (by omega)]; rw [hln', hsize] at hkl; exact hkl
    obtain ⟨v, h1, h2⟩ := hnb (k / P.cellsOf e) hkd (k % P.cellsOf e) (Nat.mod_lt _ (by omega))
    rw [Nat.div_add_mod' k (P.cellsOf e), hk] at h1
    cases h1
    exact oneCell_of (RelI_one h2)
  obtain ⟨hesz, hinn, hobj⟩ := g.hok.obj _ _ hH
  have hol : o < st.H.length := (List.getElem?_eq_some_iff.1 hH).1
  cases hb0 : (μ o).b with
  | none => rw [hb0] at hobj; have : k = 0 := hobj; omega
  | some B0 =>
  rw [hb0] at hobj
  obtain ⟨hk, C0, T0, hC0, hfit0, hx0⟩ := hobj
  obtain ⟨x0, hx1, hx2⟩ := hx0 i hi j hj
  rw [hcell] at hx2
  replace hx2 : RelN S w ((μ o).inn i j) n' (P.cellsOf e) c' x0 := hx2
  -- a block of its own for what has grown
  have fresh : ∀ (A : Option Addr) (cap : Nat) (olds : List Value), y = .slice A n cap → olds.length = n * inf.size → (∀ b, A = some b → ∀ j v, olds[j]? = some v → w.cell? (b.add j) = some v) → (A = none → n = 0) → cap < n + m →
      (∀ i, i < n → ∀ j, j < P.cellsOf e → ∃ x, olds[i * P.cellsOf e + j]? = some x ∧ RelI (fun b => S b ∨ InB (μ o) b) w (c' i j) x) → ERun E st a K ((Builtin.append_ #[t, t] ty #[y, .slice B m cB]).run P w) := fun A cap olds hy hlo holds hA hlt hob => by
    subst hy
    have hrun := run_grow (w := w) ty hu hinf hzv (by omega) hlo holds hA (c := cB) hln' hnews hB hlt hbd'
    have hcap := grownCap_ge w (n + m) cap e
    obtain ⟨h1, h2⟩ := grown_cells (S := fun b => S b ∨ InB (μ o) b) (w := w) (z := zv.cells) (k := grownCap w (n + m) cap e) (by rw [hlo, hsize]) (by rw [hln', hsize]) hzcs hcap hob fun i hi j hj => by
      obtain ⟨x, q1, q2⟩ := hnb i hi j hj
      exact ⟨x, q1, RelI_mono (fun _ h => .inl h) (fun _ _ => rfl) _ _ q2⟩
    have hext := Ext.push w (.cells (olds.toArray ++ news.toArray ++ Builtin.zeroCells zv.cells (grownCap w (n + m) cap e - (n + m))) e) (w.drawn + 1)
    have g' := (g.thaw hH).ext (S' := fun b => (S b ∨ InB (μ o) b) ∨ b = w.heap.size) hext (fun _ h => .inl h) (fun b hb => hb.imp id (by rintro rfl; exact Nat.le_refl _)) (fun b hb => by
      rcases hb with hb | rfl
      · exact Nat.lt_of_lt_of_le ((g.thaw hH).hok.inS b hb) hext.size
      · simp)
    refine ⟨_, _, _, _, _, _, hrun, hK, g', ⟨_, _, rfl, hcap, .inr ⟨w.heap.size, 0, rfl, .inr rfl, _, _, _, heap_new _ _ _, fun i hi j hj => ?_⟩⟩, fun k hk => rfl⟩
    obtain ⟨x, h3, h4⟩ := h2 i hi j hj
    exact ⟨x, h3, RelI_mono (fun _ h => .inl h) (fun c hc => hext.block c ((g.thaw hH).hok.inS c hc)) _ _ h4⟩
  unfold Rel at hd
  cases hq : (μ o).inn i j with
  | none =>
    rw [hq] at hd
    obtain ⟨hn0, A0, hy⟩ := hd
    subst hn0
    by_cases hm : m = 0
    · subst hm
      subst hy
      refine ⟨_, w, _, _, _, _, run_app_none ty hu hinf (Nat.le_refl 0), hK, g.thaw hH, ⟨_, 0, rfl, Nat.le_refl _, .inl rfl⟩, fun _ _ => rfl⟩
    · exact fresh A0 0 [] hy (by simp) (fun b _ j v hv => by simp at hv) (fun _ => rfl) (by omega) (fun i hi => by omega)
  | some q =>
    rw [hq] at hd hx2
    obtain ⟨hnl, hy⟩ := hd
    obtain ⟨_, hlc, _, hsub, C, T, hC, hfit, hx⟩ := hx2
    rw [← hn] at hx
    have hown : ∀ i j v, (μ o).inn i j = some v → Own μ st.H o v.b := fun i j v hv => ⟨_, hH, .inr ⟨i, j, v, hv, .here v⟩⟩
    by_cases hm : m = 0
    · subst hm
      subst hy
      refine ⟨_, w, _, _, _, _, run_app_none ty hu hinf (by omega), hK, g.thaw hH, ⟨_, q.cap, rfl, by omega, .inr ⟨q.b, q.off, rfl, .inr ⟨i, j, q, hq, .here q⟩, C, T, (0, 0), hC, fun i' hi' j' hj' => ?_⟩⟩, fun _ _ => rfl⟩
      obtain ⟨x, h1, h2⟩ := hx i' (by omega) j' hj'
      rw [joinC_lt (by omega)]
      exact ⟨x, h1, RelX0_RelI _ (fun v hv c hc => .inr ⟨i, j, q, hq, .sub q i' j' v c hv hc⟩) h2⟩
    · by_cases hroom : n + m ≤ q.cap
      · have hmul : n * P.cellsOf e + m * P.cellsOf e ≤ q.cap * P.cellsOf e := by rw [← Nat.add_mul]; exact Nat.mul_le_mul_right _ hroom
        have hrun := run_app_room (w := w) ty hu hinf (g := q.b) (off := q.off) (n := n) (cap := q.cap) hC (c := cB) hln' hnews hB hone hroom (by rw [hln', hsize]; omega)
        rw [hsize] at hrun
        obtain ⟨h1, h2⟩ := room_cellsR (base := q.off) (by rw [hln', hsize]) (by rw [hln', hsize]; omega) hx hnb
        generalize hnew : (C.toList.take (q.off + n * P.cellsOf e) ++ news ++ C.toList.drop (q.off + n * P.cellsOf e + news.length)).toArray = CN at hrun h1 h2
        have hother : ∀ c, c ≠ q.b → (w.setRow q.b CN).heap[c]? = w.heap[c]? := fun c hc => setRow_other w q.b c _ hc
        have hnS : ¬ S q.b := (g.hok.owns o q.b (hown i j q hq)).1
        have hSb : ∀ c, S c → (w.setRow q.b CN).heap[c]? = w.heap[c]? := fun c hc => hother c fun e => hnS (e ▸ hc)
        have g1 := g.place (placed_set hol (.xarr k esz cell)) (μ o) (.inl rfl) (w' := w.setRow q.b CN) rfl rfl rfl (by rw [setRow_size]; exact Nat.le_refl _)
          (fun c _ hne => hother c fun e => hne (by subst e; exact .inr ⟨i, j, q, hq, .here q⟩))
          (fun c hc => ⟨(g.hok.owns o c ⟨_, hH, hc⟩).1, by rw [setRow_size]; exact (g.hok.owns o c ⟨_, hH, hc⟩).2, fun k' hk' h => g.hok.seps k' o c hk' h ⟨_, hH, hc⟩, g.mines o c ⟨_, hH, hc⟩⟩)
          (by
            rw [upd_id]
            refine ⟨hesz, hinn, ?_⟩
            rw [hb0]
            have hB0 : B0 ≠ q.b := fun e => (hinn i j q hq).1 q.b (.here q) (by rw [hb0, e])
            refine ⟨hk, C0, T0, by rw [hother B0 hB0]; exact hC0, hfit0, fun i' hi' j' hj' => ?_⟩
            obtain ⟨u, hu1, hu2⟩ := hx0 i' hi' j' hj'
            refine ⟨u, hu1, ?_⟩
            by_cases hij : i' = i ∧ j' = j
            · obtain ⟨rfl, rfl⟩ := hij
              rw [hcell] at hu2 ⊢
              have hu2 : RelN S w ((μ o).inn i' j') n' (P.cellsOf e) c' u := hu2
              show RelN S _ ((μ o).inn i' j') n' (P.cellsOf e) c' u
              rw [hq] at hu2 ⊢
              obtain ⟨e1, e2, e3, e0, C1, T1, e4, e5, e6⟩ := hu2
              rw [hC] at e4
              cases e4
              refine ⟨e1, e2, e3, e0, CN, T, setRow_heap w q.b C _ T (0, 0) hC, by rw [h1]; exact e5, fun i2 hi2 j2 hj2 => ?_⟩
              obtain ⟨x, h3, h4, _⟩ := h2 i2 (by omega) j2 hj2
              exact ⟨x, h3, RelX0_mono _ (fun v hv c hc => hother c fun e => (e0 i2 j2 v hv).1 c hc (by rw [e])) (h4 (by omega))⟩
            · exact RelX_mono (fun _ h => h) hSb (fun v hv c hc => hother c fun e => hij ((hinn i j q hq).2.2.2 i' j' v q.b hv (.here q) (e ▸ hc))) hu2)
          (fun cs hcs => by cases hcs)
        rw [upd_id] at g1
        have hH1 : ({ st with H := st.H.set o (.xarr k esz cell) } : St).H[o]? = some (.xarr k esz cell) := List.getElem?_set_self hol
        have g2 := g1.thaw hH1
        have hss : (st.H.set o (AObj.xarr k esz cell)).set o (.arr k esz cell) = st.H.set o (.arr k esz cell) := List.set_set ..
        rw [hss] at g2
        subst hy
        refine ⟨_, _, _, _, _, _, hrun, hK, g2, ⟨_, q.cap, rfl, hroom, .inr ⟨q.b, q.off, rfl, .inr ⟨i, j, q, hq, .here q⟩, CN, T, (0, 0), setRow_heap w q.b C _ T (0, 0) hC, fun i' hi' j' hj' => ?_⟩⟩, fun _ _ => rfl⟩
        obtain ⟨x, h3, h4, h5⟩ := h2 i' hi' j' hj'
        refine ⟨x, h3, ?_⟩
        by_cases hlt : i' < n
        · rw [joinC_lt hlt]
          exact RelX0_RelI _ (fun v hv c hc => .inr ⟨i, j, q, hq, .sub q i' j' v c hv hc⟩) (RelX0_mono _ (fun v hv c hc => hother c fun e => (hsub i' j' v hv).1 c hc (by rw [e])) (h4 hlt))
        · rw [joinC_ge (by omega)]
          exact RelI_mono (fun _ h => .inl h) hSb _ _ (h5 (by omega))
      · obtain ⟨l, h1, h2, h3⟩ := row_list (w := w) (by omega) hC hx
        refine fresh _ q.cap l hy (by rw [h1, hsize]) (fun b hb => by cases hb; exact h2) (fun h => (by cases h)) (by omega) fun i' hi' j' hj' => ?_
        obtain ⟨x, q1, q2⟩ := h3 i' hi' j' hj'
        exact ⟨x, q1, RelX0_RelI _ (fun v hv c hc => .inr ⟨i, j, q, hq, .sub q i' j' v c hv hc⟩) q2⟩

theorem plain_one {a : AV} (h : plainA a = true) : ∃ x, a = .v x ∧ isOne x = true := by
  cases a <;> first | exact ⟨_, rfl, h⟩ | cases h

/-- A slice of the call's own, as one that lies within: all that it owns is its object's. -/
def Fits (S : Nat → Prop) (μ : Nat → OI) (w : World) (H : List AObj) (o lo' n1 e1 : Nat) (c1 : Nat → Nat → AV) : Prop :=
  ∃ vo : Option Inn, (∀ v, vo = some v → ∀ b, InT v b → Own μ H o b) ∧ ∀ u, Rel S μ w (.osl o lo' n1) u → RelN S w vo n1 e1 (fun i j => c1 (i + lo') j) u
theorem fits_of {H : List AObj} {o m1 e1 lo' n1 : Nat} {c1 : Nat → Nat → AV} (heo : (μ o).esz = e1) (inn : Nat → Nat → Option Inn) (hB : ∀ b, (μ o).b = some b ∨ (∃ i j v, inn i j = some v ∧ InT v b) → Own μ H o b)
    (hsub : SubOK (μ o).b m1 e1 inn) (hoO : match (μ o).b with
    | none => m1 = 0
    | some b => m1 ≤ (μ o).cap ∧ ∃ c T, w.heap[b]? = some (.cells c T (0, 0)) ∧ (μ o).base + (μ o).cap * e1 ≤ c.size ∧
        ∀ i, i < m1 → ∀ j, j < e1 → ∃ x, c[(μ o).base + i * e1 + j]? = some x ∧ RelX0 w (c1 i j) inn i j x) (hlo : lo' + n1 ≤ m1) : Fits S μ w H o lo' n1 e1 c1 := by
  cases hb1 : (μ o).b with
  | none =>
    rw [hb1] at hoO
    refine ⟨none, fun v hv => (by cases hv), fun u hr => ?_⟩
    unfold Rel at hr
    rw [hb1] at hr
    exact hr.2
  | some b1 =>
    rw [hb1] at hoO hsub
    obtain ⟨h3, C1, T1, h4, h5, h6⟩ := hoO
    by_cases hc0 : (μ o).cap - lo' = 0
    · refine ⟨none, fun v hv => (by cases hv), fun u hr => ?_⟩
      unfold Rel at hr
      rw [hb1] at hr
      obtain ⟨h1, a', rfl, h2⟩ := hr
      have : n1 = 0 := by omega
      subst this
      exact ⟨rfl, some a', by rw [hc0]⟩
    · let sub : Nat → Nat → Option Inn := fun i j => if i < n1 then inn (i + lo') j else none
      have hs : ∀ i j v, sub i j = some v → i < n1 ∧ inn (i + lo') j = some v := fun i j v hv => by
        have hv : (if i < n1 then inn (i + lo') j else none) = some v := hv
        split at hv
        · exact ⟨by assumption, hv⟩
        · cases hv
      refine ⟨some ⟨b1, (μ o).base + lo' * e1, (μ o).cap - lo', n1, sub⟩, fun v hv b hb => ?_, fun u hr => ?_⟩
      · cases hv
        rcases hb.elim with rfl | ⟨i, j, v, hv, hvb⟩
        · exact hB _ (.inl hb1)
        · exact hB _ (.inr ⟨_, _, v, (hs i j v hv).2, hvb⟩)
      · unfold Rel at hr
        rw [hb1] at hr
        obtain ⟨h1, a', rfl, h2⟩ := hr
        refine ⟨rfl, by show n1 ≤ (μ o).cap - lo'; omega, by rw [h2 (by omega), heo], fun i j v hv => ?_, C1, T1, h4, ?_, fun i hi j hj => ?_⟩
        · obtain ⟨k1, k2⟩ := hs i j v hv
          obtain ⟨g1, g2, g3, g4⟩ := hsub _ _ v k2
          refine ⟨g1, k1, g3, fun i' j' v' b hv' hb hb' => ?_⟩
          obtain ⟨r1, r2⟩ := g4 _ _ v' b (hs i' j' v' hv').2 hb hb'
          exact ⟨by omega, r2⟩
        · have : lo' * e1 + ((μ o).cap - lo') * e1 = (μ o).cap * e1 := by rw [← Nat.add_mul]; congr 1; omega
          show (μ o).base + lo' * e1 + ((μ o).cap - lo') * e1 ≤ C1.size
          omega
        · obtain ⟨x, h7, h8⟩ := h6 (i + lo') (by omega) j hj
          refine ⟨x, ?_, RelX0_inn (inn := inn) (show inn (i + lo') j = sub i j from (if_pos hi).symm) h8⟩
          show C1[(μ o).base + lo' * e1 + i * e1 + j]? = some x
          rw [← h7]; congr 1; rw [Nat.add_mul]; omega
theorem fits_arr {H : List AObj} (hok : HOK S μ w H) {o m1 e1 lo' n1 : Nat} {c1 : Nat → Nat → AV} (ho : H[o]? = some (.arr m1 e1 c1)) (hfl : FlatC m1 e1 c1) (hlo : lo' + n1 ≤ m1) : Fits S μ w H o lo' n1 e1 c1 := by
  obtain ⟨heo, hoO⟩ := hok.obj _ _ ho
  refine fits_of heo (fun _ _ => none) (fun b hb => ?_) (fun i j v hv => (by cases hv)) (m1 := m1) ?_ hlo
  · rcases hb with hb | ⟨_, _, _, h, _⟩
    · exact ⟨_, ho, hb⟩
    · cases h
  · revert hoO
    cases (μ o).b with
    | none => exact fun h => h
    | some b =>
      rintro ⟨h3, C1, T1, h4, h5, h6⟩
      refine ⟨h3, C1, T1, h4, h5, fun i hi j hj => ?_⟩
      obtain ⟨x, h7, h8⟩ := h6 i hi j hj
      exact ⟨x, h7, flat_RelX (S := S) (hfl i hi j hj) h8⟩
theorem fits_xarr {H : List AObj} (hok : HOK S μ w H) {o m1 e1 lo' n1 : Nat} {c1 : Nat → Nat → AV} (ho : H[o]? = some (.xarr m1 e1 c1)) (hlo : lo' + n1 ≤ m1) : Fits S μ w H o lo' n1 e1 c1 := by
  obtain ⟨heo, hi, hoO⟩ := hok.obj _ _ ho
  exact fits_of heo (μ o).inn (fun b hb => ⟨_, ho, hb⟩) hi hoO hlo

/-- A row that holds a slice of the call's own is laid behind an object that owns inner slices. -/
theorem laid_sound (g : Good E st a w S μ) {t e : TypeId} {z : List AV} (ty : TypeId) (he : elemOf P t = some e) (hz : zeroCells P e = some z) (hzl : z.length = P.cellsOf e) (hpos : 0 < z.length) (hbp : 0 < P.bytesOf e)
    {x y : Value} {A o j lo' n1 k e1 n : Nat} {ac c1 : Nat → Nat → AV} {cs : List AV} {X : AObj} (hd : Rel S μ w (.osl A 0 n) y) (hs : Rel S μ w (.olit 1 cs) x) (hA : st.H[A]? = some (.xarr k (P.cellsOf e) ac)) (ho : st.H[o]? = some X)
    (hown : cs[j]? = some (.osl o lo' n1)) (hplain : ∀ j', j' ≠ j → ∀ v, cs[j']? = some v → plainA v = true) (hcl : cs.length = P.cellsOf e) (hne : A ≠ o) (hnk : n = k) (hfits : Fits S μ w st.H o lo' n1 e1 c1) (hbd : (n + 1) * P.bytesOf e ≤ 70368744177664)
    (hK : K (.osl st.H.length 0 (n + 1)) (((st.H.set A .dead).set o .dead) ++ [.xarr (n + 1) (P.cellsOf e) (joinC n ac (rowsCell [cs.set j (.sl n1 e1 (fun i j => c1 (i + lo') j))]))])) :
    ERun E st a K ((Builtin.append_ #[t, t] ty #[y, x]).run P w) := by
  have hu := elemOf_some he
  obtain ⟨inf, zv, hinf, hzv, hzc⟩ := zeroCells_some hz
  have hsize : inf.size = P.cellsOf e := by simp [Program.cellsOf, hinf]
  have hbytes : inf.bytes = P.bytesOf e := by simp [Program.bytesOf, hinf]
  have hzcs : zv.cells.size = P.cellsOf e := by
    have := RelL_length (Rel_cells (S := S) (μ := μ) (w := w) hzc (Rel_ofConst S μ w zv))
    rw [← hzl, ← this]; simp
  have hbd' : (n + 1) * inf.bytes ≤ 140737488355328 := by rw [hbytes]; omega
  obtain ⟨bb, Cb, Tb, frb, rfl, hSb, hCb, hcs⟩ := hs
  have hol : o < st.H.length := (List.getElem?_eq_some_iff.1 ho).1
  have hAl : A < st.H.length := (List.getElem?_eq_some_iff.1 hA).1
  have hCl := RelL_length hcs
  simp only [Array.length_toList] at hCl
  have hln' : Cb.toList.length = 1 * inf.size := by simp only [Array.length_toList]; omega
  have hnews : ∀ b, some (⟨bb, 0, none⟩ : Addr) = some b → ∀ j v, Cb.toList[j]? = some v → w.cell? (b.add j) = some v := fun b hb j v hv => by
    cases hb
    rw [add_eq rfl, cell_of hCb, Nat.zero_add, ← Array.getElem?_toList]; exact hv
  have cellOne : ∀ jj v, cs[jj]? = some v → oneA v = true := fun jj v hv => by
    by_cases hjj : jj = j
    · subst hjj; rw [hown] at hv; cases hv; rfl
    · obtain ⟨x, rfl, hx⟩ := plain_one (hplain jj hjj v hv); exact hx
  have hone : ∀ u ∈ Cb.toList, u.oneCell' = true := fun u hu => by
    obtain ⟨jj, hjj⟩ := List.getElem?_of_mem hu
    have hlt := (List.getElem?_eq_some_iff.1 hjj).1
    have hv : cs[jj]? = some cs[jj] := List.getElem?_eq_getElem (by simp only [Array.length_toList] at hlt; omega)
    obtain ⟨u', h1, h2⟩ := RelL_get hcs hv
    rw [hjj] at h1; cases h1
    exact oneCell_of (Rel_one (cellOne jj _ hv) h2)
  obtain ⟨hesz, hinn, hobj⟩ := g.hok.obj _ _ hA
  obtain ⟨vo, hvoB, hvo⟩ := hfits
  have hjl : j < P.cellsOf e := by rw [← hcl]; exact (List.getElem?_eq_some_iff.1 hown).1
  let inn' : Nat → Nat → Option Inn := fun i' j' => if i' = n ∧ j' = j then vo else (μ A).inn i' j'
  have ownA : ∀ b, (μ A).b = some b ∨ InB (μ A) b → Own μ st.H A b := fun b hb => ⟨_, hA, hb⟩
  -- what comes out
  let Core : Prop := ∃ (y' : Value) (w' : World) (q : OI), (Builtin.append_ #[t, t] ty #[y, .slice (some ⟨bb, 0, none⟩) 1 1]).run P w = .ok y' w' ∧ w'.os = w.os ∧ w'.tape = w.tape ∧ w'.output = w.output ∧ w.heap.size ≤ w'.heap.size ∧
      (∀ c, c < w.heap.size → q.b ≠ some c → w'.heap[c]? = w.heap[c]?) ∧ q.esz = P.cellsOf e ∧ q.inn = inn' ∧ ∃ b', q.b = some b' ∧ b' < w'.heap.size ∧ (w.heap.size ≤ b' ∨ (μ A).b = some b') ∧ n + 1 ≤ q.cap ∧
      y' = .slice (some ⟨b', q.base, none⟩) (n + 1) q.cap ∧ ∃ C' T', w'.heap[b']? = some (.cells C' T' (0, 0)) ∧ q.base + q.cap * P.cellsOf e ≤ C'.size ∧
        ∀ i', i' < n + 1 → ∀ j', j' < P.cellsOf e → ∃ u, C'[q.base + i' * P.cellsOf e + j']? = some u ∧ (i' < n → RelX S (μ A).inn w i' j' (ac i' j') u) ∧ (n ≤ i' → Cb.toList[(i' - n) * P.cellsOf e + j']? = some u)
  have core : Core := by
    have hbnew : ∀ i, i < 1 → ∀ j', j' < P.cellsOf e → ∃ u, Cb.toList[i * P.cellsOf e + j']? = some u ∧ Cb.toList[i * P.cellsOf e + j']? = some u := fun i hi j' hj' => by
      have h0 : i = 0 := by omega
      subst h0
      have : Cb.toList[0 * P.cellsOf e + j']? = some (Cb.toList[0 * P.cellsOf e + j']'(by simp only [Array.length_toList]; omega)) := List.getElem?_eq_getElem _
      exact ⟨_, this, this⟩
    have grow : ∀ (A' : Option Addr) (cap : Nat) (olds : List Value), y = .slice A' n cap → olds.length = n * inf.size → (∀ b, A' = some b → ∀ j v, olds[j]? = some v → w.cell? (b.add j) = some v) → (A' = none → n = 0) → cap < n + 1 →
        (∀ i, i < n → ∀ j', j' < P.cellsOf e → ∃ u, olds[i * P.cellsOf e + j']? = some u ∧ RelX S (μ A).inn w i j' (ac i j') u) → Core := fun A' cap olds hy hlo' holds hA' hlt hob => by
      subst hy
      have hrun := run_grow (w := w) ty hu hinf hzv (by omega) hlo' holds hA' (B := some ⟨bb, 0, none⟩) (m := 1) (c := 1) hln' hnews (fun h => (by cases h)) hlt hbd'
      have hcap := grownCap_ge w (n + 1) cap e
      obtain ⟨h1, h2⟩ := grown_cellsR (z := zv.cells) (k := grownCap w (n + 1) cap e) (by rw [hlo', hsize]) (by rw [hln', hsize]) hzcs hcap hob hbnew
      exact ⟨_, _, ⟨some w.heap.size, 0, grownCap w (n + 1) cap e, P.cellsOf e, inn'⟩, hrun, rfl, rfl, rfl, (Ext.push w _ _).size, fun c hc _ => (Ext.push w _ _).block c hc, rfl, rfl, w.heap.size, rfl, by simp, .inl (Nat.le_refl _), hcap, rfl, _, _, heap_new _ _ _, h1, h2⟩
    unfold Rel at hd
    cases hbA : (μ A).b with
    | none =>
      rw [hbA] at hd hobj
      obtain ⟨_, hn0, A0, hy⟩ := hd
      exact grow A0 0 [] (by rw [hy, hn0]) (by rw [hn0]; simp) (fun b _ j v hv => by simp at hv) (fun _ => hn0) (by omega) (fun i hi => by omega)
    | some bA =>
      rw [hbA] at hd hobj
      obtain ⟨hncap, A0, hy, hA0⟩ := hd
      obtain ⟨hkc, CA, TA, hCA, hfitA, hxA⟩ := hobj
      simp only [Nat.zero_add, Nat.sub_zero] at hncap hy
      have hxA' : ∀ i, i < n → ∀ j', j' < P.cellsOf e → ∃ u, CA[(μ A).base + i * P.cellsOf e + j']? = some u ∧ RelX S (μ A).inn w i j' (ac i j') u := fun i hi j' hj' => hxA i (by omega) j' hj'
      by_cases hroom : n + 1 ≤ (μ A).cap
      · have hAe := hA0 (by omega)
        simp only [Nat.zero_mul, Nat.add_zero] at hAe
        subst hAe
        subst hy
        have hmul : n * P.cellsOf e + 1 * P.cellsOf e ≤ (μ A).cap * P.cellsOf e := by rw [← Nat.add_mul]; exact Nat.mul_le_mul_right _ hroom
        have hrun := run_app_room (w := w) ty hu hinf (g := bA) (off := (μ A).base) (n := n) (cap := (μ A).cap) hCA (B := some ⟨bb, 0, none⟩) (m := 1) (c := 1) hln' hnews (fun h => (by cases h)) hone hroom (by rw [hln', hsize]; omega)
        rw [hsize] at hrun
        obtain ⟨h1, h2⟩ := room_cellsR (base := (μ A).base) (by rw [hln', hsize]) (by rw [hln', hsize]; omega) hxA' hbnew
        refine ⟨_, _, ⟨some bA, (μ A).base, (μ A).cap, P.cellsOf e, inn'⟩, hrun, rfl, rfl, rfl, by rw [setRow_size]; exact Nat.le_refl _, fun c _ hne => setRow_other w bA c _ (fun e => hne (by rw [e])), rfl, rfl, bA, rfl, by rw [setRow_size]; exact (g.hok.owns A bA (ownA bA (.inl hbA))).2, .inr hbA, hroom, rfl, _, TA, setRow_heap w bA CA _ TA (0, 0) hCA, ?_, h2⟩
        rw [h1]; exact hfitA
      · have holds : ∃ olds : List Value, olds.length = n * inf.size ∧ (∀ j v, olds[j]? = some v → w.cell? (A0.add j) = some v) ∧ ∀ i, i < n → ∀ j', j' < P.cellsOf e → ∃ u, olds[i * P.cellsOf e + j']? = some u ∧ RelX S (μ A).inn w i j' (ac i j') u := by
          by_cases hn0 : n = 0
          · refine ⟨[], by rw [hn0]; simp, fun j v hv => by simp at hv, fun i hi => by omega⟩
          · have hAe := hA0 (by omega)
            simp only [Nat.zero_mul, Nat.add_zero] at hAe
            obtain ⟨l, h1, h2, h3⟩ := row_list (w := w) (by omega) hCA hxA'
            exact ⟨l, by rw [h1, hsize], by rw [hAe]; exact h2, h3⟩
        obtain ⟨olds, h1, h2, h3⟩ := holds
        exact grow (some A0) (μ A).cap olds hy h1 (fun b hb => by cases hb; exact h2) (fun h => (by cases h)) (by omega) h3
  obtain ⟨y', w', q, hrun, hos, htape, hout, hsz, hblk, hqe, hqi, b', hqb, hb'lt, hb'old, hcap, rfl, C', T', hC', hfit', hx'⟩ := core
  have g1 : Good E { st with H := st.H.set A .dead } a w S μ := g.kill hAl
  have g2 : Good E { st with H := (st.H.set A .dead).set o .dead } a w S μ := g1.kill (by simpa using hol)
  have hlen : ((st.H.set A AObj.dead).set o AObj.dead).length = st.H.length := by simp
  have hasQ : ∀ c, HasB (.xarr (n + 1) (P.cellsOf e) (joinC n ac (rowsCell [cs.set j (.sl n1 e1 (fun i j => c1 (i + lo') j))]))) q c → q.b = some c ∨ Own μ st.H A c ∨ Own μ st.H o c := fun c hc => by
    rcases hc with hc | ⟨i', j', v, hv, hc⟩
    · exact .inl hc
    · rw [hqi] at hv
      have hv : (if i' = n ∧ j' = j then vo else (μ A).inn i' j') = some v := hv
      split at hv
      · exact .inr (.inr (hvoB v hv c hc))
      · exact .inr (.inl (ownA _ (.inr ⟨i', j', v, hv, hc⟩)))
  have facts : ∀ c, HasB (.xarr (n + 1) (P.cellsOf e) (joinC n ac (rowsCell [cs.set j (.sl n1 e1 (fun i j => c1 (i + lo') j))]))) q c → ¬ S c ∧ c < w'.heap.size ∧ (∀ k', ¬ Own μ ((st.H.set A .dead).set o .dead) k' c) ∧ (E.w.heap.size ≤ c ∨ Blk E.μ E.H c) := fun c hc => by
    have old : ∀ o', (o' = A ∨ o' = o) → Own μ st.H o' c → ¬ S c ∧ c < w'.heap.size ∧ (∀ k', ¬ Own μ ((st.H.set A .dead).set o .dead) k' c) ∧ (E.w.heap.size ≤ c ∨ Blk E.μ E.H c) := fun o' ho' h => by
      obtain ⟨h1, h2⟩ := g.hok.owns o' c h
      refine ⟨h1, by omega, fun k' hk' => ?_, g.mines o' c h⟩
      obtain ⟨h3, h4⟩ := own_dead hk'
      obtain ⟨h5, h6⟩ := own_dead h4
      exact g.hok.seps k' o' c (by rcases ho' with rfl | rfl; exact h5; exact h3) h6 h
    rcases hasQ c hc with h | h | h
    · rw [hqb] at h; cases h
      rcases hb'old with h1 | h1
      · refine ⟨fun hS => by have := g.hok.inS b' hS; omega, hb'lt, fun k' hk' => ?_, .inl (Nat.le_trans g.kept.size h1)⟩
        have := (g.hok.owns k' b' (own_dead (own_dead hk').2).2).2
        omega
      · exact old A (.inl rfl) (ownA _ (.inl h1))
    · exact old A (.inl rfl) h
    · exact old o (.inr rfl) h
  have hSb' : ∀ c, S c → w'.heap[c]? = w.heap[c]? := fun c hc => hblk c (g.hok.inS c hc) fun e => (facts c (.inl e)).1 hc
  have hb'ne : ∀ i' j' v, inn' i' j' = some v → ∀ c, InT v c → c ≠ b' := fun i' j' v hv c hc e => by
    have hv : (if i' = n ∧ j' = j then vo else (μ A).inn i' j') = some v := hv
    split at hv
    · have h1 := hvoB v hv c hc
      rcases hb'old with h2 | h2
      · have := (g.hok.owns o c h1).2; omega
      · exact g.hok.seps A o c hne (ownA _ (.inl (by rw [h2, e]))) h1
    · rcases hb'old with h2 | h2
      · have := (g.hok.owns A c (ownA _ (.inr ⟨i', j', v, hv, hc⟩))).2; omega
      · exact (hinn i' j' v hv).1 c hc (by rw [h2, e])
  have hinB : ∀ i' j' v, inn' i' j' = some v → ∀ c, InT v c → w'.heap[c]? = w.heap[c]? := fun i' j' v hv c hc => hblk c (by
    have hv : (if i' = n ∧ j' = j then vo else (μ A).inn i' j') = some v := hv
    split at hv
    · exact (g.hok.owns o c (hvoB v hv c hc)).2
    · exact (g.hok.owns A c (ownA _ (.inr ⟨i', j', v, hv, hc⟩))).2) fun e => hb'ne i' j' v hv c hc (by rw [hqb] at e; exact (Option.some.inj e).symm)
  have g3 := g2.place (placed_append ((st.H.set A .dead).set o .dead) (.xarr (n + 1) (P.cellsOf e) (joinC n ac (rowsCell [cs.set j (.sl n1 e1 (fun i j => c1 (i + lo') j))])))) q
    (.inr ⟨by rw [hlen]; exact g.len, by rw [hlen]; exact g.ids _ (Nat.le_refl _), fun k' cs' _ hk' => g2.hok.ids k' cs' hk' _ (Nat.le_refl _)⟩) hos htape hout hsz (fun c hc hn => hblk c hc fun e => hn (.inl e))
    (fun c hc => ⟨(facts c hc).1, (facts c hc).2.1, fun k' _ => (facts c hc).2.2.1 k', (facts c hc).2.2.2⟩)
    (by
      refine ⟨by rw [upd_same, hqe], fun i' j' v hv => ?_, ?_⟩
      · rw [upd_same, hqi] at hv
        refine ⟨fun c hc => by rw [upd_same, hqb]; exact fun e => hb'ne i' j' v hv c hc (Option.some.inj e).symm, ?_, ?_, fun i2 j2 v2 c hv2 hc1 hc2 => ?_⟩
        · have hv : (if i' = n ∧ j' = j then vo else (μ A).inn i' j') = some v := hv
          split at hv
          · rename_i h; omega
          · have := (hinn i' j' v hv).2.1; omega
        · have hv : (if i' = n ∧ j' = j then vo else (μ A).inn i' j') = some v := hv
          split at hv
          · rename_i h; rw [h.2]; exact hjl
          · exact (hinn i' j' v hv).2.2.1
        · rw [upd_same, hqi] at hv2
          have hv : (if i' = n ∧ j' = j then vo else (μ A).inn i' j') = some v := hv
          have hv2 : (if i2 = n ∧ j2 = j then vo else (μ A).inn i2 j2) = some v2 := hv2
          split at hv
          · rename_i h
            split at hv2
            · rename_i h2; exact ⟨by omega, by omega⟩
            · exact absurd (hvoB v hv c hc1) (g.hok.seps A o c hne (ownA _ (.inr ⟨i2, j2, v2, hv2, hc2⟩)))
          · split at hv2
            · exact absurd (hvoB v2 hv2 c hc2) (g.hok.seps A o c hne (ownA _ (.inr ⟨i', j', v, hv, hc1⟩)))
            · exact (hinn i' j' v hv).2.2.2 i2 j2 v2 c hv2 hc1 hc2
      · rw [upd_same, hqb]
        refine ⟨hcap, C', T', hC', hfit', fun i' hi' j' hj' => ?_⟩
        obtain ⟨u, h1, h2, h3⟩ := hx' i' hi' j' hj'
        refine ⟨u, h1, ?_⟩
        rw [hqi]
        by_cases hlt : i' < n
        · rw [joinC_lt hlt]
          have e1 : inn' i' j' = (μ A).inn i' j' := if_neg (by omega)
          have h4 := h2 hlt
          have h5 : RelX S inn' w i' j' (ac i' j') u := by
            revert h4
            cases ac i' j' with
            | sl n2 e2 c2 => intro h4; show RelN S w (inn' i' j') _ _ _ _; rw [e1]; exact h4
            | _ => exact fun h => h
          exact RelX_mono (fun _ h => h) hSb' (fun v hv => hinB i' j' v hv) h5
        · have hin : i' = n := by omega
          subst hin
          have h4 := h3 (Nat.le_refl _)
          rw [joinC_ge (Nat.le_refl _)]
          have hjc : j' < cs.length := by omega
          rw [Nat.sub_self, Nat.zero_mul, Nat.zero_add] at h4
          have e2 : rowsCell [cs.set j (.sl n1 e1 (fun i j => c1 (i + lo') j))] (i' - i') j' = (cs.set j (.sl n1 e1 (fun i j => c1 (i + lo') j))).getD j' .any := by rw [Nat.sub_self]; rfl
          rw [e2]
          by_cases hjj : j' = j
          · subst hjj
            have e3 : (cs.set j' (AV.sl n1 e1 (fun i j => c1 (i + lo') j))).getD j' .any = .sl n1 e1 (fun i j => c1 (i + lo') j) := by
              rw [List.getD_eq_getElem?_getD, List.getElem?_set_self hjc]; rfl
            rw [e3]
            obtain ⟨u', h5, h6⟩ := RelL_get hcs hown
            rw [h4] at h5; cases h5
            have e4 : inn' i' j' = vo := if_pos ⟨hnk ▸ rfl, rfl⟩
            have h7 : RelX S inn' w i' j' (.sl n1 e1 (fun i j => c1 (i + lo') j)) u := by
              show RelN S w (inn' i' j') _ _ _ _
              rw [e4]; exact hvo u h6
            exact RelX_mono (fun _ h => h) hSb' (fun v hv => hinB i' j' v hv) h7
          · have hv : cs[j']? = some cs[j'] := List.getElem?_eq_getElem hjc
            have e3 : (cs.set j (AV.sl n1 e1 (fun i j => c1 (i + lo') j))).getD j' .any = cs[j'] := by
              rw [List.getD_eq_getElem?_getD, List.getElem?_set_ne (Ne.symm hjj), hv]; rfl
            rw [e3]
            obtain ⟨u', h5, h6⟩ := RelL_get hcs hv
            rw [h4] at h5; cases h5
            obtain ⟨x, hx, hx1⟩ := plain_one (hplain j' hjj _ hv)
            rw [hx] at h6 ⊢
            have h6 : u = x := h6
            subst h6
            exact ⟨rfl, hx1⟩)
    (fun cs' hcs' => by cases hcs')
  rw [hlen] at g3
  refine ⟨_, w', _, _, S, _, hrun, hK, g3, ?_, fun k' hk' => ment_osl (by simp at hk'; omega) _ _⟩
  unfold Rel
  rw [upd_same, hqb]
  exact ⟨by omega, ⟨b', q.base, none⟩, by simp, fun _ => by simp⟩

theorem ownAt_spec : ∀ {cs : List AV} {k0 j o lo n : Nat}, ownAt cs k0 = some (j, o, lo, n) → k0 ≤ j ∧ cs[j - k0]? = some (.osl o lo n)
  | [], _, _, _, _, _, h => by simp [ownAt] at h
  | c :: cs, k1, j, o, lo, n, h => by
    have next : ownAt cs (k1 + 1) = some (j, o, lo, n) → k1 ≤ j ∧ (c :: cs)[j - k1]? = some (.osl o lo n) := fun h => by
      obtain ⟨h1, h2⟩ := ownAt_spec h
      refine ⟨by omega, ?_⟩
      have : j - k1 = (j - (k1 + 1)) + 1 := by omega
      rw [this]; simpa using h2
    cases c with
    | osl o' lo' n' =>
      simp only [ownAt, Option.some.injEq, Prod.mk.injEq] at h
      obtain ⟨rfl, rfl, rfl, rfl⟩ := h
      simp
    | _ => exact next h

theorem thawX_sound {H : List AObj} (hH : HOK S μ w H) {o lo n m e : Nat} {c : Nat → Nat → AV} (hl : H[o]? = some (.fro m e c)) (hm : lo + n ≤ m) {y : Value} (h : Rel S μ w (.osl o lo n) y) : RelI S w (.sl n e (fun i j => c (i + lo) j)) y := by
  obtain ⟨he, ho⟩ := hH.obj _ _ hl
  unfold Rel at h
  split at h
  · obtain ⟨rfl, rfl, a, rfl⟩ := h; exact ⟨a, 0, rfl, Nat.le_refl _, .inl rfl⟩
  · rename_i b hb
    obtain ⟨h3, a, rfl, h4⟩ := h
    rw [hb] at ho
    obtain ⟨h5, hs, c', T, fr, h6, h8⟩ := ho
    refine ⟨_, _, rfl, by omega, ?_⟩
    by_cases hn : n = 0
    · exact .inl hn
    · have ha := h4 (by omega)
      subst ha
      refine .inr ⟨b, _, rfl, hs, c', T, fr, h6, fun i hi j hj => ?_⟩
      obtain ⟨x, h9, h10⟩ := h8 (i + lo) (by omega) j hj
      exact ⟨x, by rw [← h9]; congr 1; rw [he, Nat.add_mul]; omega, h10⟩

theorem unxL_sound {S' : Nat → Prop} (g : Good E st a w S μ) {o : Nat} (hS : ∀ b, S b ∨ (∃ n e c, st.H[o]? = some (AObj.xarr n e c)) ∧ InB (μ o) b → S' b) :
    ∀ {cs cs' : List AV} {p : List Prop} {ys : List Value}, unxL st.H o cs = some (p, cs') → (∀ q ∈ p, q) → RelL S μ w cs ys → RelL S' μ w cs' ys ∧ (∀ v ∈ cs', isImm v = true) ∧ ∀ y ∈ ys, isOne y = true
  | [], cs', p, ys, h, _, hr => by
    simp only [unxL, Option.some.injEq, Prod.mk.injEq] at h
    obtain ⟨rfl, rfl⟩ := h
    have hr : ys = [] := hr
    subst hr
    exact ⟨rfl, fun v hv => (by cases hv), fun y hy => (by cases hy)⟩
  | c :: cs, cs', p, ys, h, hp, hr => by
    obtain ⟨y, r, rfl, h1, h2⟩ := hr
    unfold unxL at h
    split at h
    · rename_i p1 c' p2 cs2 h3 h4
      simp only [Option.some.injEq, Prod.mk.injEq] at h
      obtain ⟨rfl, rfl⟩ := h
      obtain ⟨i1, i2, i3⟩ := unxL_sound g hS h4 (fun q hq => hp q (List.mem_append_right _ hq)) h2
      have key : Rel S' μ w c' y ∧ isImm c' = true ∧ isOne y = true := by
        unfold unx1 at h3
        split at h3
        · rename_i o' i j n
          cases hb : Nat.beq o o'
          · simp [hb] at h3
          have ho := Nat.eq_of_beq_eq_true hb
          subst ho
          simp only [hb, cond_true] at h3
          split at h3
          · rename_i m e cell hl
            have hl := H_getD hl (by simp)
            split at h3
            · rename_i n' e' c1 hcell
              simp only [Option.some.injEq, Prod.mk.injEq] at h3
              obtain ⟨rfl, rfl⟩ := h3
              have hn : n = n' := hp _ (by simp)
              have hi : i < m := hp _ (by simp)
              obtain ⟨hesz, hinn, hobj⟩ := g.hok.obj _ _ hl
              have h1' := h1
              unfold Rel at h1
              cases hq : (μ o).inn i j with
              | none =>
                rw [hq] at h1
                obtain ⟨hn0, A, rfl⟩ := h1
                exact ⟨⟨A, 0, by rw [← hn, hn0], by omega, .inl (by omega)⟩, rfl, rfl⟩
              | some q =>
                rw [hq] at h1
                obtain ⟨hnl, rfl⟩ := h1
                have hj := (hinn i j q hq).2.2.1
                cases hb0 : (μ o).b with
                | none => rw [hb0] at hobj; have : m = 0 := hobj; omega
                | some B0 =>
                  rw [hb0] at hobj
                  obtain ⟨hk, C0, T0, hC0, hfit0, hx0⟩ := hobj
                  obtain ⟨x0, hx1, hx2⟩ := hx0 i hi j hj
                  rw [hcell] at hx2
                  have hx2 : RelN S w ((μ o).inn i j) n' e' c1 x0 := hx2
                  rw [hq] at hx2
                  obtain ⟨e1, e2, e3, _, C, T, e4, e5, e6⟩ := hx2
                  refine ⟨⟨_, q.cap, by rw [← hn], by omega, .inr ⟨q.b, q.off, rfl, hS _ (.inr ⟨⟨_, _, _, hl⟩, i, j, q, hq, .here q⟩), C, T, (0, 0), e4, fun i2 hi2 j2 hj2 => ?_⟩⟩, rfl, rfl⟩
                  obtain ⟨x, h7, h8⟩ := e6 i2 hi2 j2 hj2
                  exact ⟨x, h7, RelX0_RelI _ (fun v hv c hc => hS c (.inr ⟨⟨_, _, _, hl⟩, i, j, q, hq, .sub q i2 j2 v c hv hc⟩)) h8⟩
            · cases h3
          · cases h3
        · cases hi : isImm c && oneA c
          · simp [hi] at h3
          simp only [hi, cond_true, Option.some.injEq, Prod.mk.injEq] at h3
          obtain ⟨_, rfl⟩ := h3
          simp only [Bool.and_eq_true] at hi
          exact ⟨Rel_mono (fun b hb => hS b (.inl hb)) (fun _ _ => rfl) _ _ (fun _ _ => rfl) h1, hi.1, Rel_one hi.2 h1⟩
      exact ⟨⟨y, r, rfl, key.1, i1⟩, fun v hv => by rcases List.mem_cons.1 hv with rfl | hv; exact key.2.1; exact i2 v hv, fun u hu => by rcases List.mem_cons.1 hu with rfl | hu; exact key.2.2; exact i3 u hu⟩
    · cases h

/-- Plain cells are stored into an object that owns inner slices. -/
theorem storeS_sound (g : Good E st a w S μ) {t : TypeId} {av : AV} {y z : Value} {vs : List AV} {K : List AObj → Prop} (hr : Rel S μ w av y) (hv : RelL S μ w vs z.cells.toList)
    (hl : vs.length = P.cellsOf t) (hpos : P.cellsOf t ≠ 0) (hsc : aScal av vs st.H = true) (h : aStoreS av vs st.H K) : ∃ w' H' S' μ', (Instr.storeAt t y z).run P w = .ok () w' ∧ K H' ∧ Good E { st with H := H' } a w' S' μ' := by
  have hzl := RelL_length hv
  simp only [Array.length_toList] at hzl
  have run : ∀ (blk off : Nat) (C : Array Value) (T : TypeId), w.heap[blk]? = some (.cells C T (0, 0)) → off + z.cells.toList.length ≤ C.size → (∀ u ∈ z.cells.toList, isOne u = true) →
      (Instr.storeAt t (.pointer (some ⟨blk, off, none⟩)) z).run P w = .ok () (w.setRow blk (C.toList.take off ++ z.cells.toList ++ C.toList.drop (off + z.cells.toList.length)).toArray) := fun blk off C T hC hfit ho => by
    have hst := run_storeCells_at P blk off T z.cells.toList 0 C w hC (by simpa using hfit) (fun u hu => oneCell_of (ho u hu))
    simp only [Nat.add_zero] at hst
    have hne : ¬ (z.cells.size ≠ P.cellsOf t) := by omega
    simp only [Instr.storeAt, Instr.sureAddr, storeVar, Sem.run_bind, Sem.run_pure, Result.andThen_ok, run_sizeOf hpos]
    rw [if_neg hne]
    exact hst
  unfold aScal at hsc
  unfold aStoreS at h
  split at h
  · rename_i o i off
    simp only at hsc
    split at h
    · rename_i m esz cell hl'
      rw [hl'] at hsc
      simp only [Bool.and_eq_true] at hsc
      have hH := H_getD hl' (by simp)
      obtain ⟨him, h⟩ := h
      have hfit := ble_iff.1 hsc.1
      have hpl : ∀ (k : Nat) (v : AV) (u : Value), vs[k]? = some v → z.cells.toList[k]? = some u → ∃ x, v = .v x ∧ u = x ∧ isOne u = true := fun k v u h1 h2 => by
        obtain ⟨x, e1, e2⟩ := plain_one (List.all_eq_true.1 hsc.2 v (List.mem_of_getElem? h1))
        obtain ⟨u', h3, h4⟩ := RelL_get hv h1
        rw [h2] at h3; cases h3
        subst e1
        have h4 : u = x := h4
        exact ⟨x, rfl, h4, by rw [h4]; exact e2⟩
      have hone : ∀ u ∈ z.cells.toList, isOne u = true := fun u hu => by
        obtain ⟨k, hk⟩ := List.getElem?_of_mem hu
        have hkl : k < vs.length := by rw [← hzl]; have := (List.getElem?_eq_some_iff.1 hk).1; simpa using this
        exact (hpl k _ u (List.getElem?_eq_getElem hkl) hk).elim fun _ q => q.2.2
      obtain ⟨b, hb, hicap, rfl⟩ := hr
      obtain ⟨hesz, hinn, hO⟩ := g.hok.obj _ _ hH
      rw [hb] at hO
      obtain ⟨hmc, C, T, hC, hfitC, hx⟩ := hO
      have hlive : LiveAt st.H o := LiveAt_iff.2 (.inr ⟨_, _, _, .inr hH⟩)
      have hol : o < st.H.length := (List.getElem?_eq_some_iff.1 hH).1
      have hmul : i * esz + esz ≤ (μ o).cap * esz := by rw [← Nat.succ_mul]; exact Nat.mul_le_mul_right _ hicap
      rw [hesz]
      have hfit' : (μ o).base + i * esz + off + z.cells.toList.length ≤ C.size := by simp only [Array.length_toList]; omega
      have hpc := put_cells (C := C) (k := (μ o).base + i * esz + off) (ys := z.cells.toList) hfit'
      have hSb : ∀ c, S c → (w.setRow b (C.toList.take ((μ o).base + i * esz + off) ++ z.cells.toList ++ C.toList.drop ((μ o).base + i * esz + off + z.cells.toList.length)).toArray).heap[c]? = w.heap[c]? := fun c hc => setRow_other w b c _ fun e => (g.hok.own o b hlive hb).1 (e ▸ hc)
      have g' := g.place (placed_set hol (.xarr m esz (storeD cell i off vs))) (μ o) (.inl rfl) (w' := w.setRow b (C.toList.take ((μ o).base + i * esz + off) ++ z.cells.toList ++ C.toList.drop ((μ o).base + i * esz + off + z.cells.toList.length)).toArray) rfl rfl rfl (by rw [setRow_size]; exact Nat.le_refl _)
        (fun c _ hne => setRow_other w b c _ fun e => hne (by subst e; exact .inl hb)) (fun c hc => ⟨(g.hok.owns o c ⟨_, hH, hc⟩).1, by rw [setRow_size]; exact (g.hok.owns o c ⟨_, hH, hc⟩).2, fun k hk hkc => g.hok.seps k o c hk hkc ⟨_, hH, hc⟩, g.mines o c ⟨_, hH, hc⟩⟩)
        (by
          rw [upd_id]
          refine ⟨hesz, hinn, ?_⟩
          rw [hb]
          refine ⟨hmc, _, T, setRow_heap w b C _ T (0, 0) hC, by rw [(hpc 0).1]; exact hfitC, fun i' hi' j' hj' => ?_⟩
          obtain ⟨x, h5, h6⟩ := hx i' hi' j' hj'
          rw [(hpc _).2]
          simp only [Array.length_toList]
          by_cases hin : i' = i ∧ off ≤ j' ∧ j' < off + vs.length
          · obtain ⟨rfl, hj1, hj2⟩ := hin
            have hvj : vs[j' - off]? = some vs[j' - off] := List.getElem?_eq_getElem (by omega)
            obtain ⟨u, h7, h8⟩ := RelL_get hv hvj
            obtain ⟨q, q1, q2, q3⟩ := hpl _ _ _ hvj h7
            refine ⟨u, ?_, ?_⟩
            · rw [if_pos (by omega), ← h7]; congr 1; omega
            · have e1 : storeD cell i' off vs i' j' = vs[j' - off] := by
                unfold storeD
                rw [ble_iff.2 hj1, blt_iff.2 hj2, beq_iff.2 rfl]
                simp only [Bool.and_self, cond_true]
                rw [List.getD_eq_getElem?_getD, hvj]; rfl
              rw [e1, q1]
              exact ⟨q2, q3⟩
          · refine ⟨x, ?_, ?_⟩
            · rw [if_neg, h5]
              intro hcon
              apply hin
              have hii : i' = i := by
                rcases Nat.lt_trichotomy i' i with h9 | h9 | h9
                · have : i' * esz + esz ≤ i * esz := by rw [← Nat.succ_mul]; exact Nat.mul_le_mul_right _ h9
                  omega
                · exact h9
                · have : i * esz + esz ≤ i' * esz := by rw [← Nat.succ_mul]; exact Nat.mul_le_mul_right _ h9
                  omega
              subst hii
              exact ⟨rfl, by omega, by omega⟩
            · have e1 : storeD cell i off vs i' j' = cell i' j' := by
                unfold storeD
                cases hb' : Nat.ble off j' && Nat.blt j' (off + vs.length) && Nat.beq i' i
                · rfl
                · simp only [Bool.and_eq_true] at hb'
                  exact absurd ⟨beq_iff.1 hb'.2, ble_iff.1 hb'.1.1, blt_iff.1 hb'.1.2⟩ hin
              rw [e1]
              exact RelX_mono (fun _ h => h) hSb (fun v hv' c hc => setRow_other w b c _ fun e => (hinn i' j' v hv').1 c hc (by rw [hb, e])) h6)
        (fun cs' hcs' => by cases hcs')
      rw [upd_id] at g'
      exact ⟨_, _, S, μ, run b _ C T hC hfit' hone, h, g'⟩
    · exact h.elim
  · exact h.elim

theorem storeX_sound (g : Good E st a w S μ) {t : TypeId} {av : AV} {y z : Value} {vs : List AV} {K : List AObj → Prop} (hr : Rel S μ w av y) (hv : RelL S μ w vs z.cells.toList) (hm : ∀ k, st.H.length ≤ k → mentL k vs = false)
    (hl : vs.length = P.cellsOf t) (hpos : P.cellsOf t ≠ 0) (h : aStoreX av vs st.H K) : ∃ w' H' S' μ', (Instr.storeAt t y z).run P w = .ok () w' ∧ K H' ∧ Good E { st with H := H' } a w' S' μ' := by
  unfold aStoreX at h
  split at h
  · rename_i o hxo
    split at h
    · rename_i p vs' hux
      obtain ⟨hp, h⟩ := need_elim h
      have hg : ∃ S', (∀ b, S b → S' b) ∧ (∀ b, (∃ n e c, st.H[o]? = some (AObj.xarr n e c)) ∧ InB (μ o) b → S' b) ∧ Good E { st with H := thO st.H o } a w S' μ := by
        unfold Cg.thO
        split
        · rename_i n e c hl
          exact ⟨_, fun _ h => .inl h, fun b hb => .inr hb.2, g.thaw (H_getD hl (by simp))⟩
        · rename_i hno
          refine ⟨S, fun _ h => h, fun b hb => ?_, g⟩
          obtain ⟨⟨n, e, c, hx⟩, _⟩ := hb
          exact absurd (by simp [hx]) (hno n e c)
      obtain ⟨S', hS1, hS2, g'⟩ := hg
      obtain ⟨h1, h2, h3⟩ := unxL_sound (S' := S') g (fun b hb => hb.elim (hS1 b) (hS2 b)) hux hp hv
      exact storeD_sound (st := { st with H := thO st.H o }) g' (Rel_mono hS1 (fun _ _ => rfl) _ _ (fun _ _ => rfl) hr) h1 (fun k _ => mentL_of fun v hv => isImm_ment v (h2 v hv)) (by rw [← RelL_length h1, RelL_length hv]; exact hl) hpos h
    · exact storeD_sound g hr hv hm hl hpos h
  · cases hsc : aScal av vs st.H with
    | true => rw [hsc] at h; exact storeS_sound g hr hv hl hpos hsc h
    | false => rw [hsc] at h; exact storeD_sound g hr hv hm hl hpos h

theorem appendX_sound (g : Good E st a w S μ) {t e : TypeId} {z : List AV} (ty : TypeId) (he : elemOf P t = some e) (hz : zeroCells P e = some z) (hzl : z.length = P.cellsOf e) (hpos : 0 < z.length) (hbp : 0 < P.bytesOf e)
    {dst src : AV} {x y : Value} (hd : Rel S μ w dst y) (hs : Rel S μ w src x) (hdm : ∀ k, st.H.length ≤ k → ment k dst = false) (h : aAppendX P e dst src st.H K) : ERun E st a K ((Builtin.append_ #[t, t] ty #[y, x]).run P w) := by
  unfold aAppendX at h
  split at h
  · rename_i o i j n
    split at h
    · rename_i k esz cell hl
      have hl := H_getD hl (by simp)
      split at h
      · rename_i n' e' c' p m esz' b hcell hrows
        obtain ⟨hc, h0⟩ := bif_true h
        clear h
        simp only [Bool.and_eq_true] at hc
        have h1 := Nat.eq_of_beq_eq_true hc.1
        have h2 := Nat.eq_of_beq_eq_true hc.2
        subst h1
        subst h2
        obtain ⟨hp, hn, hi, hj, hbd, hK⟩ := need_elim h0
        exact grow_sound g ty he hz hzl hpos hbp hd hs hl hcell hrows hp hn hi hj hbd hK
      · exact h.elim
    · exact h.elim
  · rename_i A lo n
    split at h
    · rename_i len cs
      obtain ⟨hc, h0⟩ := bif_true h
      clear h
      simp only [Bool.and_eq_true] at hc
      have hlen := Nat.eq_of_beq_eq_true hc.1
      have hcl := Nat.eq_of_beq_eq_true hc.2
      subst hlen
      split at h0
      · rename_i j o lo' n1 hown
        split at h0
        · rename_i k esz ac m1 e1 c1 hlA hlo
          have hlA := H_getD hlA (by simp)
          have hlo := H_getD hlo (by simp)
          obtain ⟨hc2, hn, hlo', hfl, hbd, hK⟩ := bif_true h0
          clear h0
          simp only [Bool.and_eq_true, Bool.not_eq_true'] at hc2
          have h1 := Nat.eq_of_beq_eq_true hc2.1.1.1
          have h2 := Nat.eq_of_beq_eq_true hc2.1.1.2
          subst h1
          subst h2
          have hne : A ≠ o := fun e => by subst e; have := hc2.2; rw [show Nat.beq A A = true from Nat.beq_refl A] at this; cases this
          have hat := (ownAt_spec hown).2
          rw [Nat.sub_zero] at hat
          refine laid_sound g ty he hz hzl hpos hbp hd hs hlA hlo hat (fun j' hj' v hv => ?_) hcl hne hn (fits_arr g.hok hlo hfl hlo') hbd hK
          have := List.all_eq_true.1 hc2.1.2 v (List.mem_of_getElem? (i := j') (by rw [List.getElem?_set_ne (Ne.symm hj')]; exact hv))
          exact this
        · rename_i k esz ac m1 e1 c1 hlA hlo
          have hlA := H_getD hlA (by simp)
          have hlo := H_getD hlo (by simp)
          obtain ⟨hc2, hn, hlo', hbd, hK⟩ := bif_true h0
          clear h0
          simp only [Bool.and_eq_true, Bool.not_eq_true'] at hc2
          have h1 := Nat.eq_of_beq_eq_true hc2.1.1.1
          have h2 := Nat.eq_of_beq_eq_true hc2.1.1.2
          subst h1
          subst h2
          have hne : A ≠ o := fun e => by subst e; have := hc2.2; rw [show Nat.beq A A = true from Nat.beq_refl A] at this; cases this
          have hat := (ownAt_spec hown).2
          rw [Nat.sub_zero] at hat
          refine laid_sound g ty he hz hzl hpos hbp hd hs hlA hlo hat (fun j' hj' v hv => ?_) hcl hne hn (fits_xarr g.hok hlo hlo') hbd hK
          have := List.all_eq_true.1 hc2.1.2 v (List.mem_of_getElem? (i := j') (by rw [List.getElem?_set_ne (Ne.symm hj')]; exact hv))
          exact this
        · rename_i m1 e1 c1 hlA hlo
          have hlo := H_getD hlo (by simp)
          obtain ⟨hc2, hlo', h⟩ := bif_true h0
          clear h0
          simp only [Bool.and_eq_true, Bool.not_eq_true'] at hc2
          have hat := (ownAt_spec hown).2
          rw [Nat.sub_zero] at hat
          obtain ⟨bb, Cb, Tb, frb, rfl, hSb, hCb, hcs⟩ := hs
          have g' := g.frz hlo
          have hcs' := RelL_mono (S' := fun b => S b ∨ (μ o).b = some b) (w' := w) (fun _ h => .inl h) (fun _ _ => rfl) _ _ (fun _ _ => rfl) hcs
          refine append_sound (st := { st with H := st.H.set o (.fro m1 e1 c1) }) g' ty he hz hzl hpos hbp (src := .lit 1 (P.cellsOf e) (rowsCell [cs.set j (.sl n1 e1 (fun i j => c1 (i + lo') j))])) (Rel_mono (fun _ h => .inl h) (fun _ _ => rfl) _ _ (fun _ _ => rfl) hd) ⟨_, rfl, .inr ⟨bb, 0, rfl, .inl hSb, Cb, Tb, frb, hCb, fun i hi jj hjj => ?_⟩⟩ (fun k hk => hdm k (by simpa using hk)) h
          have hi0 : i = 0 := by omega
          subst hi0
          have hl2 := RelL_length hcs
          simp only [Array.length_toList] at hl2
          have hjc : jj < cs.length := by omega
          have e2 : rowsCell [cs.set j (.sl n1 e1 (fun i j => c1 (i + lo') j))] 0 jj = (cs.set j (.sl n1 e1 (fun i j => c1 (i + lo') j))).getD jj .any := rfl
          rw [e2]
          by_cases hj : jj = j
          · subst hj
            obtain ⟨u, h5, h6⟩ := RelL_get hcs' hat
            refine ⟨u, by rw [← h5, Array.getElem?_toList]; congr 1; omega, ?_⟩
            rw [List.getD_eq_getElem?_getD, List.getElem?_set_self hjc]
            have := thawX_sound g'.hok (o := o) (lo := lo') (n := n1) (m := m1) (e := e1) (c := c1) (List.getElem?_set_self (List.getElem?_eq_some_iff.1 hlo).1) hlo' h6
            exact this
          · have hv : cs[jj]? = some cs[jj] := List.getElem?_eq_getElem hjc
            obtain ⟨u, h5, h6⟩ := RelL_get hcs' hv
            refine ⟨u, by rw [← h5, Array.getElem?_toList]; congr 1; omega, ?_⟩
            rw [List.getD_eq_getElem?_getD, List.getElem?_set_ne (Ne.symm hj), hv]
            obtain ⟨x, hx, hx1⟩ := plain_one (List.all_eq_true.1 hc2.1 cs[jj] (List.mem_of_getElem? (i := jj) (by rw [List.getElem?_set_ne (Ne.symm hj)]; exact hv)))
            show RelI _ w cs[jj] u
            rw [hx] at h6 ⊢
            have h6 : u = x := h6
            subst h6
            exact ⟨rfl, hx1⟩
        · exact h0.elim
      · split at h0
        · rename_i p cs' hux
          obtain ⟨hp, h⟩ := need_elim h0
          clear h0
          obtain ⟨bb, Cb, Tb, frb, rfl, hSb, hCb, hcs⟩ := hs
          -- given up for good
          have main : ∀ S', (∀ b, S b → S' b) → (∀ b, (∃ n e c, st.H[A]? = some (AObj.xarr n e c)) ∧ InB (μ A) b → S' b) → Good E { st with H := thO st.H A } a w S' μ → ERun E st a K ((Builtin.append_ #[t, t] ty #[y, .slice (some ⟨bb, 0, none⟩) 1 1]).run P w) := fun S' hS1 hS2 g' => by
            obtain ⟨h1, h2, h3⟩ := unxL_sound (S' := S') g (fun b hb => hb.elim (hS1 b) (hS2 b)) hux hp hcs
            refine append_sound (st := { st with H := thO st.H A }) g' ty he hz hzl hpos hbp (src := .lit 1 (P.cellsOf e) (rowsCell [cs'])) (Rel_mono hS1 (fun _ _ => rfl) _ _ (fun _ _ => rfl) hd) ⟨_, rfl, .inr ⟨bb, 0, rfl, hS1 bb hSb, Cb, Tb, frb, hCb, fun i hi j hj => ?_⟩⟩ (fun k hk => hdm k (by rw [← thO_len st.H A]; exact hk)) h
            have hi0 : i = 0 := by omega
            subst hi0
            have hl1 := RelL_length h1
            have hl2 := RelL_length hcs
            simp only [Array.length_toList] at hl1 hl2
            have hv : cs'[j]? = some cs'[j] := List.getElem?_eq_getElem (by omega)
            obtain ⟨u, h4, h5⟩ := RelL_get h1 hv
            have e1 : rowsCell [cs'] 0 j = cs'[j] := by show cs'.getD j .any = _; rw [List.getD_eq_getElem?_getD, hv]; rfl
            rw [e1]
            refine ⟨u, by rw [← h4, Array.getElem?_toList]; congr 1; omega, RelI_of_Rel (h2 _ (List.getElem_mem _)) (h3 u (List.mem_of_getElem? h4)) h5⟩
          by_cases hx : ∃ n e c, st.H[A]? = some (AObj.xarr n e c)
          · obtain ⟨n', e', c', hx⟩ := hx
            have et : thO st.H A = st.H.set A (.arr n' e' c') := by unfold thO; rw [List.getD_eq_getElem?_getD, hx]; rfl
            exact main (fun b => S b ∨ InB (μ A) b) (fun _ h => .inl h) (fun _ h => .inr h.2) (by rw [et]; exact g.thaw hx)
          · obtain ⟨S', hS1, g'⟩ := g.thO A
            exact main S' hS1 (fun b hb => absurd hb.1 hx) g'
        · exact h0.elim
    · obtain ⟨S', hS, g'⟩ := g.thO A
      exact append_sound (st := { st with H := thO st.H A }) g' ty he hz hzl hpos hbp (Rel_mono hS (fun _ _ => rfl) _ _ (fun _ _ => rfl) hd) (Rel_mono hS (fun _ _ => rfl) _ _ (fun _ _ => rfl) hs) (fun k hk => hdm k (by rw [← thO_len st.H A]; exact hk)) h
  · exact append_sound g ty he hz hzl hpos hbp hd hs hdm h

end
end Cg

/-
  A row with slices of the call's own is stored into an object of the call's own; a new object of empty rows. No condition.
-/
namespace Cg
open Go

section
variable {P : Program} {S : Nat → Prop} {μ : Nat → OI} {w : World} {E : Ent} {st : St} {a : Act} {K : AV → List AObj → Prop}

mutual
/-- What names no slice within an object reads the same whatever it owns within. -/
theorem Rel_noX {k : Nat} {q : OI} (hb : q.b = (μ k).b) (hs : q.base = (μ k).base) (hc : q.cap = (μ k).cap) (he : q.esz = (μ k).esz) : ∀ (a : AV) (y : Value), noX k a = true → Rel S μ w a y → Rel S (upd μ k q) w a y
  | .v _, _, _, h => h
  | .any, _, _, _ => trivial
  | .agg cs, y, hn, h => by
    obtain ⟨vs, rfl, h⟩ := h
    exact ⟨vs, rfl, RelL_noX hb hs hc he cs vs hn h⟩
  | .tup cs, y, hn, h => by
    obtain ⟨vs, rfl, h⟩ := h
    exact ⟨vs, rfl, RelL_noX hb hs hc he cs vs hn h⟩
  | .fn f cs, y, hn, h => by
    obtain ⟨vs, rfl, h⟩ := h
    exact ⟨vs, rfl, RelL_noX hb hs hc he cs vs hn h⟩
  | .sl n esz cell, y, _, h => h
  | .lit n esz cell, y, _, h => h
  | .hdr x n esz cell, y, _, h => h
  | .el n esz cell i off, y, _, h => h
  | .ptr o off, y, _, h => by
    by_cases ho : o = k
    · subst ho; unfold Rel at *; rw [upd_same, hb]; exact h
    · unfold Rel at *; rw [upd_other _ _ ho]; exact h
  | .osl o lo n, y, _, h => by
    by_cases ho : o = k
    · subst ho; unfold Rel at *; rw [upd_same, hb, hs, hc, he]; exact h
    · unfold Rel at *; rw [upd_other _ _ ho]; exact h
  | .oel o i off, y, _, h => by
    by_cases ho : o = k
    · subst ho; unfold Rel at *; rw [upd_same, hb, hs, hc, he]; exact h
    · unfold Rel at *; rw [upd_other _ _ ho]; exact h
  | .xsl o i j n, y, hn, h => by
    have ho : o ≠ k := fun e => by subst e; unfold noX at hn; rw [show Nat.beq o o = true from Nat.beq_refl o] at hn; cases hn
    unfold Rel at *; rw [upd_other _ _ ho]; exact h
  | .olit n cs, y, hn, h => by
    obtain ⟨b, c, T, fr, h1, h2, h3, h4⟩ := h
    exact ⟨b, c, T, fr, h1, h2, h3, RelL_noX hb hs hc he cs _ hn h4⟩
theorem RelL_noX {k : Nat} {q : OI} (hb : q.b = (μ k).b) (hs : q.base = (μ k).base) (hc : q.cap = (μ k).cap) (he : q.esz = (μ k).esz) : ∀ (as : List AV) (ys : List Value), noXL k as = true → RelL S μ w as ys → RelL S (upd μ k q) w as ys
  | [], _, _, h => h
  | a :: as, ys, hn, h => by
    obtain ⟨y, r, rfl, h1, h2⟩ := h
    unfold noXL at hn
    simp only [Bool.and_eq_true] at hn
    exact ⟨y, r, rfl, Rel_noX hb hs hc he a y hn.1 h1, RelL_noX hb hs hc he as r hn.2 h2⟩
end

/-- An object in its own place, though what it owns within has turned. -/
theorem Good.placeG (g : Good E st a w S μ) {H' : List AObj} {o : Nat} {x : AObj} (hP : Placed st.H H' o x) (q : OI) (hbase : E.H.length ≤ o) (hqb : q.b = (μ o).b) (hqs : q.base = (μ o).base) (hqc : q.cap = (μ o).cap) (hqe : q.esz = (μ o).esz)
    (hfr : noXL o st.fr = true) (hvar : ∀ (k : Nat) (cs : List AV), st.H[k]? = some (AObj.var cs) → noXL o cs = true)
    {w' : World} (hos : w'.os = w.os) (htape : w'.tape = w.tape) (hout : w'.output = w.output) (hsz : w.heap.size ≤ w'.heap.size) (hw : ∀ b, b < w.heap.size → ¬ HasB x q b → w'.heap[b]? = w.heap[b]?)
    (hq : ∀ b, HasB x q b → ¬ S b ∧ b < w'.heap.size ∧ (∀ k, k ≠ o → ¬ Own μ st.H k b) ∧ (E.w.heap.size ≤ b ∨ Blk E.μ E.H b))
    (hx : ObjRel S (upd μ o q) w' o x) (hids : ∀ cs, x ≠ .var cs) : Good E { st with H := H' } a w' S (upd μ o q) := by
  have hSb : ∀ k, S k → w'.heap[k]? = w.heap[k]? := fun k hk => hw k (g.hok.inS k hk) fun e => (hq k e).1 hk
  exact {
    defers := g.defers
    fr := RelL_mono (fun _ h => h) hSb _ _ (fun _ _ => rfl) (RelL_noX hqb hqs hqc hqe _ _ hfr g.fr)
    ids := fun k hk => g.ids k (Nat.le_trans hP.len hk)
    hok := {
      obj := fun k y hk => by
        by_cases hko : k = o
        · subst hko
          rw [hP.at_] at hk; cases hk; exact hx
        · rw [hP.other k hko] at hk
          have hO := g.hok.obj k y hk
          have hbk : ∀ c, HasB y (μ k) c → w'.heap[c]? = w.heap[c]? := fun c hc => hw c (g.hok.owns k c ⟨y, hk, hc⟩).2 fun e => (hq c e).2.2.1 k hko ⟨y, hk, hc⟩
          by_cases hv : ∃ cs, y = .var cs
          · obtain ⟨cs, rfl⟩ := hv
            obtain ⟨b, c, T, h1, h2, h3, h4⟩ := hO
            refine ⟨b, c, T, by rw [upd_other _ _ hko]; exact h1, by rw [hbk b h1]; exact h2, RelL_mono (fun _ h => h) hSb _ _ (fun _ _ => rfl) (RelL_noX hqb hqs hqc hqe _ _ (hvar k cs hk) h3), h4⟩
          · exact ObjRel_mono (fun _ h => h) hSb (upd_other _ _ hko) (fun cs hcs => absurd ⟨cs, hcs⟩ hv) hbk hO
      ids := fun k cs hk j hj => by
        by_cases hko : k = o
        · subst hko
          rw [hP.at_] at hk; cases hk; exact absurd rfl (hids cs)
        · rw [hP.other k hko] at hk
          exact g.hok.ids k cs hk j (Nat.le_trans hP.len hj)
      seps := fun k k' c hne hc hc' => by
        by_cases hko : k = o
        · subst hko
          exact (hq c ((Own.at_ hP).1 hc)).2.2.1 k' (Ne.symm hne) ((Own.other hP (Ne.symm hne)).1 hc')
        · by_cases hko' : k' = o
          · subst hko'
            exact (hq c ((Own.at_ hP).1 hc')).2.2.1 k hko ((Own.other hP hko).1 hc)
          · exact g.hok.seps k k' c hne ((Own.other hP hko).1 hc) ((Own.other hP hko').1 hc')
      owns := fun k c hc => by
        by_cases hko : k = o
        · subst hko
          have hc := (Own.at_ hP).1 hc
          exact ⟨(hq c hc).1, (hq c hc).2.1⟩
        · obtain ⟨h1, h2⟩ := g.hok.owns k c ((Own.other hP hko).1 hc)
          exact ⟨h1, Nat.lt_of_lt_of_le h2 hsz⟩
      inS := fun c hc => Nat.lt_of_lt_of_le (g.hok.inS c hc) hsz
      gl := g.hok.gl.mono (fun _ h => h) hSb }
    sub := g.sub
    new := g.new
    mu := fun k hk => by
      have : k ≠ o := by omega
      rw [upd_other _ _ this]; exact g.mu k hk
    len := Nat.le_trans g.len hP.len
    kept := ⟨hos.trans g.kept.os, htape.trans g.kept.tape, hout.trans g.kept.output, Nat.le_trans g.kept.size hsz, fun b hb hn => by
      rw [hw b (Nat.lt_of_lt_of_le hb g.kept.size) fun e => ?_]
      · exact g.kept.block b hb hn
      · rcases (hq b e).2.2.2 with h | h
        · omega
        · exact hn h⟩
    mines := fun k b hb => by
      by_cases hko : k = o
      · subst hko
        exact (hq b ((Own.at_ hP).1 hb)).2.2.2
      · exact g.mines k b ((Own.other hP hko).1 hb) }

/-! ### Objects that are given up -/

theorem killAll_len (H : List AObj) : ∀ ds : List Nat, (killAll H ds).length = H.length
  | [] => rfl
  | d :: ds => by show (killAll (H.set d .dead) ds).length = _; rw [killAll_len _ ds]; simp
theorem killAll_own {H : List AObj} {k b : Nat} : ∀ {ds : List Nat}, Own μ (killAll H ds) k b → k ∉ ds ∧ Own μ H k b
  | [], h => ⟨by simp, h⟩
  | d :: ds, h => by
    obtain ⟨h1, h2⟩ := killAll_own (ds := ds) h
    obtain ⟨h3, h4⟩ := own_dead h2
    exact ⟨by simp only [List.mem_cons, not_or]; exact ⟨h3, h1⟩, h4⟩
theorem killAll_get {H : List AObj} {k : Nat} : ∀ {ds : List Nat}, k ∉ ds → (killAll H ds)[k]? = H[k]?
  | [], _ => rfl
  | d :: ds, h => by
    simp only [List.mem_cons, not_or] at h
    show (killAll (H.set d .dead) ds)[k]? = _
    rw [killAll_get h.2, List.getElem?_set_ne (Ne.symm h.1)]
theorem killAll_var {H : List AObj} {k : Nat} {cs : List AV} : ∀ {ds : List Nat}, (killAll H ds)[k]? = some (.var cs) → H[k]? = some (.var cs)
  | [], h => h
  | d :: ds, h => by
    have := killAll_var (ds := ds) h
    rw [List.getElem?_set] at this
    split at this
    · split at this <;> cases this
    · exact this
theorem Good.killAll {st : St} : ∀ {ds : List Nat} {H : List AObj}, Good E ⟨st.fr, H⟩ a w S μ → (∀ d ∈ ds, d < H.length) → Good E ⟨st.fr, Cg.killAll H ds⟩ a w S μ
  | [], _, g, _ => g
  | d :: ds, H, g, h => Good.killAll (st := st) (ds := ds) (g.kill (h d List.mem_cons_self)) fun x hx => by simpa using h x (List.mem_cons_of_mem _ hx)

/-! ### Rows with slices of the call's own -/

theorem any_beq {o : Nat} {ds : List Nat} (h : ds.any (Nat.beq o) = false) : o ∉ ds := fun hm => by
  have : ds.any (Nat.beq o) = true := List.any_eq_true.2 ⟨o, hm, Nat.beq_refl o⟩
  rw [this] at h; cases h

/-- What a row's cells are, once they lie within an object. -/
structure RowOwn (S : Nat → Prop) (μ : Nat → OI) (w : World) (H : List AObj) (k : Nat) (vs cs : List AV) (ds : List Nat) (ys : List Value) (vo : Nat → Option Inn) : Prop where
  len : cs.length = vs.length
  own : ∀ j u, vo j = some u → j < vs.length ∧ ∃ o ∈ ds, ∀ b, InT u b → Own μ H o b
  dis : ∀ j j' u u' b, vo j = some u → vo j' = some u' → InT u b → InT u' b → j = j'
  rel : ∀ j c, cs[j]? = some c → ∃ y, ys[j]? = some y ∧ RelX0 w c (fun _ _ => vo j) 0 0 y
  one : ∀ y ∈ ys, isOne y = true
  objs : ∀ d ∈ ds, d ≠ k ∧ d < H.length

theorem ownRow_sound {H : List AObj} (hok : HOK S μ w H) {k : Nat} : ∀ {vs cs : List AV} {p : List Prop} {ds : List Nat} {ys : List Value}, ownRow H k vs = some (p, cs, ds) → (∀ q ∈ p, q) → RelL S μ w vs ys → ∃ vo, RowOwn S μ w H k vs cs ds ys vo
  | [], cs, p, ds, ys, h, _, hr => by
    simp only [ownRow, Option.some.injEq, Prod.mk.injEq] at h
    obtain ⟨_, rfl, rfl⟩ := h
    have hr : ys = [] := hr
    subst hr
    exact ⟨fun _ => none, rfl, fun j u hu => (by cases hu), fun j j' u u' b hu => (by cases hu), fun j c hc => by simp at hc, fun y hy => (by cases hy), fun d hd => (by cases hd)⟩
  | c0 :: vs, cs, p, ds, ys, h, hp, hr => by
    obtain ⟨y, r, rfl, hr1, hr2⟩ := hr
    have step : ∀ (p' : List Prop) (cs' : List AV) (ds' : List Nat) (c1 : AV) (v0 : Option Inn), ownRow H k vs = some (p', cs', ds') → (∀ q ∈ p', q) → cs = c1 :: cs' → (∀ d ∈ ds', d ∈ ds) → RelX0 w c1 (fun _ _ => v0) 0 0 y → isOne y = true →
        (∀ u, v0 = some u → ∃ o ∈ ds, o ∉ ds' ∧ ∀ b, InT u b → Own μ H o b) → (∀ d ∈ ds, d ≠ k ∧ d < H.length) → ∃ vo, RowOwn S μ w H k (c0 :: vs) cs ds (y :: r) vo := fun p' cs' ds' c1 v0 h' hp' hcs hds hx hy hv hobj => by
      obtain ⟨vo, R⟩ := ownRow_sound hok h' hp' hr2
      subst hcs
      refine ⟨fun j => match j with | 0 => v0 | j + 1 => vo j, by simp [R.len], fun j u hu => ?_, fun j j' u u' b hu hu' hb hb' => ?_, fun j c hc => ?_, fun z hz => ?_, hobj⟩
      · cases j with
        | zero =>
          obtain ⟨o, h1, _, h2⟩ := hv u hu
          exact ⟨by simp, o, h1, h2⟩
        | succ j =>
          obtain ⟨h1, o, h2, h3⟩ := R.own j u hu
          exact ⟨by simp; exact h1, o, hds o h2, h3⟩
      · cases j with
        | zero => cases j' with
          | zero => rfl
          | succ j' =>
            obtain ⟨o, h1, h2, h3⟩ := hv u hu
            obtain ⟨_, o', h4, h5⟩ := R.own j' u' hu'
            exact absurd (h5 b hb') (hok.seps o o' b (fun e => h2 (e ▸ h4)) (h3 b hb))
        | succ j => cases j' with
          | zero =>
            obtain ⟨o, h1, h2, h3⟩ := hv u' hu'
            obtain ⟨_, o', h4, h5⟩ := R.own j u hu
            exact absurd (h5 b hb) (hok.seps o o' b (fun e => h2 (e ▸ h4)) (h3 b hb'))
          | succ j' => rw [R.dis j j' u u' b hu hu' hb hb']
      · cases j with
        | zero => simp at hc; subst hc; exact ⟨y, rfl, hx⟩
        | succ j => simp at hc; obtain ⟨z, h1, h2⟩ := R.rel j c hc; exact ⟨z, by simpa using h1, h2⟩
      · rcases List.mem_cons.1 hz with rfl | hz
        · exact hy
        · exact R.one z hz
    have plain : ∀ {x : AV}, c0 = x → plainA x = true → (match ownRow H k vs with
        | some (p, cs, ds) => some (p, x :: cs, ds)
        | none => none) = some (p, cs, ds) → ∃ vo, RowOwn S μ w H k (c0 :: vs) cs ds (y :: r) vo := fun {x} e hpl h => by
      subst e
      split at h
      · rename_i p' cs' ds' h'
        simp only [Option.some.injEq, Prod.mk.injEq] at h
        obtain ⟨rfl, rfl, rfl⟩ := h
        obtain ⟨x0, rfl, h1⟩ := plain_one hpl
        have hr1 : y = x0 := hr1
        subst hr1
        obtain ⟨_, R⟩ := ownRow_sound hok h' hp hr2
        exact step _ _ _ _ none h' hp rfl (fun _ h => h) ⟨rfl, h1⟩ h1 (fun u hu => (by cases hu)) R.objs
      · cases h
    unfold ownRow at h
    split at h
    · rename_i h0; cases h0
    · rename_i o lo n r' heq
      cases heq
      split at h
      · rename_i p' cs' ds' h'
        cases hb : !(Nat.beq o k) && !(ds'.any (Nat.beq o))
        · rw [hb] at h; cases h
        rw [hb] at h
        simp only [cond_true] at h
        simp only [Bool.and_eq_true, Bool.not_eq_true'] at hb
        have hok' : o ≠ k := fun e => by subst e; rw [show Nat.beq o o = true from Nat.beq_refl o] at hb; cases hb.1
        have hnd := any_beq hb.2
        have one : isOne y = true := Rel_one (a := .osl o lo n) rfl hr1
        split at h
        · rename_i m e c hl
          have hl := H_getD hl (by simp)
          simp only [Option.some.injEq, Prod.mk.injEq] at h
          obtain ⟨rfl, rfl, rfl⟩ := h
          obtain ⟨_, R⟩ := ownRow_sound hok h' (fun q hq => hp q (List.mem_cons_of_mem _ hq)) hr2
          obtain ⟨v0, f1, f2⟩ := fits_xarr hok hl (hp _ List.mem_cons_self)
          exact step _ _ _ _ v0 h' (fun q hq => hp q (List.mem_cons_of_mem _ hq)) rfl (fun d hd => List.mem_cons_of_mem _ hd) (f2 y hr1) one (fun u hu => ⟨o, List.mem_cons_self, hnd, f1 u hu⟩) fun d hd => by
            rcases List.mem_cons.1 hd with rfl | hd
            · exact ⟨hok', (List.getElem?_eq_some_iff.1 hl).1⟩
            · exact R.objs d hd
        · rename_i m e c hl
          have hl := H_getD hl (by simp)
          simp only [Option.some.injEq, Prod.mk.injEq] at h
          obtain ⟨rfl, rfl, rfl⟩ := h
          have hp' : ∀ q ∈ p', q := fun q hq => hp q (List.mem_cons_of_mem _ (List.mem_cons_of_mem _ hq))
          obtain ⟨_, R⟩ := ownRow_sound hok h' hp' hr2
          obtain ⟨v0, f1, f2⟩ := fits_arr hok hl (hp _ (List.mem_cons_of_mem _ List.mem_cons_self)) (hp _ List.mem_cons_self)
          exact step _ _ _ _ v0 h' hp' rfl (fun d hd => List.mem_cons_of_mem _ hd) (f2 y hr1) one (fun u hu => ⟨o, List.mem_cons_self, hnd, f1 u hu⟩) fun d hd => by
            rcases List.mem_cons.1 hd with rfl | hd
            · exact ⟨hok', (List.getElem?_eq_some_iff.1 hl).1⟩
            · exact R.objs d hd
        · cases h
      · cases h
    · rename_i a0 r0 hno heq
      cases heq
      cases hpl : plainA c0
      · rw [hpl] at h; cases h
      · rw [hpl] at h
        exact plain rfl hpl h

/-- The row is stored. -/
theorem storeO_sound (g : Good E st a w S μ) {t : TypeId} {y z : Value} {vs cs : List AV} {k i m esz : Nat} {cell : Nat → Nat → AV} {p : List Prop} {ds : List Nat} (hr : Rel S μ w (.oel k i 0) y) (hv : RelL S μ w vs z.cells.toList)
    (hH : st.H[k]? = some (.xarr m esz cell)) (hl : vs.length = esz) (ht : esz = P.cellsOf t) (hpos : 0 < esz) (hbase : E.H.length ≤ k) (hfr : noXL k st.fr = true) (hvar : noXH k st.H = true) (hrow : ownRow st.H k vs = some (p, cs, ds)) (hp : ∀ q ∈ p, q) (him : i < m) :
    ∃ w' μ', (Instr.storeAt t y z).run P w = .ok () w' ∧ Good E ⟨st.fr, (killAll st.H ds).set k (.xarr m esz (storeD cell i 0 cs))⟩ a w' S μ' := by
  obtain ⟨vo, R⟩ := ownRow_sound g.hok hrow hp hv
  have hzl := RelL_length hv
  simp only [Array.length_toList] at hzl
  obtain ⟨b, hb, hicap, rfl⟩ := hr
  obtain ⟨hesz, hinn, hO⟩ := g.hok.obj _ _ hH
  rw [hb] at hO hinn
  obtain ⟨hmc, C, T, hC, hfitC, hx⟩ := hO
  have hkl : k < st.H.length := (List.getElem?_eq_some_iff.1 hH).1
  have hkd : k ∉ ds := fun h => (R.objs k h).1 rfl
  have hmul : i * esz + esz ≤ (μ k).cap * esz := by rw [← Nat.succ_mul]; exact Nat.mul_le_mul_right _ hicap
  rw [hesz]
  have hfit' : (μ k).base + i * esz + 0 + z.cells.toList.length ≤ C.size := by simp only [Array.length_toList]; omega
  have hpc := put_cells (C := C) (k := (μ k).base + i * esz + 0) (ys := z.cells.toList) hfit'
  have run : (Instr.storeAt t (.pointer (some ⟨b, (μ k).base + i * esz + 0, none⟩)) z).run P w = .ok () (w.setRow b (C.toList.take ((μ k).base + i * esz + 0) ++ z.cells.toList ++ C.toList.drop ((μ k).base + i * esz + 0 + z.cells.toList.length)).toArray) := by
    have hst := run_storeCells_at P b ((μ k).base + i * esz + 0) T z.cells.toList 0 C w hC (by simpa using hfit') (fun u hu => oneCell_of (R.one u hu))
    have e0 : (μ k).base + i * esz + 0 + 0 = (μ k).base + i * esz + 0 := rfl
    rw [e0] at hst
    have hne : ¬ (z.cells.size ≠ P.cellsOf t) := by omega
    simp only [Instr.storeAt, Instr.sureAddr, storeVar, Sem.run_bind, Sem.run_pure, Result.andThen_ok, run_sizeOf (show P.cellsOf t ≠ 0 by omega)]
    rw [if_neg hne]
    exact hst
  generalize hw' : w.setRow b (C.toList.take ((μ k).base + i * esz + 0) ++ z.cells.toList ++ C.toList.drop ((μ k).base + i * esz + 0 + z.cells.toList.length)).toArray = w' at run
  have hoth : ∀ c, c ≠ b → w'.heap[c]? = w.heap[c]? := fun c hc => by rw [← hw']; exact setRow_other w b c _ hc
  have hws : w'.heap.size = w.heap.size := by rw [← hw', setRow_size]
  have ownK : ∀ c, (μ k).b = some c ∨ InB (μ k) c → Own μ st.H k c := fun c hc => ⟨_, hH, hc⟩
  have hbK := ownK b (.inl hb)
  have hnS : ¬ S b := (g.hok.owns k b hbK).1
  have hSb : ∀ c, S c → w'.heap[c]? = w.heap[c]? := fun c hc => hoth c fun e => hnS (e ▸ hc)
  have hvo : ∀ j u c, vo j = some u → InT u c → (∃ o, o ≠ k ∧ o ∈ ds ∧ Own μ st.H o c) ∧ c ≠ b := fun j u c hu hc => by
    obtain ⟨_, o, h1, h2⟩ := R.own j u hu
    have h3 := (R.objs o h1).1
    exact ⟨⟨o, h3, h1, h2 c hc⟩, fun e => g.hok.seps o k c h3 (h2 c hc) (e ▸ hbK)⟩
  have hold : ∀ i' j' v c, (μ k).inn i' j' = some v → InT v c → c ≠ b := fun i' j' v c hv' hc e => (hinn i' j' v hv').1 c hc (by rw [e])
  obtain ⟨inn', hinn'⟩ : ∃ inn' : Nat → Nat → Option Inn, inn' = fun i' j' => if i' = i then vo j' else (μ k).inn i' j' := ⟨_, rfl⟩
  have in1 : ∀ j', inn' i j' = vo j' := fun j' => by rw [hinn']; exact if_pos rfl
  have in2 : ∀ i' j', i' ≠ i → inn' i' j' = (μ k).inn i' j' := fun i' j' h => by rw [hinn']; exact if_neg h
  have g1 : Good E ⟨st.fr, killAll st.H ds⟩ a w S μ := Good.killAll (st := st) g fun d hd => (R.objs d hd).2
  have hkl' : k < (killAll st.H ds).length := by rw [killAll_len]; exact hkl
  refine ⟨w', upd μ k { μ k with inn := inn' }, run, g1.placeG (st := ⟨st.fr, killAll st.H ds⟩) (placed_set hkl' (.xarr m esz (storeD cell i 0 cs))) { μ k with inn := inn' } hbase rfl rfl rfl rfl hfr (fun k' cs' hk' => ?_) (by rw [← hw']; rfl) (by rw [← hw']; rfl) (by rw [← hw']; rfl) (by rw [hws]; exact Nat.le_refl _)
    (fun c _ hn => hoth c fun e => hn (.inl (by rw [e]; exact hb))) (fun c hc => ?_) ?_ (fun cs' => by simp)⟩
  · have := List.all_eq_true.1 hvar _ (List.mem_of_getElem? (killAll_var hk'))
    exact this
  · have old : ∀ o, (o = k ∨ o ∈ ds) → Own μ st.H o c → ¬ S c ∧ c < w'.heap.size ∧ (∀ k', k' ≠ k → ¬ Own μ (killAll st.H ds) k' c) ∧ (E.w.heap.size ≤ c ∨ Blk E.μ E.H c) := fun o ho h => by
      obtain ⟨h1, h2⟩ := g.hok.owns o c h
      refine ⟨h1, by rw [hws]; exact h2, fun k' hk' hk2 => ?_, g.mines o c h⟩
      obtain ⟨h3, h4⟩ := killAll_own hk2
      exact g.hok.seps k' o c (by rcases ho with rfl | ho; exact hk'; exact fun e => h3 (e ▸ ho)) h4 h
    rcases hc with hc | ⟨i', j', v, hv', hc⟩
    · exact old k (.inl rfl) (ownK c (.inl hc))
    · by_cases hi : i' = i
      · subst hi
        obtain ⟨⟨o, _, h1, h2⟩, _⟩ := hvo j' v c (by rw [← in1]; exact hv') hc
        exact old o (.inr h1) h2
      · exact old k (.inl rfl) (ownK c (.inr ⟨i', j', v, by rw [← in2 i' j' hi]; exact hv', hc⟩))
  · refine ⟨by rw [upd_same]; exact hesz, fun i' j' v hv' => ?_, ?_⟩
    · rw [upd_same] at hv' ⊢
      replace hv' : inn' i' j' = some v := hv'
      show (∀ c, InT v c → (μ k).b ≠ some c) ∧ i' < m ∧ j' < esz ∧ ∀ i2 j2 v2 c, inn' i2 j2 = some v2 → InT v c → InT v2 c → i2 = i' ∧ j2 = j'
      rw [hb]
      by_cases hi : i' = i
      · subst hi
        rw [in1] at hv'
        refine ⟨fun c hc e => (hvo j' v c hv' hc).2 (Option.some.inj e).symm, him, by rw [← hl]; exact (R.own j' v hv').1, fun i2 j2 v2 c hv2 hc hc2 => ?_⟩
        by_cases hi2 : i2 = i'
        · subst hi2
          rw [in1] at hv2
          exact ⟨rfl, R.dis _ _ _ _ c hv2 hv' hc2 hc⟩
        · rw [in2 _ _ hi2] at hv2
          obtain ⟨⟨o, h1, _, h3⟩, _⟩ := hvo j' v c hv' hc
          exact absurd (ownK c (.inr ⟨i2, j2, v2, hv2, hc2⟩)) (g.hok.seps o k c h1 h3)
      · rw [in2 _ _ hi] at hv'
        obtain ⟨h1, h2, h3, h4⟩ := hinn i' j' v hv'
        refine ⟨fun c hc => h1 c hc, h2, h3, fun i2 j2 v2 c hv2 hc hc2 => ?_⟩
        by_cases hi2 : i2 = i
        · subst hi2
          rw [in1] at hv2
          obtain ⟨⟨o, h5, _, h6⟩, _⟩ := hvo j2 v2 c hv2 hc2
          exact absurd (ownK c (.inr ⟨i', j', v, hv', hc⟩)) (g.hok.seps o k c h5 h6)
        · rw [in2 _ _ hi2] at hv2
          exact h4 i2 j2 v2 c hv2 hc hc2
    · rw [upd_same]
      show match (μ k).b with
        | none => m = 0
        | some b => m ≤ (μ k).cap ∧ ∃ c T, w'.heap[b]? = some (.cells c T (0, 0)) ∧ (μ k).base + (μ k).cap * esz ≤ c.size ∧
          ∀ i', i' < m → ∀ j', j' < esz → ∃ x, c[(μ k).base + i' * esz + j']? = some x ∧ RelX S inn' w' i' j' (storeD cell i 0 cs i' j') x
      rw [hb]
      refine ⟨hmc, _, T, by rw [← hw']; exact setRow_heap w b C _ T (0, 0) hC, by rw [(hpc 0).1]; exact hfitC, fun i' hi' j' hj' => ?_⟩
      obtain ⟨x, h5, h6⟩ := hx i' hi' j' hj'
      rw [(hpc _).2]
      simp only [Array.length_toList]
      by_cases hin : i' = i
      · subst hin
        have hjc : j' < cs.length := by rw [R.len]; omega
        have hcj : cs[j']? = some cs[j'] := List.getElem?_eq_getElem hjc
        obtain ⟨u, h7, h8⟩ := R.rel j' _ hcj
        refine ⟨u, ?_, ?_⟩
        · rw [if_pos (by omega), ← h7]; congr 1; omega
        · have e1 : storeD cell i' 0 cs i' j' = cs[j'] := by
            unfold storeD
            rw [ble_iff.2 (Nat.zero_le j'), blt_iff.2 (show j' < 0 + cs.length by rw [R.len]; omega), beq_iff.2 rfl]
            simp only [Bool.and_self, cond_true, Nat.sub_zero]
            rw [List.getD_eq_getElem?_getD, hcj]; rfl
          rw [e1]
          exact RelX0_inn (inn := fun _ _ => vo j') (i := 0) (j := 0) (in1 j').symm (RelX0_mono _ (fun v hv' c hc => hoth c (hvo j' v c hv' hc).2) h8)
      · refine ⟨x, ?_, ?_⟩
        · rw [if_neg, h5]
          intro hcon
          apply hin
          rcases Nat.lt_trichotomy i' i with h9 | h9 | h9
          · have : i' * esz + esz ≤ i * esz := by rw [← Nat.succ_mul]; exact Nat.mul_le_mul_right _ h9
            omega
          · exact h9
          · have : i * esz + esz ≤ i' * esz := by rw [← Nat.succ_mul]; exact Nat.mul_le_mul_right _ h9
            omega
        · have e1 : storeD cell i 0 cs i' j' = cell i' j' := by
            unfold storeD
            cases hb' : Nat.ble 0 j' && Nat.blt j' (0 + cs.length) && Nat.beq i' i
            · rfl
            · simp only [Bool.and_eq_true] at hb'
              exact absurd (beq_iff.1 hb'.2) hin
          rw [e1]
          exact RelX0_inn (inn := (μ k).inn) (i := i') (j := j') (in2 i' j' hin).symm (RelX0_mono _ (fun v hv' c hc => hoth c (hold i' j' v c hv' hc)) h6)

theorem ownStore_guard {base : Nat} {o : Oper} {s s' : St} {p : List Prop} (h : ownStore P base o s = some (p, s')) : o.guard = none := by
  unfold ownStore at h
  split at h
  · rename_i hg _; exact hg
  · cases h

theorem ownStore_sound {base : Nat} (hb : E.H.length = base) (hg : ∃ S μ, Good E st a w S μ) {o : Oper} {s' : St} {p : List Prop} (ho : ownStore P base o st = some (p, s')) (hp : ∀ q ∈ p, q) {next : Act → World → Prop} {Q : Exit → Act → World → Prop}
    (hn : ∀ a' w', (∃ S μ, Good E s' a' w' S μ) → next a' w') : o.wp P a w next Q := by
  obtain ⟨S, μ, g⟩ := hg
  obtain ⟨dst, op, type, pos, after, guard⟩ := o
  unfold ownStore at ho
  split at ho
  · rename_i t x y hgd hop
    simp only at hgd hop
    subst hgd; subst hop
    split at ho
    · rename_i k i off vs hx hy
      split at ho
      · rename_i m esz cell hl
        have hH := H_getD hl (by simp)
        cases hc : vs.any isOsl && Nat.beq off 0 && Nat.beq vs.length esz && Nat.beq esz (P.cellsOf t) && Nat.blt 0 esz && Nat.ble base k && noXL k st.fr && noXH k st.H
        · rw [hc] at ho; cases ho
        rw [hc] at ho
        simp only [cond_true] at ho
        simp only [Bool.and_eq_true] at hc
        obtain ⟨⟨⟨⟨⟨⟨⟨_, c1⟩, c2⟩, c3⟩, c4⟩, c5⟩, c6⟩, c7⟩ := hc
        split at ho
        · rename_i p' cs ds hrow
          simp only [Option.some.injEq, Prod.mk.injEq] at ho
          obtain ⟨rfl, rfl⟩ := ho
          have hoff := beq_iff.1 c1
          subst hoff
          have hrx := g.ev x
          rw [hx] at hrx
          obtain ⟨w', μ', hrun, g'⟩ := storeO_sound g hrx (Rel_cells hy (g.ev y)) hH (beq_iff.1 c2) (beq_iff.1 c3) (blt_iff.1 c4) (by rw [hb]; exact ble_iff.1 c5) c6 c7 hrow (fun q hq => hp q (List.mem_cons_of_mem _ hq)) (hp _ List.mem_cons_self)
          unfold Oper.wp
          have : (execOp a.eval ⟨dst, .store t x y, type, pos, after, none⟩).run P w = .ok .skip w' := by simp [execOp, hrun]
          rw [this]
          exact hn _ _ ⟨S, μ', g'.put dst rfl (fun _ _ => rfl)⟩
        · cases ho
      · cases ho
    · cases ho
  · cases ho

/-- New rows, whose slices are nil. -/
theorem makeX_sound (g : Good E st a w S μ) {t e : TypeId} {z : List AV} {kl kc : IntKind} {l c : Int} (he : elemOf P t = some e) (hz : zeroCells P e = some z) (hzl : z.length = P.cellsOf e)
    (hzn : z.all (fun a => plainA a || nilC a) = true) (h0 : 0 ≤ l) (hlc : l ≤ c) (hb : (P.bytesOf e : Int) * c ≤ 140737488355328) (hc : c ≤ 140737488355328)
    (hK : K (.osl st.H.length 0 l.toNat) (st.H ++ [.xarr l.toNat (P.cellsOf e) (fun _ j => unNil (z.getD j .any))])) :
    ERun E st a K ((Instr.makeSlice t (.int kl l) (.int kc c)).run P w) := by
  have hu := elemOf_some he
  obtain ⟨i, v, hi, hv, hcz⟩ := zeroCells_some hz
  have hsize : i.size = P.cellsOf e := by simp [Program.cellsOf, hi]
  have hbytes : i.bytes = P.bytesOf e := by simp [Program.bytesOf, hi]
  have hzr := Rel_cells hcz (Rel_ofConst S μ w v)
  have hvl := RelL_length hzr
  simp only [Array.length_toList] at hvl
  rw [run_make w t e i v hu hi hv kl kc l c h0 hlc (by rw [hbytes]; omega) (by omega)]
  have hlc' : l.toNat ≤ c.toNat := by omega
  refine ⟨_, _, _, _, S, _, rfl, hK, g.made _ e w.drawn _ ⟨some w.heap.size, 0, c.toNat, P.cellsOf e, fun _ _ => none⟩ (fun b hb => ?_) ?_ (fun cs hcs => by cases hcs), ?_, fun k hk => ment_osl (by simp at hk; omega) _ _⟩
  · rcases hb with hb | ⟨_, _, _, h, _⟩
    · exact (Option.some.inj hb).symm
    · cases h
  · refine ⟨by rw [upd_same], fun i' j' v hv => (by rw [upd_same] at hv; cases hv), ?_⟩
    rw [upd_same]
    refine ⟨hlc', _, e, heap_new _ _ _, by rw [size_madeCells, hsize]; simp, fun k hk j hj => ?_⟩
    have hzj : z[j]? = some z[j] := List.getElem?_eq_getElem (by omega)
    obtain ⟨x, h1, h2⟩ := RelL_get hzr hzj
    refine ⟨x, ?_, ?_⟩
    · have hlt : k * P.cellsOf e + j < c.toNat * P.cellsOf e := by
        have : k * P.cellsOf e + P.cellsOf e ≤ c.toNat * P.cellsOf e := by rw [← Nat.succ_mul]; exact Nat.mul_le_mul_right _ (by omega)
        omega
      have hmod : (k * P.cellsOf e + j) % v.cells.size = j := by rw [hvl, hzl, Nat.mul_comm, Nat.mul_add_mod, Nat.mod_eq_of_lt (by omega)]
      have hjs : j < v.cells.size := by omega
      simp only [madeCells, Nat.zero_add, hsize]
      rw [Array.getElem?_map, Array.getElem?_range, if_pos hlt]
      simp only [Option.map_some, hmod]
      rw [getElem!_pos v.cells j hjs, ← h1, Array.getElem?_toList, Array.getElem?_eq_getElem hjs]
    · have e1 : z.getD j AV.any = z[j] := by rw [List.getD_eq_getElem?_getD, hzj]; rfl
      show RelX S _ _ _ _ (unNil (z.getD j AV.any)) x
      rw [e1]
      have hpn := List.all_eq_true.1 hzn _ (List.getElem_mem (show j < z.length by omega))
      generalize z[j] = a0 at hpn h2
      cases a0 with
      | v y =>
        have h2 : x = y := h2
        subst h2
        have hy : isOne x = true := by simpa [plainA, nilC] using hpn
        exact ⟨rfl, hy⟩
      | lit n e' c' =>
        have hn : n = 0 := by
          have : (plainA (.lit n e' c') || nilC (.lit n e' c')) = true := hpn
          simpa [plainA, nilC] using this
        subst hn
        obtain ⟨A, rfl, _⟩ := h2
        exact ⟨rfl, A, rfl⟩
      | _ => simp [plainA, nilC] at hpn
  · unfold Rel
    rw [upd_same]
    exact ⟨by simpa using hlc', ⟨w.heap.size, 0, none⟩, by simp, fun _ => by simp⟩

end
end Cg
