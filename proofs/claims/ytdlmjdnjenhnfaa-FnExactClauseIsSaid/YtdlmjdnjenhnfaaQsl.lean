/-
  Slices of slices and strings; composite values; the other quiet operations. No condition.
-/
import Derived.Test.YtdlmjdnjenhnfaaQops
namespace Cg
open Go

section
variable {P : Program} {S : Nat → Prop} {μ : Nat → OI} {w : World}

theorem elem_of {t e : TypeId} (h : P.underlying t = some (.slice e)) : P.underlying t = some (.slice (P.elem t)) ∧ P.elem t = e := by
  have : P.elem t = e := by unfold Program.elem; rw [h]
  exact ⟨by rw [this]; exact h, this⟩

theorem rs_h {t e : TypeId} (hu : P.underlying t = some (.slice e)) (hs : P.cellsOf e ≠ 0) (a : Option Addr) (n cap : Nat) (k : IntKind) (h : Int) (h0 : 0 ≤ h) (h1 : h ≤ cap) :
    (Instr.sliceAt t (.slice a n cap) none (some (.int k h)) none).run P w = .ok (sliced a 0 h.toNat cap (P.cellsOf e)) w := by
  obtain ⟨h2, h3⟩ := elem_of hu
  rw [run_sliceAt_slice _ _ _ _ _ _ h2, run_slice_h _ _ _ _ _ h2 _ _ h0 h1, h3, run_sizeOf hs]
  rfl

theorem rs_l {t e : TypeId} (hu : P.underlying t = some (.slice e)) (hs : P.cellsOf e ≠ 0) (a : Option Addr) (n cap : Nat) (k : IntKind) (l : Int) (h0 : 0 ≤ l) (h1 : l ≤ n) :
    (Instr.sliceAt t (.slice a n cap) (some (.int k l)) none none).run P w = .ok (sliced a l.toNat n cap (P.cellsOf e)) w := by
  obtain ⟨h2, h3⟩ := elem_of hu
  rw [run_sliceAt_slice _ _ _ _ _ _ h2, run_slice_l _ _ _ _ _ h2 _ _ h0 h1, h3, run_sizeOf hs]
  rfl

theorem rs_lh {t e : TypeId} (hu : P.underlying t = some (.slice e)) (hs : P.cellsOf e ≠ 0) (a : Option Addr) (n cap : Nat) (k k' : IntKind) (l h : Int) (h0 : 0 ≤ l) (h1 : l ≤ h) (h2 : h ≤ cap) :
    (Instr.sliceAt t (.slice a n cap) (some (.int k l)) (some (.int k' h)) none).run P w = .ok (sliced a l.toNat h.toNat cap (P.cellsOf e)) w := by
  obtain ⟨h3, h4⟩ := elem_of hu
  rw [run_sliceAt_slice _ _ _ _ _ _ h3, run_slice_lh _ _ _ _ _ h3 _ _ _ _ h0 h1 h2, h4, run_sizeOf hs]
  rfl

theorem rs_hm {t e : TypeId} (hu : P.underlying t = some (.slice e)) (hs : P.cellsOf e ≠ 0) (a : Option Addr) (n cap : Nat) (k k' : IntKind) :
    (Instr.sliceAt t (.slice a n cap) none (some (.int k 0)) (some (.int k' 0))).run P w = .ok (sliced a 0 0 0 (P.cellsOf e)) w := by
  obtain ⟨h3, h4⟩ := elem_of hu
  rw [run_sliceAt_slice _ _ _ _ _ _ h3, run_slice_hm _ _ _ _ _ h3 _ _ _ _ (Int.le_refl _) (Int.le_refl _) (by omega), h4, run_sizeOf hs]
  rfl

theorem relI_sliced {a : Option Addr} {n cap esz l h : Nat} {cell : Nat → Nat → AV} (hr : RelI S w (.sl n esz cell) (.slice a n cap)) (h1 : l ≤ h) (h2 : h ≤ n) :
    RelI S w (.sl (h - l) esz (fun i j => cell (i + l) j)) (sliced a l h cap esz) := by
  obtain ⟨a', cap', he, hcap, hrow⟩ := hr
  cases he
  refine ⟨_, _, rfl, by omega, ?_⟩
  by_cases hn : h - l = 0
  · exact .inl hn
  rcases hrow with h0 | ⟨b, off, rfl, hb, c, T, fr, hc, hx⟩
  · omega
  · refine .inr ⟨b, off + l * esz, ?_, hb, c, T, fr, hc, fun i hi j hj => ?_⟩
    · by_cases hcl : cap - l = cap
      · rw [if_neg (by omega)]; have : l = 0 := by omega
        subst this; simp [Addr.add]
      · rw [if_neg (by omega)]; simp [add_eq]
    · obtain ⟨x, h3, h4⟩ := hx (i + l) (by omega) j hj
      refine ⟨x, ?_, h4⟩
      rw [← h3]; congr 1; rw [Nat.add_mul]; omega

theorem rel_osl_sliced {o lo n l h esz : Nat} {y : Value} (hr : Rel S μ w (.osl o lo n) y) (he : (μ o).esz = esz) (h1 : l ≤ h) (h2 : h ≤ n) :
    ∃ a cap, y = .slice a n cap ∧ n ≤ cap ∧ Rel S μ w (.osl o (l + lo) (h - l)) (sliced a l h cap esz) := by
  unfold Rel at hr
  split at hr
  · rename_i hb
    obtain ⟨rfl, rfl, a, rfl⟩ := hr
    have hl : l = 0 := by omega
    have hh : h = 0 := by omega
    subst hl; subst hh
    refine ⟨a, 0, rfl, Nat.le_refl _, ?_⟩
    unfold Rel
    rw [hb]
    exact ⟨rfl, rfl, _, rfl⟩
  · rename_i b hb
    obtain ⟨h3, a, rfl, h4⟩ := hr
    refine ⟨_, _, rfl, by omega, ?_⟩
    unfold Rel
    rw [hb]
    refine ⟨by omega, ?_⟩
    unfold sliced
    by_cases hcl : (μ o).cap - lo = l
    · rw [if_pos hcl]
      refine ⟨a, by congr 1; omega, fun hlt => by omega⟩
    · rw [if_neg hcl]
      have ha := h4 (by omega)
      subst ha
      refine ⟨⟨b, (μ o).base + (l + lo) * (μ o).esz, none⟩, ?_, fun _ => rfl⟩
      have e1 : (μ o).base + lo * (μ o).esz + l * esz = (μ o).base + (l + lo) * (μ o).esz := by rw [he, Nat.add_mul]; omega
      have e2 : (μ o).cap - lo - l = (μ o).cap - (l + lo) := by omega
      simp only [Option.map_some]
      rw [add_eq rfl, e2, e1]

theorem eszOf_mu {H : List AObj} (hH : HOK S μ w H) {o k : Nat} (h : Nat.beq (eszOf H o) k = true) (hk : 0 < k) : (μ o).esz = k := by
  have h1 := Nat.eq_of_beq_eq_true h
  unfold eszOf at h1
  split at h1
  · rename_i m e' c hl; rw [← h1]; exact (hH.obj _ _ (H_getD hl (by simp))).1
  · rename_i m e' c hl; rw [← h1]; exact (hH.obj _ _ (H_getD hl (by simp))).1
  · omega

theorem blt_pos {n : Nat} (h : Nat.blt 0 n = true) : 0 < n := Nat.le_of_ble_eq_true h

theorem slice_sound {H : List AObj} (hH : HOK S μ w H) {t : TypeId} {ax v : AV} {lo hi mx : Option AV} {p : List Prop} (h : aSlice P H t ax lo hi mx = some (p, v)) (hp : ∀ q ∈ p, q)
    {x : Value} {l' h' m' : Option Value} (hx : Rel S μ w ax x) (hl : ∀ a, lo = some a → ∃ y, l' = some y ∧ Rel S μ w a y) (hl0 : lo = none → l' = none) (hh : ∀ a, hi = some a → ∃ y, h' = some y ∧ Rel S μ w a y)
    (hh0 : hi = none → h' = none) (hm : ∀ a, mx = some a → ∃ y, m' = some y ∧ Rel S μ w a y) (hm0 : mx = none → m' = none) :
    ∃ y, (Instr.sliceAt t x l' h' m').run P w = .ok y w ∧ Rel S μ w v y := by
  unfold aSlice at h
  split at h
  · have hm' := hm0 rfl
    subst hm'
    split at h
    · rename_i s k1 k hu
      simp only [okIf, Option.some.injEq, Prod.mk.injEq] at h
      obtain ⟨rfl, rfl⟩ := h
      have hk : 0 ≤ k ∧ k ≤ (s.size : Int) := hp _ (List.mem_singleton.2 rfl)
      cases hx; have := hl0 rfl; subst this
      obtain ⟨y, rfl, hy⟩ := hh _ rfl; cases hy
      exact ⟨_, by rw [run_sliceAt_string _ _ _ _ _ _ hu, run_slice_string_h _ _ _ hu _ _ hk.1 hk.2], rfl⟩
    · rename_i s k1 k hu
      simp only [okIf, Option.some.injEq, Prod.mk.injEq] at h
      obtain ⟨rfl, rfl⟩ := h
      have hk : 0 ≤ k ∧ k ≤ (s.size : Int) := hp _ (List.mem_singleton.2 rfl)
      cases hx; have := hh0 rfl; subst this
      obtain ⟨y, rfl, hy⟩ := hl _ rfl; cases hy
      exact ⟨_, by rw [run_sliceAt_string _ _ _ _ _ _ hu, run_slice_string_l _ _ _ hu _ _ hk.1 hk.2], rfl⟩
    · rename_i s k1 k k2 k' hu
      simp only [okIf, Option.some.injEq, Prod.mk.injEq] at h
      obtain ⟨rfl, rfl⟩ := h
      have hk : 0 ≤ k ∧ k ≤ k' ∧ k' ≤ (s.size : Int) := hp _ (List.mem_singleton.2 rfl)
      cases hx
      obtain ⟨y, rfl, hy⟩ := hl _ rfl; cases hy
      obtain ⟨y, rfl, hy⟩ := hh _ rfl; cases hy
      refine ⟨_, ?_, rfl⟩
      rw [run_sliceAt_string _ _ _ _ _ _ hu]
      have h2 : 0 ≤ k' := by omega
      have h3 : ((k'.toNat : Nat) : Int) = k' := by omega
      simp [Instr.slice, run_underlying hu, Instr.sliceBounds, run_sliceBound, hk.1, hk.2.1, hk.2.2, h2, h3]
    · rename_i e n esz cell k1 k hu
      obtain ⟨hb, h⟩ : (Nat.beq esz (P.cellsOf e) && Nat.blt 0 esz) = true ∧ okIf (0 ≤ k ∧ k ≤ (n : Int)) (.sl k.toNat esz cell) = some (p, v) := by
        cases hb : Nat.beq esz (P.cellsOf e) && Nat.blt 0 esz
        · simp [hb] at h
        · simp only [hb] at h; exact ⟨rfl, h⟩
      simp only [okIf, Option.some.injEq, Prod.mk.injEq] at h
      obtain ⟨rfl, rfl⟩ := h
      have hk : 0 ≤ k ∧ k ≤ (n : Int) := hp _ (List.mem_singleton.2 rfl)
      simp only [Bool.and_eq_true] at hb
      have h1 := Nat.eq_of_beq_eq_true hb.1
      have h2 := blt_pos hb.2
      have := hl0 rfl; subst this
      obtain ⟨y, rfl, hy⟩ := hh _ rfl; cases hy
      have hx' : RelI S w (.sl n esz cell) x := hx
      obtain ⟨a, cap, rfl, hcap, hrow⟩ := hx
      refine ⟨_, rs_h hu (by omega) a n cap k1 k hk.1 (by omega), ?_⟩
      rw [← h1]
      exact relI_sliced hx' (Nat.zero_le _) (by omega)
    · rename_i e n esz cell k1 k hu
      obtain ⟨hb, h⟩ : (Nat.beq esz (P.cellsOf e) && Nat.blt 0 esz) = true ∧ okIf (0 ≤ k ∧ k ≤ (n : Int)) (.sl (n - k.toNat) esz (fun i j => cell (i + k.toNat) j)) = some (p, v) := by
        cases hb : Nat.beq esz (P.cellsOf e) && Nat.blt 0 esz
        · simp [hb] at h
        · simp only [hb] at h; exact ⟨rfl, h⟩
      simp only [okIf, Option.some.injEq, Prod.mk.injEq] at h
      obtain ⟨rfl, rfl⟩ := h
      have hk : 0 ≤ k ∧ k ≤ (n : Int) := hp _ (List.mem_singleton.2 rfl)
      simp only [Bool.and_eq_true] at hb
      have h1 := Nat.eq_of_beq_eq_true hb.1
      have h2 := blt_pos hb.2
      have := hh0 rfl; subst this
      obtain ⟨y, rfl, hy⟩ := hl _ rfl; cases hy
      have hx' : RelI S w (.sl n esz cell) x := hx
      obtain ⟨a, cap, rfl, hcap, hrow⟩ := hx
      refine ⟨_, rs_l hu (by omega) a n cap k1 k hk.1 hk.2, ?_⟩
      rw [← h1]
      exact relI_sliced hx' (by omega) (Nat.le_refl _)
    · rename_i e n esz cell k1 k k2 k' hu
      obtain ⟨hb, h⟩ : (Nat.beq esz (P.cellsOf e) && Nat.blt 0 esz) = true ∧ okIf (0 ≤ k ∧ k ≤ k' ∧ k' ≤ (n : Int)) (.sl (k'.toNat - k.toNat) esz (fun i j => cell (i + k.toNat) j)) = some (p, v) := by
        cases hb : Nat.beq esz (P.cellsOf e) && Nat.blt 0 esz
        · simp [hb] at h
        · simp only [hb] at h; exact ⟨rfl, h⟩
      simp only [okIf, Option.some.injEq, Prod.mk.injEq] at h
      obtain ⟨rfl, rfl⟩ := h
      have hk : 0 ≤ k ∧ k ≤ k' ∧ k' ≤ (n : Int) := hp _ (List.mem_singleton.2 rfl)
      simp only [Bool.and_eq_true] at hb
      have h1 := Nat.eq_of_beq_eq_true hb.1
      have h2 := blt_pos hb.2
      obtain ⟨y, rfl, hy⟩ := hh _ rfl; cases hy
      obtain ⟨y, rfl, hy⟩ := hl _ rfl; cases hy
      have hx' : RelI S w (.sl n esz cell) x := hx
      obtain ⟨a, cap, rfl, hcap, hrow⟩ := hx
      refine ⟨_, rs_lh hu (by omega) a n cap k1 k2 k k' hk.1 hk.2.1 (by omega), ?_⟩
      rw [← h1]
      exact relI_sliced hx' (by omega) (by omega)
    · rename_i e o b n k1 k hu
      obtain ⟨hb, h⟩ : (Nat.beq (eszOf H o) (P.cellsOf e) && Nat.blt 0 (P.cellsOf e)) = true ∧ okIf (0 ≤ k ∧ k ≤ (n : Int)) (.osl o b k.toNat) = some (p, v) := by
        cases hb : Nat.beq (eszOf H o) (P.cellsOf e) && Nat.blt 0 (P.cellsOf e)
        · simp [hb] at h
        · simp only [hb] at h; exact ⟨rfl, h⟩
      simp only [okIf, Option.some.injEq, Prod.mk.injEq] at h
      obtain ⟨rfl, rfl⟩ := h
      have hk : 0 ≤ k ∧ k ≤ (n : Int) := hp _ (List.mem_singleton.2 rfl)
      simp only [Bool.and_eq_true] at hb
      have h2 := blt_pos hb.2
      have h1 := eszOf_mu hH hb.1 h2
      have := hl0 rfl; subst this
      obtain ⟨y, rfl, hy⟩ := hh _ rfl; cases hy
      obtain ⟨a, cap, rfl, hcap, hrel⟩ := rel_osl_sliced hx h1 (Nat.zero_le k.toNat) (by omega)
      rw [Nat.zero_add, Nat.sub_zero] at hrel
      exact ⟨_, rs_h hu (by omega) a n cap k1 k hk.1 (by omega), hrel⟩
    · rename_i e o b n k1 k hu
      obtain ⟨hb, h⟩ : (Nat.beq (eszOf H o) (P.cellsOf e) && Nat.blt 0 (P.cellsOf e)) = true ∧ okIf (0 ≤ k ∧ k ≤ (n : Int)) (.osl o (k.toNat + b) (n - k.toNat)) = some (p, v) := by
        cases hb : Nat.beq (eszOf H o) (P.cellsOf e) && Nat.blt 0 (P.cellsOf e)
        · simp [hb] at h
        · simp only [hb] at h; exact ⟨rfl, h⟩
      simp only [okIf, Option.some.injEq, Prod.mk.injEq] at h
      obtain ⟨rfl, rfl⟩ := h
      have hk : 0 ≤ k ∧ k ≤ (n : Int) := hp _ (List.mem_singleton.2 rfl)
      simp only [Bool.and_eq_true] at hb
      have h2 := blt_pos hb.2
      have h1 := eszOf_mu hH hb.1 h2
      have := hh0 rfl; subst this
      obtain ⟨y, rfl, hy⟩ := hl _ rfl; cases hy
      obtain ⟨a, cap, rfl, hcap, hrel⟩ := rel_osl_sliced hx h1 (show k.toNat ≤ n by omega) (Nat.le_refl _)
      exact ⟨_, rs_l hu (by omega) a n cap k1 k hk.1 hk.2, hrel⟩
    · rename_i e o b n k1 k k2 k' hu
      obtain ⟨hb, h⟩ : (Nat.beq (eszOf H o) (P.cellsOf e) && Nat.blt 0 (P.cellsOf e)) = true ∧ okIf (0 ≤ k ∧ k ≤ k' ∧ k' ≤ (n : Int)) (.osl o (k.toNat + b) (k'.toNat - k.toNat)) = some (p, v) := by
        cases hb : Nat.beq (eszOf H o) (P.cellsOf e) && Nat.blt 0 (P.cellsOf e)
        · simp [hb] at h
        · simp only [hb] at h; exact ⟨rfl, h⟩
      simp only [okIf, Option.some.injEq, Prod.mk.injEq] at h
      obtain ⟨rfl, rfl⟩ := h
      have hk : 0 ≤ k ∧ k ≤ k' ∧ k' ≤ (n : Int) := hp _ (List.mem_singleton.2 rfl)
      simp only [Bool.and_eq_true] at hb
      have h2 := blt_pos hb.2
      have h1 := eszOf_mu hH hb.1 h2
      obtain ⟨y, rfl, hy⟩ := hh _ rfl; cases hy
      obtain ⟨y, rfl, hy⟩ := hl _ rfl; cases hy
      obtain ⟨a, cap, rfl, hcap, hrel⟩ := rel_osl_sliced hx h1 (show k.toNat ≤ k'.toNat by omega) (by omega)
      exact ⟨_, rs_lh hu (by omega) a n cap k1 k2 k k' hk.1 hk.2.1 (by omega), hrel⟩
    · cases h
  · rename_i m
    obtain ⟨ym, rfl, hym⟩ := hm _ rfl
    split at h
    · rename_i e n esz cell k1 k k2 c hu
      obtain ⟨hb, h⟩ : Nat.blt 0 (P.cellsOf e) = true ∧ okIf (k = 0 ∧ c = 0) nilA = some (p, v) := by
        cases hb : Nat.blt 0 (P.cellsOf e)
        · simp [hb] at h
        · simp only [hb] at h; exact ⟨rfl, h⟩
      simp only [okIf, Option.some.injEq, Prod.mk.injEq] at h
      obtain ⟨rfl, rfl⟩ := h
      obtain ⟨rfl, rfl⟩ : k = 0 ∧ c = 0 := hp _ (List.mem_singleton.2 rfl)
      have := hl0 rfl; subst this
      obtain ⟨y, rfl, hy⟩ := hh _ rfl; cases hy; cases hym
      obtain ⟨a, cap, rfl, hcap, hrow⟩ := hx
      exact ⟨_, rs_hm hu (by have := blt_pos hb; omega) a n cap k1 k2, _, rfl, .inl rfl⟩
    · cases h

theorem len_sound {T : TypeId} {a v : AV} {p : List Prop} (h : aLen P T a = some (p, v)) {x : Value} (hx : Rel S μ w a x) (ty : TypeId) :
    ∃ y, (Builtin.len_ #[T] ty #[x]).run P w = .ok y w ∧ Rel S μ w v y := by
  unfold aLen at h
  split at h
  · rename_i e n esz cell hT
    simp only [ok, Option.some.injEq, Prod.mk.injEq] at h
    obtain ⟨rfl, rfl⟩ := h
    obtain ⟨a, cap, rfl, _⟩ := hx
    exact ⟨_, by simp [Builtin.len_, run_underlying hT, goInt], rfl⟩
  · rename_i e n esz cell hT
    simp only [ok, Option.some.injEq, Prod.mk.injEq] at h
    obtain ⟨rfl, rfl⟩ := h
    obtain ⟨a, rfl, _⟩ := hx
    exact ⟨_, by simp [Builtin.len_, run_underlying hT, goInt], rfl⟩
  · rename_i e o lo n hT
    simp only [ok, Option.some.injEq, Prod.mk.injEq] at h
    obtain ⟨rfl, rfl⟩ := h
    unfold Rel at hx
    split at hx
    · obtain ⟨_, rfl, a, rfl⟩ := hx
      exact ⟨_, by simp [Builtin.len_, run_underlying hT, goInt], rfl⟩
    · obtain ⟨_, a, rfl, _⟩ := hx
      exact ⟨_, by simp [Builtin.len_, run_underlying hT, goInt], rfl⟩
  · rename_i s hT
    simp only [ok, Option.some.injEq, Prod.mk.injEq] at h
    obtain ⟨rfl, rfl⟩ := h
    cases hx
    exact ⟨_, by simp [Builtin.len_, run_underlying hT, goInt], rfl⟩
  · cases h

theorem cap_sound {T : TypeId} {a v : AV} {p : List Prop} (h : aCap P T a = some (p, v)) {x : Value} (hx : Rel S μ w a x) (ty : TypeId) :
    ∃ y, (Builtin.cap_ #[T] ty #[x]).run P w = .ok y w ∧ Rel S μ w v y := by
  unfold aCap at h
  split at h
  · rename_i e n esz cell hT
    simp only [ok, Option.some.injEq, Prod.mk.injEq] at h
    obtain ⟨rfl, rfl⟩ := h
    obtain ⟨a, rfl, _⟩ := hx
    exact ⟨_, by simp [Builtin.cap_, run_underlying hT, goInt], rfl⟩
  · cases h

theorem builtin_sound {b : Builtin} {ts : Array TypeId} (ty : TypeId) {as : List AV} {v : AV} {p : List Prop} (h : aBuiltin P b ts as = some (p, v)) {xs : List Value} (hx : RelL S μ w as xs) :
    ∃ y, (∀ consts, (builtin b ts ty consts xs.toArray).run P w = .ok (.value y) w) ∧ Rel S μ w v y := by
  unfold aBuiltin at h
  split at h
  · rename_i t a hts
    obtain ⟨x, r, rfl, h1, rfl⟩ := hx
    obtain ⟨y, h2, h3⟩ := len_sound h h1 ty
    have : ts = #[t] := by apply Array.ext'; simpa using hts
    subst this
    exact ⟨y, fun _ => by simp [builtin, h2], h3⟩
  · rename_i t a hts
    obtain ⟨x, r, rfl, h1, rfl⟩ := hx
    obtain ⟨y, h2, h3⟩ := cap_sound h h1 ty
    have : ts = #[t] := by apply Array.ext'; simpa using hts
    subst this
    exact ⟨y, fun _ => by simp [builtin, h2], h3⟩
  · rename_i k x k' y
    obtain ⟨_, _, rfl, h1, _, _, rfl, h2, rfl⟩ := hx
    cases h1; cases h2
    cases hk : Nat.beq (ikIdx k) (ikIdx k')
    · simp [hk] at h
    simp only [hk] at h
    have hk := ikIdx_inj hk; subst hk
    simp only [cond_true, ok, Option.some.injEq, Prod.mk.injEq] at h
    obtain ⟨rfl, rfl⟩ := h
    exact ⟨_, fun _ => by simp [builtin, Builtin.max_, Builtin.max2], rfl⟩
  · rename_i k x k' y
    obtain ⟨_, _, rfl, h1, _, _, rfl, h2, rfl⟩ := hx
    cases h1; cases h2
    cases hk : Nat.beq (ikIdx k) (ikIdx k')
    · simp [hk] at h
    simp only [hk] at h
    have hk := ikIdx_inj hk; subst hk
    simp only [cond_true, ok, Option.some.injEq, Prod.mk.injEq] at h
    obtain ⟨rfl, rfl⟩ := h
    exact ⟨_, fun _ => by simp [builtin, Builtin.min_, Builtin.min2], rfl⟩
  · cases h

theorem asSl_sound {a : AV} {x : Value} (hx : Rel S μ w a x) : Rel S μ w (asSl a) x := by
  unfold asSl
  split
  · obtain ⟨a, rfl, h⟩ := hx; exact ⟨a, _, rfl, Nat.le_refl _, h⟩
  · exact hx

/-- Parts laid one behind another. -/
theorem foldl_set (off : Nat) : ∀ (l : List Value) (k : Nat) (cs : Array Value),
    ((l.zipIdx k).foldl (fun cs (x : Value × Nat) => cs.setIfInBounds (off + x.2) x.1) cs).size = cs.size ∧
    ∀ m, ((l.zipIdx k).foldl (fun cs (x : Value × Nat) => cs.setIfInBounds (off + x.2) x.1) cs)[m]? = if off + k ≤ m ∧ m < off + k + l.length ∧ m < cs.size then l[m - (off + k)]? else cs[m]?
  | [], k, cs => ⟨rfl, fun m => by rw [if_neg (by simp; omega)]; rfl⟩
  | a :: l, k, cs => by
    obtain ⟨h1, h2⟩ := foldl_set off l (k + 1) (cs.setIfInBounds (off + k) a)
    refine ⟨by simpa using h1, fun m => ?_⟩
    simp only [List.zipIdx_cons, List.foldl_cons]
    rw [h2 m]
    simp only [Array.size_setIfInBounds, List.length_cons]
    by_cases hm : off + (k + 1) ≤ m ∧ m < off + (k + 1) + l.length ∧ m < cs.size
    · rw [if_pos hm, if_pos (by omega)]
      have : m - (off + k) = (m - (off + (k + 1))) + 1 := by omega
      rw [this, List.getElem?_cons_succ]
    · rw [if_neg hm, Array.getElem?_setIfInBounds]
      by_cases he : off + k = m
      · subst he
        by_cases hs : off + k < cs.size
        · simp [hs]
        · rw [if_pos rfl, if_neg hs, if_neg (by omega), Array.getElem?_eq_none (by omega)]
      · rw [if_neg he, if_neg (by omega)]

theorem fillA_spec : ∀ (vs cs : List AV) (off : Nat), (fillA cs off vs).length = cs.length ∧
    ∀ m, (fillA cs off vs)[m]? = if off ≤ m ∧ m < off + vs.length ∧ m < cs.length then vs[m - off]? else cs[m]?
  | [], cs, off => ⟨rfl, fun m => by rw [if_neg (by simp; omega)]; rfl⟩
  | a :: l, cs, off => by
    obtain ⟨h1, h2⟩ := fillA_spec l (cs.set off a) (off + 1)
    refine ⟨by simpa [fillA] using h1, fun m => ?_⟩
    simp only [fillA]
    rw [h2 m]
    simp only [List.length_set, List.length_cons]
    by_cases hm : off + 1 ≤ m ∧ m < off + 1 + l.length ∧ m < cs.length
    · rw [if_pos hm, if_pos (by omega)]
      have : m - off = (m - (off + 1)) + 1 := by omega
      rw [this, List.getElem?_cons_succ]
    · rw [if_neg hm, List.getElem?_set]
      by_cases he : off = m
      · subst he
        by_cases hs : off < cs.length
        · simp [hs]
        · rw [if_pos rfl, if_neg hs, if_neg (by omega), List.getElem?_eq_none (by omega)]
      · rw [if_neg he, if_neg (by omega)]

theorem fill_sound {places : Nat → Option (Nat × Nat)} {fs : Array Field} (hpl : ∀ i f, fs[i]? = some f → places i = some (f.offset, P.cellsOf f.type)) :
    ∀ (ps : List (Nat × AV)) (qs : List (Nat × Value)) (cs cs' : List AV) (c : Array Value), RelL S μ w cs c.toList → buildA P fs cs ps = some cs' →
      ps.length = qs.length → (∀ (k : Nat) (p : Nat × AV) (q : Nat × Value), ps[k]? = some p → qs[k]? = some q → p.1 = q.1 ∧ Rel S μ w p.2 q.2) →
      ∃ c', Instr.fill places c qs = some c' ∧ RelL S μ w cs' c'.toList
  | [], [], cs, cs', c, hr, hb, _, _ => by simp only [buildA, Option.some.injEq] at hb; subst hb; exact ⟨c, rfl, hr⟩
  | [], _ :: _, _, _, _, _, _, hl, _ => by simp at hl
  | _ :: _, [], _, _, _, _, _, hl, _ => by simp at hl
  | (i, a) :: ps, (i', x) :: qs, cs, cs', c, hr, hb, hl, hk => by
    obtain ⟨h0, h1⟩ := hk 0 (i, a) (i', x) rfl rfl
    simp only at h0 h1
    subst h0
    unfold buildA at hb
    split at hb
    · rename_i f vs hf hc
      obtain ⟨ht, hb⟩ : (Nat.beq vs.length (P.cellsOf f.type) && Nat.ble (f.offset + vs.length) cs.length) = true ∧ buildA P fs (fillA cs f.offset vs) ps = some cs' := by
        cases ht : Nat.beq vs.length (P.cellsOf f.type) && Nat.ble (f.offset + vs.length) cs.length
        · simp [ht] at hb
        · simp only [ht] at hb; exact ⟨rfl, hb⟩
      simp only [Bool.and_eq_true] at ht
      have h2 := Nat.eq_of_beq_eq_true ht.1
      have h3 := Nat.le_of_ble_eq_true ht.2
      have hcells := Rel_cells hc h1
      have hlen := RelL_length hcells
      have hlc := RelL_length hr
      simp only [Array.length_toList] at hlen hlc
      have hfs := foldl_set f.offset x.cells.toList 0 c
      have hfa := fillA_spec vs cs f.offset
      have hfold : (x.cells.zipIdx.foldl (fun cs (y : Value × Nat) => cs.setIfInBounds (f.offset + y.2) y.1) c) = ((x.cells.toList.zipIdx 0).foldl (fun cs (y : Value × Nat) => cs.setIfInBounds (f.offset + y.2) y.1) c) := by
        rw [← Array.foldl_toList, Array.toList_zipIdx]
      have hr' : RelL S μ w (fillA cs f.offset vs) ((x.cells.toList.zipIdx 0).foldl (fun cs (y : Value × Nat) => cs.setIfInBounds (f.offset + y.2) y.1) c).toList := by
        refine RelL_of (by rw [Array.length_toList, hfs.1, hfa.1]; exact hlc) fun m b y hb hy => ?_
        rw [Array.getElem?_toList, hfs.2 m] at hy
        rw [hfa.2 m] at hb
        simp only [Array.length_toList, Nat.add_zero] at hy
        by_cases hm : f.offset ≤ m ∧ m < f.offset + vs.length ∧ m < cs.length
        · rw [if_pos hm] at hb
          rw [if_pos (by omega)] at hy
          obtain ⟨y', h4, h5⟩ := RelL_get hcells hb
          rw [hy] at h4; cases h4; exact h5
        · rw [if_neg hm] at hb
          rw [if_neg (by omega)] at hy
          obtain ⟨y', h4, h5⟩ := RelL_get hr hb
          rw [Array.getElem?_toList, hy] at h4; cases h4; exact h5
      obtain ⟨c', h6, h7⟩ := fill_sound hpl ps qs _ _ _ hr' hb (by simpa using hl) (fun k p q hp hq => hk (k + 1) p q (by simpa using hp) (by simpa using hq))
      refine ⟨c', ?_, h7⟩
      unfold Instr.fill
      rw [hpl i f hf]
      simp only
      rw [if_neg (by simp; omega)]
      rw [← h6, ← hfold]
    · cases hb

theorem mapM_places (l : List Field) (h : ∀ f, f ∈ l → (P.info? f.type).isSome = true) :
    (l.mapM (fun f => do pure (f.offset, ← Go.sizeOf f.type) : Field → Sem (Nat × Nat))).run P w = .ok (l.map fun f => (f.offset, P.cellsOf f.type)) w := by
  induction l with
  | nil => rfl
  | cons f l ih =>
    obtain ⟨i, hi⟩ := Option.isSome_iff_exists.1 (h f (by simp))
    have hs : (Go.sizeOf f.type).run P w = .ok (P.cellsOf f.type) w := by simp [Go.sizeOf, typeInfo, hi, Program.cellsOf]
    rw [List.mapM_cons]
    simp only [Sem.run_bind, hs, Result.andThen_ok, Sem.run_pure, ih (fun g hg => h g (by simp [hg])), List.map_cons]

theorem zeroCells_some {t : TypeId} {z : List AV} (h : zeroCells P t = some z) : ∃ i v, P.info? t = some i ∧ i.zero = some v ∧ cellsA (ofConst v) = some z := by
  unfold zeroCells at h
  split at h
  · rename_i i hi
    split at h
    · rename_i v hv; exact ⟨i, v, hi, hv, h⟩
    · cases h
  · cases h

theorem pairs_sound {fr : List AV} {a : Act} (hev : ∀ x, Rel S μ w (ev fr x) (a.eval x)) (ps : Array (Nat × Operand)) :
    (pairsA fr ps).length = ((ps.map fun (i, x) => (i, a.eval x)).toList).length ∧
    ∀ (k : Nat) (p : Nat × AV) (q : Nat × Value), (pairsA fr ps)[k]? = some p → ((ps.map fun (i, x) => (i, a.eval x)).toList)[k]? = some q → p.1 = q.1 ∧ Rel S μ w p.2 q.2 := by
  unfold pairsA
  refine ⟨by simp, fun k p q hp hq => ?_⟩
  simp only [Array.toList_map, List.getElem?_map] at hp hq
  cases hk : ps.toList[k]? with
  | none => rw [hk] at hp; simp at hp
  | some x =>
    rw [hk] at hp hq
    obtain ⟨i, x⟩ := x
    simp only [Option.map_some, Option.some.injEq] at hp hq
    subst hp; subst hq
    exact ⟨rfl, hev x⟩

theorem build_sound {fr : List AV} {a : Act} (hev : ∀ x, Rel S μ w (ev fr x) (a.eval x)) {t : TypeId} {parts : Array (Nat × Operand)} {fs : Array Field} {z cs : List AV} (hu : P.underlying t = some (.struct fs))
    (hz : zeroCells P t = some z) (hall : fs.toList.all (fun f => (P.info? f.type).isSome) = true) (hb : buildA P fs z (pairsA fr parts) = some cs) :
    ∃ y, (Instr.build t (parts.map fun (i, x) => (i, a.eval x))).run P w = .ok y w ∧ Rel S μ w (.agg cs) y := by
  obtain ⟨i, v, hi, hv, hc⟩ := zeroCells_some hz
  have hzr := Rel_cells hc (Rel_ofConst S μ w v)
  obtain ⟨hlen, hk⟩ := pairs_sound (S := S) (μ := μ) (w := w) hev parts
  have hplaces : ∀ (j : Nat) (f : Field), fs[j]? = some f → ((fs.map fun f => (f.offset, P.cellsOf f.type))[j]? : Option (Nat × Nat)) = some (f.offset, P.cellsOf f.type) := fun j f hf => by simp [hf]
  obtain ⟨c', h1, h2⟩ := fill_sound (places := fun j => (fs.map fun f => (f.offset, P.cellsOf f.type))[j]?) hplaces _ _ _ _ _ hzr hb hlen hk
  refine ⟨.agg c', ?_, c'.toList, by simp, h2⟩
  have hm : (fs.mapM (fun f => do pure (f.offset, ← Go.sizeOf f.type) : Field → Sem (Nat × Nat))).run P w = .ok (fs.map fun f => (f.offset, P.cellsOf f.type)) w := by
    rw [Array.mapM_eq_mapM_toList]
    have := mapM_places (P := P) (w := w) fs.toList (fun f hf => List.all_eq_true.1 hall f hf)
    simp only [Sem.run_map, this, Result.andThen_ok]
    congr 1
    apply Array.ext'
    simp
  have hzv : (zeroValue t).run P w = .ok v w := by simp [zeroValue, typeInfo, hi, hv]
  simp only [Instr.build, Go.underlying, Sem.run_bind, run_program, Result.andThen_ok, hu, Sem.run_pure, hzv, hm]
  rw [h1]
  rfl

/-- Rows laid flat. -/
def RowsAre (S : Nat → Prop) (w : World) (rows : List (List AV)) (size : Nat) (c : Array Value) : Prop :=
  c.size = rows.length * size ∧ ∀ i row, rows[i]? = some row → row.length = size ∧ ∀ j a, row[j]? = some a → ∃ x, c[i * size + j]? = some x ∧ RelI S w a x

theorem sliceRows_sound {size : Nat} : ∀ (ps : List (Nat × AV)) (qs : List (Nat × Value)) (rows rows' : List (List AV)) (c : Array Value), RowsAre S w rows size c → sliceRows size rows ps = some rows' →
      ps.length = qs.length → (∀ (k : Nat) (p : Nat × AV) (q : Nat × Value), ps[k]? = some p → qs[k]? = some q → p.1 = q.1 ∧ Rel S μ w p.2 q.2) →
      rows'.length = rows.length ∧ ∃ c', Instr.fill (fun i => some (i * size, size)) c qs = some c' ∧ RowsAre S w rows' size c'
  | [], [], rows, rows', c, hr, hb, _, _ => by simp only [sliceRows, Option.some.injEq] at hb; subst hb; exact ⟨rfl, c, rfl, hr⟩
  | [], _ :: _, _, _, _, _, _, hl, _ => by simp at hl
  | _ :: _, [], _, _, _, _, _, hl, _ => by simp at hl
  | (i, a) :: ps, (i', x) :: qs, rows, rows', c, hr, hb, hl, hk => by
    obtain ⟨h0, h1⟩ := hk 0 (i, a) (i', x) rfl rfl
    simp only at h0 h1
    subst h0
    unfold sliceRows at hb
    split at hb
    · rename_i vs hc
      obtain ⟨ht, hb⟩ : (Nat.beq vs.length size && Nat.blt i rows.length && vs.all isImm && vs.all oneA) = true ∧ sliceRows size (rows.set i vs) ps = some rows' := by
        cases ht : Nat.beq vs.length size && Nat.blt i rows.length && vs.all isImm && vs.all oneA
        · simp [ht] at hb
        · simp only [ht] at hb; exact ⟨rfl, hb⟩
      simp only [Bool.and_eq_true] at ht
      have h2 := Nat.eq_of_beq_eq_true ht.1.1.1
      have h3 : i < rows.length := Nat.le_of_ble_eq_true ht.1.1.2
      have h4 := List.all_eq_true.1 ht.1.2
      have h40 := List.all_eq_true.1 ht.2
      have hcells := Rel_cells hc h1
      have hlen := RelL_length hcells
      simp only [Array.length_toList] at hlen
      have hfs := foldl_set (i * size) x.cells.toList 0 c
      have hfold : (x.cells.zipIdx.foldl (fun cs (y : Value × Nat) => cs.setIfInBounds (i * size + y.2) y.1) c) = ((x.cells.toList.zipIdx 0).foldl (fun cs (y : Value × Nat) => cs.setIfInBounds (i * size + y.2) y.1) c) := by
        rw [← Array.foldl_toList, Array.toList_zipIdx]
      have hmul : i * size + size ≤ rows.length * size := by rw [← Nat.succ_mul]; exact Nat.mul_le_mul_right _ h3
      have hr' : RowsAre S w (rows.set i vs) size ((x.cells.toList.zipIdx 0).foldl (fun cs (y : Value × Nat) => cs.setIfInBounds (i * size + y.2) y.1) c) := by
        refine ⟨by rw [hfs.1, hr.1, List.length_set], fun k row hrow => ?_⟩
        rw [List.getElem?_set] at hrow
        by_cases hki : i = k
        · subst hki
          rw [if_pos rfl, if_pos h3] at hrow
          cases hrow
          refine ⟨h2, fun j b hb => ?_⟩
          have hj : j < vs.length := (List.getElem?_eq_some_iff.1 hb).1
          obtain ⟨y, h5, h6⟩ := RelL_get hcells hb
          refine ⟨y, ?_, RelI_of_Rel (h4 b (List.mem_of_getElem? hb)) (Rel_one (h40 b (List.mem_of_getElem? hb)) h6) h6⟩
          rw [hfs.2, if_pos (by rw [hr.1]; simp only [Array.length_toList]; omega)]
          rw [← h5]; congr 1; omega
        · rw [if_neg hki] at hrow
          obtain ⟨h5, h6⟩ := hr.2 k row hrow
          refine ⟨h5, fun j b hb => ?_⟩
          obtain ⟨y, h7, h8⟩ := h6 j b hb
          refine ⟨y, ?_, h8⟩
          have hj : j < row.length := (List.getElem?_eq_some_iff.1 hb).1
          rw [hfs.2, if_neg, h7]
          simp only [Array.length_toList]
          rcases Nat.lt_or_gt_of_ne hki with h9 | h9
          · have : i * size + size ≤ k * size := by rw [← Nat.succ_mul]; exact Nat.mul_le_mul_right _ h9
            omega
          · have : k * size + size ≤ i * size := by rw [← Nat.succ_mul]; exact Nat.mul_le_mul_right _ h9
            omega
      obtain ⟨h6, c', h7, h8⟩ := sliceRows_sound ps qs _ _ _ hr' hb (by simpa using hl) (fun k p q hp hq => hk (k + 1) p q (by simpa using hp) (by simpa using hq))
      refine ⟨by rw [h6, List.length_set], c', ?_, h8⟩
      unfold Instr.fill
      simp only
      rw [if_neg (by simp [hr.1]; omega)]
      rw [← h7, ← hfold]
    · cases hb

theorem buildSlice_sound {fr : List AV} {a : Act} (hS : ∀ b, S b → b < w.heap.size) (hev : ∀ x, Rel S μ w (ev fr x) (a.eval x)) {t e : TypeId} {len : Nat} {parts : Array (Nat × Operand)} {z : List AV} {rows : List (List AV)} (he : elemOf P t = some e)
    (hz : zeroCells P e = some z) (hl : z.length = P.cellsOf e) (hpos : 0 < z.length) (himm : z.all isImm = true) (hone : z.all oneA = true) (hsz : len * P.cellsOf e ≤ 16777216) (hb : sliceRows (P.cellsOf e) (List.replicate len z) (pairsA fr parts) = some rows) :
    ∃ y w', (Instr.buildSlice t len (parts.map fun (i, x) => (i, a.eval x))).run P w = .ok y w' ∧ Ext w w' ∧ w'.heap.size = w.heap.size + 1 ∧
      Rel (fun b => S b ∨ b = w.heap.size) μ w' (.lit len (P.cellsOf e) (rowsCell rows)) y := by
  obtain ⟨i, v, hi, hv, hc⟩ := zeroCells_some hz
  have hu := elemOf_some he
  have hzr := Rel_cells hc (Rel_ofConst S μ w v)
  have hzl := RelL_length hzr
  simp only [Array.length_toList] at hzl
  obtain ⟨hlen, hk⟩ := pairs_sound (S := S) (μ := μ) (w := w) hev parts
  have hs : (Go.sizeOf e).run P w = .ok (P.cellsOf e) w := run_sizeOf (by omega)
  have hzv : (zeroValue e).run P w = .ok v w := by simp [zeroValue, typeInfo, hi, hv]
  have hc0 : RowsAre S w (List.replicate len z) (P.cellsOf e) ((Array.range (len * P.cellsOf e)).map (v.cells[· % v.cells.size]!)) := by
    refine ⟨by simp, fun k row hrow => ?_⟩
    rw [List.getElem?_replicate] at hrow
    split at hrow
    · rename_i hkl
      cases hrow
      refine ⟨hl, fun j b hb => ?_⟩
      have hj : j < z.length := (List.getElem?_eq_some_iff.1 hb).1
      obtain ⟨y, h1, h2⟩ := RelL_get hzr hb
      refine ⟨y, ?_, RelI_of_Rel (List.all_eq_true.1 himm b (List.mem_of_getElem? hb)) (Rel_one (List.all_eq_true.1 hone b (List.mem_of_getElem? hb)) h2) h2⟩
      have hlt : k * P.cellsOf e + j < len * P.cellsOf e := by
        have : k * P.cellsOf e + P.cellsOf e ≤ len * P.cellsOf e := by rw [← Nat.succ_mul]; exact Nat.mul_le_mul_right _ hkl
        omega
      have hmod : (k * P.cellsOf e + j) % v.cells.size = j := by
        rw [hzl, hl, Nat.mul_comm, Nat.mul_add_mod, Nat.mod_eq_of_lt (by omega)]
      rw [Array.getElem?_map, Array.getElem?_range, if_pos hlt]
      simp only [Option.map_some, hmod]
      have hjs : j < v.cells.size := by omega
      rw [getElem!_pos v.cells j hjs, ← h1, Array.getElem?_toList, Array.getElem?_eq_getElem hjs]
    · cases hrow
  obtain ⟨h1, c', h2, h3⟩ := sliceRows_sound _ _ _ _ _ hc0 hb hlen hk
  rw [List.length_replicate] at h1
  refine ⟨.slice (some ⟨w.heap.size, 0, none⟩) len len, { w with heap := w.heap.push (.cells c' e) }, ?_, Ext.push w _ w.drawn, by simp, ?_⟩
  · simp only [Instr.buildSlice, Go.underlying, Sem.run_bind, run_program, Result.andThen_ok, hu, Sem.run_pure, hs]
    rw [if_neg (by omega)]
    by_cases h0 : len * P.cellsOf e = 0
    · have hl0 : len = 0 := by
        rcases Nat.mul_eq_zero.1 h0 with h | h
        · exact h
        · omega
      subst hl0
      simp only [h0, if_true, Sem.run_bind, Sem.run_pure, Result.andThen_ok]
      have e0 : (Array.range 0).map (fun x => (#[] : Array Value)[x % (#[] : Array Value).size]!) = (Array.range (0 * P.cellsOf e)).map (v.cells[· % v.cells.size]!) := by simp
      rw [e0, h2]
      simp [newRow]
    · simp only [if_neg h0, Sem.run_bind, hzv, Result.andThen_ok, Sem.run_pure]
      rw [h2]
      simp [newRow]
  · refine ⟨_, rfl, ?_⟩
    by_cases hn : len = 0
    · exact .inl hn
    · refine .inr ⟨w.heap.size, 0, rfl, .inr rfl, c', e, (0, 0), by simp, fun i hi j hj => ?_⟩
      have hrow : rows[i]? = some rows[i] := List.getElem?_eq_getElem (by omega)
      obtain ⟨h4, h5⟩ := h3.2 i _ hrow
      have hcell : (rows[i])[j]? = some (rows[i])[j] := List.getElem?_eq_getElem (by omega)
      obtain ⟨x, h6, h7⟩ := h5 j _ hcell
      refine ⟨x, by rw [Nat.zero_add]; exact h6, ?_⟩
      have : rowsCell rows i j = (rows[i])[j] := by simp [rowsCell, hrow, hcell]
      rw [this]
      exact RelI_mono (fun b hb => .inl hb) (fun b hb => (Ext.push w (.cells c' e) w.drawn).block b (hS b hb)) _ _ h7

end
end Cg
