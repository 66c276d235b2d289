/-
  Contracts out of codes: tools. No condition.
-/
import Derived.Test.YtdlmjdnjenhnfaaFun
import Derived.KernelRfl
namespace Cg
open Go

section
variable {P : Program} {f : FuncId}

theorem CtxOK.nil : CtxOK P [] := fun _ h => by cases h
theorem CtxOK.cons {g : Nat} {c : Contract} {Γ : Ctx} (h : SoundC P g c) (hΓ : CtxOK P Γ) : CtxOK P ((g, c) :: Γ) := fun x hx => by
  cases List.mem_cons.1 hx with
  | inl e => subst e; exact h
  | inr e => exact hΓ x e

def callableB (P : Program) (g : FuncId) : Bool := match P.funcs[g]? with
  | some fn => !(fn.name == "runtime.NumGoroutine") && !fn.body.isNone
  | none => false

theorem callable_of {g : FuncId} (h : callableB P g = true) : Callable P g := by
  unfold callableB at h
  split at h
  · rename_i fn hf
    simp only [Bool.and_eq_true, Bool.not_eq_true'] at h
    exact ⟨fn, hf, h.1, h.2⟩
  · cases h

theorem sc_of {F : List AV → R} (hc : callableB P f = true) (h : SoundF P f F) : SoundC P f (.sc F) := ⟨callable_of hc, h⟩
theorem im_of {F : List AV → R} (hc : callableB P f = true) (h : SoundF P f F) : SoundC P f (.im F) := ⟨callable_of hc, h⟩

theorem PureAt.weaken {args args' : List AV} {r r' : AV} (h : PureAt P f args' r') (hm : belowL 0 args = true) (hle : frLe 0 args args') (hmr : ∀ k, ment k r' = false) (hr : avLe 0 r' r) : PureAt P f args r := fun S w vals hin hx =>
  (h S w vals hin (frLe_sound (g := 0) (fun _ _ => rfl) (fun _ _ => rfl) (fun k _ => (below_ment (Nat.zero_le k)).2 _ hm) hle hx)).mono fun e w' he => by
    obtain ⟨y, S', rfl, h1, h2, h3, h4, h5⟩ := he
    exact ⟨y, S', rfl, h1, h2, h3, h4, avLe_sound (g := 0) (fun _ _ => rfl) (fun _ _ => rfl) (fun k _ => hmr k) hr h5⟩

theorem PureAt.args {args args' : List AV} {r : AV} (h : PureAt P f args' r) (hm : belowL 0 args = true) (hle : frLe 0 args args') : PureAt P f args r := fun S w vals hin hx =>
  h S w vals hin (frLe_sound (g := 0) (fun _ _ => rfl) (fun _ _ => rfl) (fun k _ => (below_ment (Nat.zero_le k)).2 _ hm) hle hx)

end

def iv : AV → Int
  | .v (.int _ x) => x
  | _ => 0
def bv : AV → Bool
  | .v (.bool x) => x
  | _ => false
def ivs (n : Nat) (cell : Nat → Nat → AV) : List Int := (List.range n).map fun i => iv (cell i 0)
def bvs (n : Nat) (cell : Nat → Nat → AV) : List Bool := (List.range n).map fun i => bv (cell i 0)
def i64 (x : Int) : AV := .v (.int .i64 x)
def bl (x : Bool) : AV := .v (.bool x)
def ints (l : List Int) : AV := .sl l.length 1 fun i _ => .v (.int .i64 (l.getD i 0))
def bools (l : List Bool) : AV := .sl l.length 1 fun i _ => .v (.bool (l.getD i false))
def ints? : AV → Option (Prop × List Int)
  | .sl n e cell => bif Nat.beq e 1 then some (∀ i, i < n → cell i 0 = .v (.int .i64 (iv (cell i 0))), ivs n cell) else none
  | .lit n e cell => bif Nat.beq e 1 then some (∀ i, i < n → cell i 0 = .v (.int .i64 (iv (cell i 0))), ivs n cell) else none
  | _ => none
def bools? : AV → Option (Prop × List Bool)
  | .sl n e cell => bif Nat.beq e 1 then some (∀ i, i < n → cell i 0 = .v (.bool (bv (cell i 0))), bvs n cell) else none
  | .lit n e cell => bif Nat.beq e 1 then some (∀ i, i < n → cell i 0 = .v (.bool (bv (cell i 0))), bvs n cell) else none
  | _ => none

theorem ivs_length (n : Nat) (cell : Nat → Nat → AV) : (ivs n cell).length = n := by simp [ivs]
theorem bvs_length (n : Nat) (cell : Nat → Nat → AV) : (bvs n cell).length = n := by simp [bvs]
theorem ivs_getD {n : Nat} {cell : Nat → Nat → AV} {i : Nat} (h : i < n) : (ivs n cell).getD i 0 = iv (cell i 0) := by simp [ivs, h]
theorem bvs_getD {n : Nat} {cell : Nat → Nat → AV} {i : Nat} (h : i < n) : (bvs n cell).getD i false = bv (cell i 0) := by simp [bvs, h]
theorem ivs_ints (l : List Int) : ivs l.length (fun i _ => .v (.int .i64 (l.getD i 0))) = l := by
  refine List.ext_getElem (by simp [ivs]) fun i h1 h2 => ?_
  simp [ivs, iv, h2]
theorem bvs_bools (l : List Bool) : bvs l.length (fun i _ => .v (.bool (l.getD i false))) = l := by
  refine List.ext_getElem (by simp [bvs]) fun i h1 h2 => ?_
  simp [bvs, bv, h2]

theorem ints?_le {a : AV} {p : Prop} {l : List Int} (h : ints? a = some (p, l)) (hp : p) : below 0 a = true ∧ avLe 0 a (ints l) := by
  unfold ints? at h
  split at h
  · rename_i n e cell
    cases he : Nat.beq e 1
    · simp [he] at h
    · simp only [he, cond_true, Option.some.injEq, Prod.mk.injEq] at h
      obtain ⟨rfl, rfl⟩ := h
      have := Nat.eq_of_beq_eq_true he
      subst this
      refine ⟨rfl, (ivs_length _ _).symm, rfl, fun i hi j hj => ?_⟩
      have : j = 0 := by omega
      subst this
      have hq := hp i hi
      show cell i 0 = .v (.int .i64 ((ivs _ cell).getD i 0))
      rw [ivs_getD hi]
      exact hq
  · rename_i n e cell
    cases he : Nat.beq e 1
    · simp [he] at h
    · simp only [he, cond_true, Option.some.injEq, Prod.mk.injEq] at h
      obtain ⟨rfl, rfl⟩ := h
      have := Nat.eq_of_beq_eq_true he
      subst this
      refine ⟨rfl, (ivs_length _ _).symm, .inr ⟨rfl, fun i hi j hj => ?_⟩⟩
      have : j = 0 := by omega
      subst this
      have hq := hp i hi
      show cell i 0 = .v (.int .i64 ((ivs _ cell).getD i 0))
      rw [ivs_getD hi]
      exact hq
  · cases h

theorem bools?_le {a : AV} {p : Prop} {l : List Bool} (h : bools? a = some (p, l)) (hp : p) : below 0 a = true ∧ avLe 0 a (bools l) := by
  unfold bools? at h
  split at h
  · rename_i n e cell
    cases he : Nat.beq e 1
    · simp [he] at h
    · simp only [he, cond_true, Option.some.injEq, Prod.mk.injEq] at h
      obtain ⟨rfl, rfl⟩ := h
      have := Nat.eq_of_beq_eq_true he
      subst this
      refine ⟨rfl, (bvs_length _ _).symm, rfl, fun i hi j hj => ?_⟩
      have : j = 0 := by omega
      subst this
      have hq := hp i hi
      show cell i 0 = .v (.bool ((bvs _ cell).getD i false))
      rw [bvs_getD hi]
      exact hq
  · rename_i n e cell
    cases he : Nat.beq e 1
    · simp [he] at h
    · simp only [he, cond_true, Option.some.injEq, Prod.mk.injEq] at h
      obtain ⟨rfl, rfl⟩ := h
      have := Nat.eq_of_beq_eq_true he
      subst this
      refine ⟨rfl, (bvs_length _ _).symm, .inr ⟨rfl, fun i hi j hj => ?_⟩⟩
      have : j = 0 := by omega
      subst this
      have hq := hp i hi
      show cell i 0 = .v (.bool ((bvs _ cell).getD i false))
      rw [bvs_getD hi]
      exact hq
  · cases h

theorem condP_iff (c : Bool) (a b : Prop) : condP c a b ↔ (c = true → a) ∧ (c = false → b) := by
  cases c <;> simp [condP]

end Cg
