/-
  What the law leans on, part 3. No condition.
-/
import Derived.Test.YtfgchlkagiihnaaGreatDoorProg
import Derived.Lib.LaidTab
import Derived.LaidSub
import Derived.LaidMore
import Derived.Lay
import Derived.MakeChecks
import Derived.Handed
import Derived.Stop.LaidErr
import Derived.Shelf.Vars
import Derived.LaidLaws
import Derived.Test.YtfgchlkagiihnaaGreatDoorRows
import Derived.Test.YtfgchlkagiihnaaGreatDoorFnExactLitReadB1
import Derived.Test.YtfgchlkagiihnaaGreatDoorFnExactLitReadB2
/-
  What the law leans on, part 3. No condition.
-/
/-
  What the law leans on, part 3. No condition.
-/
/-
  What is left to show of each function's code, printed by a program: Ado. No condition.
-/
set_option maxRecDepth 100000
set_option linter.unusedVariables false
namespace Cg
open Go Go.Proofs
theorem vc_readTermO (n : Nat) (s : ByteArray) (d : Nat) : ((∃ x : Nat,
 (x ≤ s.size ∧ x + Pl.wl (List.drop x (Pl.bl' s)) = Pl.wl (Pl.bl' s)) ∧ (s = s ∧ (5 : Int) - (↑d : Int) = (5 : Int) - (↑d : Int) ∧ (0 : Nat) = (0 : Nat) ∧ (0 : Int) = (↑x : Int) ∧ True) ∧ (ByteArray.mk #[] = ByteArray.empty ∧ Is (AV.lit (0 : Nat) (1 : Nat) fun (x x_1 : Nat) => AV.any) nilA ∧ True) ∧ True) ∧ ∀ (x : Nat),
 x ≤ s.size ∧ x + Pl.wl (List.drop x (Pl.bl' s)) = Pl.wl (Pl.bl' s) →
 condP (decide ((↑x : Int) < (↑s.size : Int)))
 (((0 : Int) ≤ (↑x : Int) ∧ (↑x : Int) < (↑s.size : Int)) ∧ condP (decide ((↑(s.data.getD x (0 : UInt8)).toNat : Int) ≥ (97 : Int)))
 (((0 : Int) ≤ (↑x : Int) ∧ (↑x : Int) < (↑s.size : Int)) ∧ condP (decide ((↑(s.data.getD x (0 : UInt8)).toNat : Int) ≤ (122 : Int)))
 (Exists fun (x' : Nat) =>
 (x' ≤ s.size ∧ x' + Pl.wl (List.drop x' (Pl.bl' s)) = Pl.wl (Pl.bl' s)) ∧ s.size - x' < s.size - x ∧ (s = s ∧ (5 : Int) - (↑d : Int) = (5 : Int) - (↑d : Int) ∧ (0 : Nat) = (0 : Nat) ∧ IntKind.i64.wrap ((↑x : Int) + (1 : Int)) = (↑x' : Int) ∧ True) ∧ (ByteArray.empty = ByteArray.empty ∧ Is (AV.lit (0 : Nat) (1 : Nat) fun (x x_1 : Nat) => AV.any) nilA ∧ True) ∧ True)
 (((0 : Int) ≤ (↑x : Int) ∧ (↑x : Int) ≤ (↑s.size : Int)) ∧ ((0 : Int) ≤ (↑x : Int) ∧ (↑x : Int) ≤ (↑s.size : Int)) ∧ condP (decide ((5 : Int) - (↑d : Int) > (4 : Int)))
 (∃ y : Unit,
 True ∧ (((ByteArray.mk #[] = (Pl.rdT false d (Pl.bl' s)).1.1 ∧ ((0 : Nat) = (0 : Nat) ∧ (0 : Nat) = (0 : Nat) ∧ (Pl.rdT false d (Pl.bl' s)).1.2.length = (0 : Nat)) ∧ True) ∧ ByteArray.mk #[] = Pl.restB (Pl.rdT false d (Pl.bl' s)).2 ∧ false = (Pl.rdT false d (Pl.bl' s)).2.isSome ∧ True) ∧ True) ∧ (Pl.rdT false d (Pl.bl' s)).1.2.length = (0 : Nat) ∧ True)
 (∃ x_1 : ByteArray,
 (s.extract (0 : Nat) x = x_1 ∧ True) ∧ x_1.size ≤ (1048576 : Nat) ∧ condP (!Pl.nameOk x_1)
 (∃ y : Unit,
 True ∧ (((ByteArray.mk #[] = (Pl.rdT false d (Pl.bl' s)).1.1 ∧ ((0 : Nat) = (0 : Nat) ∧ (0 : Nat) = (0 : Nat) ∧ (Pl.rdT false d (Pl.bl' s)).1.2.length = (0 : Nat)) ∧ True) ∧ ByteArray.mk #[] = Pl.restB (Pl.rdT false d (Pl.bl' s)).2 ∧ false = (Pl.rdT false d (Pl.bl' s)).2.isSome ∧ True) ∧ True) ∧ (Pl.rdT false d (Pl.bl' s)).1.2.length = (0 : Nat) ∧ True)
 (∃ x_2 : ByteArray × ByteArray,
 (s.extract x s.size = x_2.1 ∧ ByteArray.mk #[(40 : UInt8)] = x_2.2 ∧ True) ∧ x_2.1.size.le (4294967280 : Nat) ∧ condP (!Lib.hasPrefix (Pl.bl' x_2.1) (Pl.bl' x_2.2))
 (∃ y : Unit,
 True ∧ (((s.extract (0 : Nat) x = (Pl.rdT false d (Pl.bl' s)).1.1 ∧ ((0 : Nat) = (0 : Nat) ∧ (0 : Nat) = (0 : Nat) ∧ (Pl.rdT false d (Pl.bl' s)).1.2.length = (0 : Nat)) ∧ True) ∧ s.extract x s.size = Pl.restB (Pl.rdT false d (Pl.bl' s)).2 ∧ true = (Pl.rdT false d (Pl.bl' s)).2.isSome ∧ True) ∧ True) ∧ (Pl.rdT false d (Pl.bl' s)).1.2.length = (0 : Nat) ∧ True)
 ((∃ x_3 : List UInt8 × List Pl.Tm,
 (x_3.1.length ≤ s.size ∧ x_3.2.length ≤ (2 : Nat) ∧ (0 : Nat) < d ∧ Pl.kidsR (Pl.rdT false (d - (1 : Nat))) false (Pl.wname (Pl.bl' s)) ((2 : Nat) - x_3.2.length) x_3.2 x_3.1 =
 Pl.rdT false d (Pl.bl' s)) ∧ ((5 : Int) - (↑d : Int) = (5 : Int) - (↑d : Int) ∧ (0 : Nat) = (0 : Nat) ∧ (0 : Nat) = (0 : Nat) ∧ s.extract x s.size = Pl.mkB x_3.1 ∧ True) ∧ (ByteArray.empty = ByteArray.empty ∧ Is (AV.lit (0 : Nat) (1 : Nat) fun (x x_4 : Nat) => AV.any) nilA ∧ True) ∧ (s.extract (0 : Nat) x = Pl.wname (Pl.bl' s) ∧ ((0 : Nat) = (0 : Nat) ∧ (0 : Nat) = (0 : Nat) ∧ x_3.2.length = (0 : Nat)) ∧ True) ∧ x_3.2.length = (0 : Nat) ∧ True) ∧ ∀ (x : List UInt8 × List Pl.Tm),
 x.1.length ≤ s.size ∧ x.2.length ≤ (2 : Nat) ∧ (0 : Nat) < d ∧ Pl.kidsR (Pl.rdT false (d - (1 : Nat))) false (Pl.wname (Pl.bl' s)) ((2 : Nat) - x.2.length) x.2 x.1 =
 Pl.rdT false d (Pl.bl' s) →
 condP (!(Pl.mkB x.1).toList == (ByteArray.mk #[]).toList)
 (((0 : Int) ≤ (0 : Int) ∧ (0 : Int) < (↑(Pl.mkB x.1).size : Int)) ∧ condP ((↑((Pl.mkB x.1).data.getD (0 : Nat) (0 : UInt8)).toNat : Int) != (41 : Int))
 (condP (decide ((↑x.2.length : Int) < (2 : Int)))
 (((0 : Int) ≤ (1 : Int) ∧ (1 : Int) ≤ (↑(Pl.mkB x.1).size : Int)) ∧ ∃ x_3 : ByteArray × Nat,
 ((x_3.1.size.le (1048576 : Nat) ∧ x_3.2 ≤ (4 : Nat)) ∧ x_3.2 < n) ∧ (((Pl.mkB x.1).extract (1 : Nat) (Pl.mkB x.1).size = x_3.1 ∧ IntKind.i64.wrap ((5 : Int) - (↑d : Int) + (1 : Int)) = (5 : Int) - (↑x_3.2 : Int) ∧ True) ∧ True) ∧ ∀ (y : Unit),
 True →
 condP (!(Pl.rdT false x_3.2 (Pl.bl' x_3.1)).2.isSome)
 (∃ y : Unit,
 True ∧ (((ByteArray.mk #[] = (Pl.rdT false d (Pl.bl' s)).1.1 ∧ ((0 : Nat) = (0 : Nat) ∧ (0 : Nat) = (0 : Nat) ∧ (Pl.rdT false d (Pl.bl' s)).1.2.length = (0 : Nat)) ∧ True) ∧ ByteArray.mk #[] = Pl.restB (Pl.rdT false d (Pl.bl' s)).2 ∧ false = (Pl.rdT false d (Pl.bl' s)).2.isSome ∧ True) ∧ True) ∧ (Pl.rdT false d (Pl.bl' s)).1.2.length = (0 : Nat) ∧ True)
 (x.2.length = x.2.length ∧ (0 : Nat) + (Pl.rdT false x_3.2 (Pl.bl' x_3.1)).1.2.length ≤
 (Pl.rdT false x_3.2 (Pl.bl' x_3.1)).1.2.length ∧ (x.2.length + (1 : Nat)) * (40 : Nat) ≤ (70368744177664 : Nat) ∧ Exists fun (x' : List UInt8 × List Pl.Tm) =>
 (x'.1.length ≤ s.size ∧ x'.2.length ≤ (2 : Nat) ∧ (0 : Nat) < d ∧ Pl.kidsR (Pl.rdT false (d - (1 : Nat))) false (Pl.wname (Pl.bl' s)) ((2 : Nat) - x'.2.length) x'.2
 x'.1 =
 Pl.rdT false d (Pl.bl' s)) ∧ (2 : Nat) - x'.2.length < (2 : Nat) - x.2.length ∧ ((5 : Int) - (↑d : Int) = (5 : Int) - (↑d : Int) ∧ (0 : Nat) = (0 : Nat) ∧ (0 : Nat) = (0 : Nat) ∧ Pl.restB (Pl.rdT false x_3.2 (Pl.bl' x_3.1)).2 = Pl.mkB x'.1 ∧ True) ∧ (ByteArray.empty = ByteArray.empty ∧ Is (AV.lit (0 : Nat) (1 : Nat) fun (x x_4 : Nat) => AV.any) nilA ∧ True) ∧ (Pl.wname (Pl.bl' s) = Pl.wname (Pl.bl' s) ∧ ((0 : Nat) = (0 : Nat) ∧ x.2.length + (1 : Nat) = x'.2.length) ∧ True) ∧ IsO
 (AObj.xarr (x.2.length + (1 : Nat)) (2 : Nat)
 (joinC x.2.length (cT x.2)
 (rowsCell
 [[st (Pl.rdT false x_3.2 (Pl.bl' x_3.1)).1.1,
 terms (Pl.rdT false x_3.2 (Pl.bl' x_3.1)).1.2]])))
 (xrT x'.2) ∧ True))
 (∃ x_3 : ByteArray × ByteArray,
 (Pl.mkB x.1 = x_3.1 ∧ ByteArray.mk #[(41 : UInt8)] = x_3.2 ∧ True) ∧ x_3.1.size.le (4294967280 : Nat) ∧ condP (!Lib.hasPrefix (Pl.bl' x_3.1) (Pl.bl' x_3.2))
 (∃ y : Unit,
 True ∧ (((ByteArray.mk #[] = (Pl.rdT false d (Pl.bl' s)).1.1 ∧ ((0 : Nat) = (0 : Nat) ∧ (0 : Nat) = (0 : Nat) ∧ (Pl.rdT false d (Pl.bl' s)).1.2.length = (0 : Nat)) ∧ True) ∧ ByteArray.mk #[] = Pl.restB (Pl.rdT false d (Pl.bl' s)).2 ∧ false = (Pl.rdT false d (Pl.bl' s)).2.isSome ∧ True) ∧ True) ∧ (Pl.rdT false d (Pl.bl' s)).1.2.length = (0 : Nat) ∧ True)
 (((0 : Int) ≤ (1 : Int) ∧ (1 : Int) ≤ (↑(Pl.mkB x.1).size : Int)) ∧ ∃ y : Unit,
 True ∧ (((Pl.wname (Pl.bl' s) = (Pl.rdT false d (Pl.bl' s)).1.1 ∧ ((0 : Nat) = (0 : Nat) ∧ x.2.length = (Pl.rdT false d (Pl.bl' s)).1.2.length) ∧ True) ∧ (Pl.mkB x.1).extract (1 : Nat) (Pl.mkB x.1).size = Pl.restB (Pl.rdT false d (Pl.bl' s)).2 ∧ true = (Pl.rdT false d (Pl.bl' s)).2.isSome ∧ True) ∧ True) ∧ IsO (xrT x.2) (xrT (Pl.rdT false d (Pl.bl' s)).1.2) ∧ True)))
 (∃ x_3 : ByteArray × ByteArray,
 (Pl.mkB x.1 = x_3.1 ∧ ByteArray.mk #[(41 : UInt8)] = x_3.2 ∧ True) ∧ x_3.1.size.le (4294967280 : Nat) ∧ condP (!Lib.hasPrefix (Pl.bl' x_3.1) (Pl.bl' x_3.2))
 (∃ y : Unit,
 True ∧ (((ByteArray.mk #[] = (Pl.rdT false d (Pl.bl' s)).1.1 ∧ ((0 : Nat) = (0 : Nat) ∧ (0 : Nat) = (0 : Nat) ∧ (Pl.rdT false d (Pl.bl' s)).1.2.length = (0 : Nat)) ∧ True) ∧ ByteArray.mk #[] = Pl.restB (Pl.rdT false d (Pl.bl' s)).2 ∧ false = (Pl.rdT false d (Pl.bl' s)).2.isSome ∧ True) ∧ True) ∧ (Pl.rdT false d (Pl.bl' s)).1.2.length = (0 : Nat) ∧ True)
 (((0 : Int) ≤ (1 : Int) ∧ (1 : Int) ≤ (↑(Pl.mkB x.1).size : Int)) ∧ ∃ y : Unit,
 True ∧ (((Pl.wname (Pl.bl' s) = (Pl.rdT false d (Pl.bl' s)).1.1 ∧ ((0 : Nat) = (0 : Nat) ∧ x.2.length = (Pl.rdT false d (Pl.bl' s)).1.2.length) ∧ True) ∧ (Pl.mkB x.1).extract (1 : Nat) (Pl.mkB x.1).size = Pl.restB (Pl.rdT false d (Pl.bl' s)).2 ∧ true = (Pl.rdT false d (Pl.bl' s)).2.isSome ∧ True) ∧ True) ∧ IsO (xrT x.2) (xrT (Pl.rdT false d (Pl.bl' s)).1.2) ∧ True)))
 (∃ x_3 : ByteArray × ByteArray,
 (Pl.mkB x.1 = x_3.1 ∧ ByteArray.mk #[(41 : UInt8)] = x_3.2 ∧ True) ∧ x_3.1.size.le (4294967280 : Nat) ∧ condP (!Lib.hasPrefix (Pl.bl' x_3.1) (Pl.bl' x_3.2))
 (∃ y : Unit,
 True ∧ (((ByteArray.mk #[] = (Pl.rdT false d (Pl.bl' s)).1.1 ∧ ((0 : Nat) = (0 : Nat) ∧ (0 : Nat) = (0 : Nat) ∧ (Pl.rdT false d (Pl.bl' s)).1.2.length = (0 : Nat)) ∧ True) ∧ ByteArray.mk #[] = Pl.restB (Pl.rdT false d (Pl.bl' s)).2 ∧ false = (Pl.rdT false d (Pl.bl' s)).2.isSome ∧ True) ∧ True) ∧ (Pl.rdT false d (Pl.bl' s)).1.2.length = (0 : Nat) ∧ True)
 (((0 : Int) ≤ (1 : Int) ∧ (1 : Int) ≤ (↑(Pl.mkB x.1).size : Int)) ∧ ∃ y : Unit,
 True ∧ (((Pl.wname (Pl.bl' s) = (Pl.rdT false d (Pl.bl' s)).1.1 ∧ ((0 : Nat) = (0 : Nat) ∧ x.2.length = (Pl.rdT false d (Pl.bl' s)).1.2.length) ∧ True) ∧ (Pl.mkB x.1).extract (1 : Nat) (Pl.mkB x.1).size = Pl.restB (Pl.rdT false d (Pl.bl' s)).2 ∧ true = (Pl.rdT false d (Pl.bl' s)).2.isSome ∧ True) ∧ True) ∧ IsO (xrT x.2) (xrT (Pl.rdT false d (Pl.bl' s)).1.2) ∧ True)))))))
 (((0 : Int) ≤ (↑x : Int) ∧ (↑x : Int) ≤ (↑s.size : Int)) ∧ ((0 : Int) ≤ (↑x : Int) ∧ (↑x : Int) ≤ (↑s.size : Int)) ∧ condP (decide ((5 : Int) - (↑d : Int) > (4 : Int)))
 (∃ y : Unit,
 True ∧ (((ByteArray.mk #[] = (Pl.rdT false d (Pl.bl' s)).1.1 ∧ ((0 : Nat) = (0 : Nat) ∧ (0 : Nat) = (0 : Nat) ∧ (Pl.rdT false d (Pl.bl' s)).1.2.length = (0 : Nat)) ∧ True) ∧ ByteArray.mk #[] = Pl.restB (Pl.rdT false d (Pl.bl' s)).2 ∧ false = (Pl.rdT false d (Pl.bl' s)).2.isSome ∧ True) ∧ True) ∧ (Pl.rdT false d (Pl.bl' s)).1.2.length = (0 : Nat) ∧ True)
 (∃ x_1 : ByteArray,
 (s.extract (0 : Nat) x = x_1 ∧ True) ∧ x_1.size ≤ (1048576 : Nat) ∧ condP (!Pl.nameOk x_1)
 (∃ y : Unit,
 True ∧ (((ByteArray.mk #[] = (Pl.rdT false d (Pl.bl' s)).1.1 ∧ ((0 : Nat) = (0 : Nat) ∧ (0 : Nat) = (0 : Nat) ∧ (Pl.rdT false d (Pl.bl' s)).1.2.length = (0 : Nat)) ∧ True) ∧ ByteArray.mk #[] = Pl.restB (Pl.rdT false d (Pl.bl' s)).2 ∧ false = (Pl.rdT false d (Pl.bl' s)).2.isSome ∧ True) ∧ True) ∧ (Pl.rdT false d (Pl.bl' s)).1.2.length = (0 : Nat) ∧ True)
 (∃ x_2 : ByteArray × ByteArray,
 (s.extract x s.size = x_2.1 ∧ ByteArray.mk #[(40 : UInt8)] = x_2.2 ∧ True) ∧ x_2.1.size.le (4294967280 : Nat) ∧ condP (!Lib.hasPrefix (Pl.bl' x_2.1) (Pl.bl' x_2.2))
 (∃ y : Unit,
 True ∧ (((s.extract (0 : Nat) x = (Pl.rdT false d (Pl.bl' s)).1.1 ∧ ((0 : Nat) = (0 : Nat) ∧ (0 : Nat) = (0 : Nat) ∧ (Pl.rdT false d (Pl.bl' s)).1.2.length = (0 : Nat)) ∧ True) ∧ s.extract x s.size = Pl.restB (Pl.rdT false d (Pl.bl' s)).2 ∧ true = (Pl.rdT false d (Pl.bl' s)).2.isSome ∧ True) ∧ True) ∧ (Pl.rdT false d (Pl.bl' s)).1.2.length = (0 : Nat) ∧ True)
 ((∃ x_3 : List UInt8 × List Pl.Tm,
 (x_3.1.length ≤ s.size ∧ x_3.2.length ≤ (2 : Nat) ∧ (0 : Nat) < d ∧ Pl.kidsR (Pl.rdT false (d - (1 : Nat))) false (Pl.wname (Pl.bl' s)) ((2 : Nat) - x_3.2.length) x_3.2 x_3.1 =
 Pl.rdT false d (Pl.bl' s)) ∧ ((5 : Int) - (↑d : Int) = (5 : Int) - (↑d : Int) ∧ (0 : Nat) = (0 : Nat) ∧ (0 : Nat) = (0 : Nat) ∧ s.extract x s.size = Pl.mkB x_3.1 ∧ True) ∧ (ByteArray.empty = ByteArray.empty ∧ Is (AV.lit (0 : Nat) (1 : Nat) fun (x x_4 : Nat) => AV.any) nilA ∧ True) ∧ (s.extract (0 : Nat) x = Pl.wname (Pl.bl' s) ∧ ((0 : Nat) = (0 : Nat) ∧ (0 : Nat) = (0 : Nat) ∧ x_3.2.length = (0 : Nat)) ∧ True) ∧ x_3.2.length = (0 : Nat) ∧ True) ∧ ∀ (x : List UInt8 × List Pl.Tm),
 x.1.length ≤ s.size ∧ x.2.length ≤ (2 : Nat) ∧ (0 : Nat) < d ∧ Pl.kidsR (Pl.rdT false (d - (1 : Nat))) false (Pl.wname (Pl.bl' s)) ((2 : Nat) - x.2.length) x.2 x.1 = Pl.rdT false d (Pl.bl' s) →
 condP (!(Pl.mkB x.1).toList == (ByteArray.mk #[]).toList)
 (((0 : Int) ≤ (0 : Int) ∧ (0 : Int) < (↑(Pl.mkB x.1).size : Int)) ∧ condP ((↑((Pl.mkB x.1).data.getD (0 : Nat) (0 : UInt8)).toNat : Int) != (41 : Int))
 (condP (decide ((↑x.2.length : Int) < (2 : Int)))
 (((0 : Int) ≤ (1 : Int) ∧ (1 : Int) ≤ (↑(Pl.mkB x.1).size : Int)) ∧ ∃ x_3 : ByteArray × Nat,
 ((x_3.1.size.le (1048576 : Nat) ∧ x_3.2 ≤ (4 : Nat)) ∧ x_3.2 < n) ∧ (((Pl.mkB x.1).extract (1 : Nat) (Pl.mkB x.1).size = x_3.1 ∧ IntKind.i64.wrap ((5 : Int) - (↑d : Int) + (1 : Int)) = (5 : Int) - (↑x_3.2 : Int) ∧ True) ∧ True) ∧ ∀ (y : Unit),
 True →
 condP (!(Pl.rdT false x_3.2 (Pl.bl' x_3.1)).2.isSome)
 (∃ y : Unit,
 True ∧ (((ByteArray.mk #[] = (Pl.rdT false d (Pl.bl' s)).1.1 ∧ ((0 : Nat) = (0 : Nat) ∧ (0 : Nat) = (0 : Nat) ∧ (Pl.rdT false d (Pl.bl' s)).1.2.length = (0 : Nat)) ∧ True) ∧ ByteArray.mk #[] = Pl.restB (Pl.rdT false d (Pl.bl' s)).2 ∧ false = (Pl.rdT false d (Pl.bl' s)).2.isSome ∧ True) ∧ True) ∧ (Pl.rdT false d (Pl.bl' s)).1.2.length = (0 : Nat) ∧ True)
 (x.2.length = x.2.length ∧ (0 : Nat) + (Pl.rdT false x_3.2 (Pl.bl' x_3.1)).1.2.length ≤ (Pl.rdT false x_3.2 (Pl.bl' x_3.1)).1.2.length ∧ (x.2.length + (1 : Nat)) * (40 : Nat) ≤ (70368744177664 : Nat) ∧ Exists fun (x' : List UInt8 × List Pl.Tm) =>
 (x'.1.length ≤ s.size ∧ x'.2.length ≤ (2 : Nat) ∧ (0 : Nat) < d ∧ Pl.kidsR (Pl.rdT false (d - (1 : Nat))) false (Pl.wname (Pl.bl' s)) ((2 : Nat) - x'.2.length) x'.2 x'.1 =
 Pl.rdT false d (Pl.bl' s)) ∧ (2 : Nat) - x'.2.length < (2 : Nat) - x.2.length ∧ ((5 : Int) - (↑d : Int) = (5 : Int) - (↑d : Int) ∧ (0 : Nat) = (0 : Nat) ∧ (0 : Nat) = (0 : Nat) ∧ Pl.restB (Pl.rdT false x_3.2 (Pl.bl' x_3.1)).2 = Pl.mkB x'.1 ∧ True) ∧ (ByteArray.empty = ByteArray.empty ∧ Is (AV.lit (0 : Nat) (1 : Nat) fun (x x_4 : Nat) => AV.any) nilA ∧ True) ∧ (Pl.wname (Pl.bl' s) = Pl.wname (Pl.bl' s) ∧ ((0 : Nat) = (0 : Nat) ∧ x.2.length + (1 : Nat) = x'.2.length) ∧ True) ∧ IsO
 (AObj.xarr (x.2.length + (1 : Nat)) (2 : Nat)
 (joinC x.2.length (cT x.2)
 (rowsCell
 [[st (Pl.rdT false x_3.2 (Pl.bl' x_3.1)).1.1,
 terms (Pl.rdT false x_3.2 (Pl.bl' x_3.1)).1.2]])))
 (xrT x'.2) ∧ True))
 (∃ x_3 : ByteArray × ByteArray,
 (Pl.mkB x.1 = x_3.1 ∧ ByteArray.mk #[(41 : UInt8)] = x_3.2 ∧ True) ∧ x_3.1.size.le (4294967280 : Nat) ∧ condP (!Lib.hasPrefix (Pl.bl' x_3.1) (Pl.bl' x_3.2))
 (∃ y : Unit,
 True ∧ (((ByteArray.mk #[] = (Pl.rdT false d (Pl.bl' s)).1.1 ∧ ((0 : Nat) = (0 : Nat) ∧ (0 : Nat) = (0 : Nat) ∧ (Pl.rdT false d (Pl.bl' s)).1.2.length = (0 : Nat)) ∧ True) ∧ ByteArray.mk #[] = Pl.restB (Pl.rdT false d (Pl.bl' s)).2 ∧ false = (Pl.rdT false d (Pl.bl' s)).2.isSome ∧ True) ∧ True) ∧ (Pl.rdT false d (Pl.bl' s)).1.2.length = (0 : Nat) ∧ True)
 (((0 : Int) ≤ (1 : Int) ∧ (1 : Int) ≤ (↑(Pl.mkB x.1).size : Int)) ∧ ∃ y : Unit,
 True ∧ (((Pl.wname (Pl.bl' s) = (Pl.rdT false d (Pl.bl' s)).1.1 ∧ ((0 : Nat) = (0 : Nat) ∧ x.2.length = (Pl.rdT false d (Pl.bl' s)).1.2.length) ∧ True) ∧ (Pl.mkB x.1).extract (1 : Nat) (Pl.mkB x.1).size = Pl.restB (Pl.rdT false d (Pl.bl' s)).2 ∧ true = (Pl.rdT false d (Pl.bl' s)).2.isSome ∧ True) ∧ True) ∧ IsO (xrT x.2) (xrT (Pl.rdT false d (Pl.bl' s)).1.2) ∧ True)))
 (∃ x_3 : ByteArray × ByteArray,
 (Pl.mkB x.1 = x_3.1 ∧ ByteArray.mk #[(41 : UInt8)] = x_3.2 ∧ True) ∧ x_3.1.size.le (4294967280 : Nat) ∧ condP (!Lib.hasPrefix (Pl.bl' x_3.1) (Pl.bl' x_3.2))
 (∃ y : Unit,
 True ∧ (((ByteArray.mk #[] = (Pl.rdT false d (Pl.bl' s)).1.1 ∧ ((0 : Nat) = (0 : Nat) ∧ (0 : Nat) = (0 : Nat) ∧ (Pl.rdT false d (Pl.bl' s)).1.2.length = (0 : Nat)) ∧ True) ∧ ByteArray.mk #[] = Pl.restB (Pl.rdT false d (Pl.bl' s)).2 ∧ false = (Pl.rdT false d (Pl.bl' s)).2.isSome ∧ True) ∧ True) ∧ (Pl.rdT false d (Pl.bl' s)).1.2.length = (0 : Nat) ∧ True)
 (((0 : Int) ≤ (1 : Int) ∧ (1 : Int) ≤ (↑(Pl.mkB x.1).size : Int)) ∧ ∃ y : Unit,
 True ∧ (((Pl.wname (Pl.bl' s) = (Pl.rdT false d (Pl.bl' s)).1.1 ∧ ((0 : Nat) = (0 : Nat) ∧ x.2.length = (Pl.rdT false d (Pl.bl' s)).1.2.length) ∧ True) ∧ (Pl.mkB x.1).extract (1 : Nat) (Pl.mkB x.1).size = Pl.restB (Pl.rdT false d (Pl.bl' s)).2 ∧ true = (Pl.rdT false d (Pl.bl' s)).2.isSome ∧ True) ∧ True) ∧ IsO (xrT x.2) (xrT (Pl.rdT false d (Pl.bl' s)).1.2) ∧ True)))
 (∃ x_3 : ByteArray × ByteArray,
 (Pl.mkB x.1 = x_3.1 ∧ ByteArray.mk #[(41 : UInt8)] = x_3.2 ∧ True) ∧ x_3.1.size.le (4294967280 : Nat) ∧ condP (!Lib.hasPrefix (Pl.bl' x_3.1) (Pl.bl' x_3.2))
 (∃ y : Unit,
 True ∧ (((ByteArray.mk #[] = (Pl.rdT false d (Pl.bl' s)).1.1 ∧ ((0 : Nat) = (0 : Nat) ∧ (0 : Nat) = (0 : Nat) ∧ (Pl.rdT false d (Pl.bl' s)).1.2.length = (0 : Nat)) ∧ True) ∧ ByteArray.mk #[] = Pl.restB (Pl.rdT false d (Pl.bl' s)).2 ∧ false = (Pl.rdT false d (Pl.bl' s)).2.isSome ∧ True) ∧ True) ∧ (Pl.rdT false d (Pl.bl' s)).1.2.length = (0 : Nat) ∧ True)
 (((0 : Int) ≤ (1 : Int) ∧ (1 : Int) ≤ (↑(Pl.mkB x.1).size : Int)) ∧ ∃ y : Unit,
 True ∧ (((Pl.wname (Pl.bl' s) = (Pl.rdT false d (Pl.bl' s)).1.1 ∧ ((0 : Nat) = (0 : Nat) ∧ x.2.length = (Pl.rdT false d (Pl.bl' s)).1.2.length) ∧ True) ∧ (Pl.mkB x.1).extract (1 : Nat) (Pl.mkB x.1).size = Pl.restB (Pl.rdT false d (Pl.bl' s)).2 ∧ true = (Pl.rdT false d (Pl.bl' s)).2.isSome ∧ True) ∧ True) ∧ IsO (xrT x.2) (xrT (Pl.rdT false d (Pl.bl' s)).1.2) ∧ True)))))))
 (((0 : Int) ≤ (↑x : Int) ∧ (↑x : Int) ≤ (↑s.size : Int)) ∧ ((0 : Int) ≤ (↑x : Int) ∧ (↑x : Int) ≤ (↑s.size : Int)) ∧ condP (decide ((5 : Int) - (↑d : Int) > (4 : Int)))
 (∃ y : Unit,
 True ∧ (((ByteArray.mk #[] = (Pl.rdT false d (Pl.bl' s)).1.1 ∧ ((0 : Nat) = (0 : Nat) ∧ (0 : Nat) = (0 : Nat) ∧ (Pl.rdT false d (Pl.bl' s)).1.2.length = (0 : Nat)) ∧ True) ∧ ByteArray.mk #[] = Pl.restB (Pl.rdT false d (Pl.bl' s)).2 ∧ false = (Pl.rdT false d (Pl.bl' s)).2.isSome ∧ True) ∧ True) ∧ (Pl.rdT false d (Pl.bl' s)).1.2.length = (0 : Nat) ∧ True)
 (∃ x_1 : ByteArray,
 (s.extract (0 : Nat) x = x_1 ∧ True) ∧ x_1.size ≤ (1048576 : Nat) ∧ condP (!Pl.nameOk x_1)
 (∃ y : Unit,
 True ∧ (((ByteArray.mk #[] = (Pl.rdT false d (Pl.bl' s)).1.1 ∧ ((0 : Nat) = (0 : Nat) ∧ (0 : Nat) = (0 : Nat) ∧ (Pl.rdT false d (Pl.bl' s)).1.2.length = (0 : Nat)) ∧ True) ∧ ByteArray.mk #[] = Pl.restB (Pl.rdT false d (Pl.bl' s)).2 ∧ false = (Pl.rdT false d (Pl.bl' s)).2.isSome ∧ True) ∧ True) ∧ (Pl.rdT false d (Pl.bl' s)).1.2.length = (0 : Nat) ∧ True)
 (∃ x_2 : ByteArray × ByteArray,
 (s.extract x s.size = x_2.1 ∧ ByteArray.mk #[(40 : UInt8)] = x_2.2 ∧ True) ∧ x_2.1.size.le (4294967280 : Nat) ∧ condP (!Lib.hasPrefix (Pl.bl' x_2.1) (Pl.bl' x_2.2))
 (∃ y : Unit,
 True ∧ (((s.extract (0 : Nat) x = (Pl.rdT false d (Pl.bl' s)).1.1 ∧ ((0 : Nat) = (0 : Nat) ∧ (0 : Nat) = (0 : Nat) ∧ (Pl.rdT false d (Pl.bl' s)).1.2.length = (0 : Nat)) ∧ True) ∧ s.extract x s.size = Pl.restB (Pl.rdT false d (Pl.bl' s)).2 ∧ true = (Pl.rdT false d (Pl.bl' s)).2.isSome ∧ True) ∧ True) ∧ (Pl.rdT false d (Pl.bl' s)).1.2.length = (0 : Nat) ∧ True)
 ((∃ x_3 : List UInt8 × List Pl.Tm,
 (x_3.1.length ≤ s.size ∧ x_3.2.length ≤ (2 : Nat) ∧ (0 : Nat) < d ∧ Pl.kidsR (Pl.rdT false (d - (1 : Nat))) false (Pl.wname (Pl.bl' s)) ((2 : Nat) - x_3.2.length) x_3.2 x_3.1 = Pl.rdT false d (Pl.bl' s)) ∧ ((5 : Int) - (↑d : Int) = (5 : Int) - (↑d : Int) ∧ (0 : Nat) = (0 : Nat) ∧ (0 : Nat) = (0 : Nat) ∧ s.extract x s.size = Pl.mkB x_3.1 ∧ True) ∧ (ByteArray.empty = ByteArray.empty ∧ Is (AV.lit (0 : Nat) (1 : Nat) fun (x x_4 : Nat) => AV.any) nilA ∧ True) ∧ (s.extract (0 : Nat) x = Pl.wname (Pl.bl' s) ∧ ((0 : Nat) = (0 : Nat) ∧ (0 : Nat) = (0 : Nat) ∧ x_3.2.length = (0 : Nat)) ∧ True) ∧ x_3.2.length = (0 : Nat) ∧ True) ∧ ∀ (x : List UInt8 × List Pl.Tm),
 x.1.length ≤ s.size ∧ x.2.length ≤ (2 : Nat) ∧ (0 : Nat) < d ∧ Pl.kidsR (Pl.rdT false (d - (1 : Nat))) false (Pl.wname (Pl.bl' s)) ((2 : Nat) - x.2.length) x.2 x.1 = Pl.rdT false d (Pl.bl' s) →
 condP (!(Pl.mkB x.1).toList == (ByteArray.mk #[]).toList)
 (((0 : Int) ≤ (0 : Int) ∧ (0 : Int) < (↑(Pl.mkB x.1).size : Int)) ∧ condP ((↑((Pl.mkB x.1).data.getD (0 : Nat) (0 : UInt8)).toNat : Int) != (41 : Int))
 (condP (decide ((↑x.2.length : Int) < (2 : Int)))
 (((0 : Int) ≤ (1 : Int) ∧ (1 : Int) ≤ (↑(Pl.mkB x.1).size : Int)) ∧ ∃ x_3 : ByteArray × Nat,
 ((x_3.1.size.le (1048576 : Nat) ∧ x_3.2 ≤ (4 : Nat)) ∧ x_3.2 < n) ∧ (((Pl.mkB x.1).extract (1 : Nat) (Pl.mkB x.1).size = x_3.1 ∧ IntKind.i64.wrap ((5 : Int) - (↑d : Int) + (1 : Int)) = (5 : Int) - (↑x_3.2 : Int) ∧ True) ∧ True) ∧ ∀ (y : Unit),
 True →
 condP (!(Pl.rdT false x_3.2 (Pl.bl' x_3.1)).2.isSome)
 (∃ y : Unit,
 True ∧ (((ByteArray.mk #[] = (Pl.rdT false d (Pl.bl' s)).1.1 ∧ ((0 : Nat) = (0 : Nat) ∧ (0 : Nat) = (0 : Nat) ∧ (Pl.rdT false d (Pl.bl' s)).1.2.length = (0 : Nat)) ∧ True) ∧ ByteArray.mk #[] = Pl.restB (Pl.rdT false d (Pl.bl' s)).2 ∧ false = (Pl.rdT false d (Pl.bl' s)).2.isSome ∧ True) ∧ True) ∧ (Pl.rdT false d (Pl.bl' s)).1.2.length = (0 : Nat) ∧ True)
 (x.2.length = x.2.length ∧ (0 : Nat) + (Pl.rdT false x_3.2 (Pl.bl' x_3.1)).1.2.length ≤ (Pl.rdT false x_3.2 (Pl.bl' x_3.1)).1.2.length ∧ (x.2.length + (1 : Nat)) * (40 : Nat) ≤ (70368744177664 : Nat) ∧ Exists fun (x' : List UInt8 × List Pl.Tm) =>
 (x'.1.length ≤ s.size ∧ x'.2.length ≤ (2 : Nat) ∧ (0 : Nat) < d ∧ Pl.kidsR (Pl.rdT false (d - (1 : Nat))) false (Pl.wname (Pl.bl' s)) ((2 : Nat) - x'.2.length) x'.2 x'.1 =
 Pl.rdT false d (Pl.bl' s)) ∧ (2 : Nat) - x'.2.length < (2 : Nat) - x.2.length ∧ ((5 : Int) - (↑d : Int) = (5 : Int) - (↑d : Int) ∧ (0 : Nat) = (0 : Nat) ∧ (0 : Nat) = (0 : Nat) ∧ Pl.restB (Pl.rdT false x_3.2 (Pl.bl' x_3.1)).2 = Pl.mkB x'.1 ∧ True) ∧ (ByteArray.empty = ByteArray.empty ∧ Is (AV.lit (0 : Nat) (1 : Nat) fun (x x_4 : Nat) => AV.any) nilA ∧ True) ∧ (Pl.wname (Pl.bl' s) = Pl.wname (Pl.bl' s) ∧ ((0 : Nat) = (0 : Nat) ∧ x.2.length + (1 : Nat) = x'.2.length) ∧ True) ∧ IsO
 (AObj.xarr (x.2.length + (1 : Nat)) (2 : Nat)
 (joinC x.2.length (cT x.2)
 (rowsCell
 [[st (Pl.rdT false x_3.2 (Pl.bl' x_3.1)).1.1,
 terms (Pl.rdT false x_3.2 (Pl.bl' x_3.1)).1.2]])))
 (xrT x'.2) ∧ True))
 (∃ x_3 : ByteArray × ByteArray,
 (Pl.mkB x.1 = x_3.1 ∧ ByteArray.mk #[(41 : UInt8)] = x_3.2 ∧ True) ∧ x_3.1.size.le (4294967280 : Nat) ∧ condP (!Lib.hasPrefix (Pl.bl' x_3.1) (Pl.bl' x_3.2))
 (∃ y : Unit,
 True ∧ (((ByteArray.mk #[] = (Pl.rdT false d (Pl.bl' s)).1.1 ∧ ((0 : Nat) = (0 : Nat) ∧ (0 : Nat) = (0 : Nat) ∧ (Pl.rdT false d (Pl.bl' s)).1.2.length = (0 : Nat)) ∧ True) ∧ ByteArray.mk #[] = Pl.restB (Pl.rdT false d (Pl.bl' s)).2 ∧ false = (Pl.rdT false d (Pl.bl' s)).2.isSome ∧ True) ∧ True) ∧ (Pl.rdT false d (Pl.bl' s)).1.2.length = (0 : Nat) ∧ True)
 (((0 : Int) ≤ (1 : Int) ∧ (1 : Int) ≤ (↑(Pl.mkB x.1).size : Int)) ∧ ∃ y : Unit,
 True ∧ (((Pl.wname (Pl.bl' s) = (Pl.rdT false d (Pl.bl' s)).1.1 ∧ ((0 : Nat) = (0 : Nat) ∧ x.2.length = (Pl.rdT false d (Pl.bl' s)).1.2.length) ∧ True) ∧ (Pl.mkB x.1).extract (1 : Nat) (Pl.mkB x.1).size = Pl.restB (Pl.rdT false d (Pl.bl' s)).2 ∧ true = (Pl.rdT false d (Pl.bl' s)).2.isSome ∧ True) ∧ True) ∧ IsO (xrT x.2) (xrT (Pl.rdT false d (Pl.bl' s)).1.2) ∧ True)))
 (∃ x_3 : ByteArray × ByteArray,
 (Pl.mkB x.1 = x_3.1 ∧ ByteArray.mk #[(41 : UInt8)] = x_3.2 ∧ True) ∧ x_3.1.size.le (4294967280 : Nat) ∧ condP (!Lib.hasPrefix (Pl.bl' x_3.1) (Pl.bl' x_3.2))
 (∃ y : Unit,
 True ∧ (((ByteArray.mk #[] = (Pl.rdT false d (Pl.bl' s)).1.1 ∧ ((0 : Nat) = (0 : Nat) ∧ (0 : Nat) = (0 : Nat) ∧ (Pl.rdT false d (Pl.bl' s)).1.2.length = (0 : Nat)) ∧ True) ∧ ByteArray.mk #[] = Pl.restB (Pl.rdT false d (Pl.bl' s)).2 ∧ false = (Pl.rdT false d (Pl.bl' s)).2.isSome ∧ True) ∧ True) ∧ (Pl.rdT false d (Pl.bl' s)).1.2.length = (0 : Nat) ∧ True)
 (((0 : Int) ≤ (1 : Int) ∧ (1 : Int) ≤ (↑(Pl.mkB x.1).size : Int)) ∧ ∃ y : Unit,
 True ∧ (((Pl.wname (Pl.bl' s) = (Pl.rdT false d (Pl.bl' s)).1.1 ∧ ((0 : Nat) = (0 : Nat) ∧ x.2.length = (Pl.rdT false d (Pl.bl' s)).1.2.length) ∧ True) ∧ (Pl.mkB x.1).extract (1 : Nat) (Pl.mkB x.1).size = Pl.restB (Pl.rdT false d (Pl.bl' s)).2 ∧ true = (Pl.rdT false d (Pl.bl' s)).2.isSome ∧ True) ∧ True) ∧ IsO (xrT x.2) (xrT (Pl.rdT false d (Pl.bl' s)).1.2) ∧ True)))
 (∃ x_3 : ByteArray × ByteArray,
 (Pl.mkB x.1 = x_3.1 ∧ ByteArray.mk #[(41 : UInt8)] = x_3.2 ∧ True) ∧ x_3.1.size.le (4294967280 : Nat) ∧ condP (!Lib.hasPrefix (Pl.bl' x_3.1) (Pl.bl' x_3.2))
 (∃ y : Unit,
 True ∧ (((ByteArray.mk #[] = (Pl.rdT false d (Pl.bl' s)).1.1 ∧ ((0 : Nat) = (0 : Nat) ∧ (0 : Nat) = (0 : Nat) ∧ (Pl.rdT false d (Pl.bl' s)).1.2.length = (0 : Nat)) ∧ True) ∧ ByteArray.mk #[] = Pl.restB (Pl.rdT false d (Pl.bl' s)).2 ∧ false = (Pl.rdT false d (Pl.bl' s)).2.isSome ∧ True) ∧ True) ∧ (Pl.rdT false d (Pl.bl' s)).1.2.length = (0 : Nat) ∧ True)
 (((0 : Int) ≤ (1 : Int) ∧ (1 : Int) ≤ (↑(Pl.mkB x.1).size : Int)) ∧ ∃ y : Unit,
 True ∧ (((Pl.wname (Pl.bl' s) = (Pl.rdT false d (Pl.bl' s)).1.1 ∧ ((0 : Nat) = (0 : Nat) ∧ x.2.length = (Pl.rdT false d (Pl.bl' s)).1.2.length) ∧ True) ∧ (Pl.mkB x.1).extract (1 : Nat) (Pl.mkB x.1).size = Pl.restB (Pl.rdT false d (Pl.bl' s)).2 ∧ true = (Pl.rdT false d (Pl.bl' s)).2.isSome ∧ True) ∧ True) ∧ IsO (xrT x.2) (xrT (Pl.rdT false d (Pl.bl' s)).1.2) ∧ True))))))) = Goal Tryz.prog [K_iNameOk, K_HasPrefix, (K_readTermO n)] (A_readTermO s d) (K_readTermO (n + 1)).1 (K_readTermO (n + 1)).2 ((s, d)) := by kernel_rfl

theorem vc_iTermReadO (s : ByteArray) : (∃ x : ByteArray × Nat,
 (x.1.size.le (1048576 : Nat) ∧ x.2 ≤ (4 : Nat)) ∧ ((s = x.1 ∧ (1 : Int) = (5 : Int) - (↑x.2 : Int) ∧ True) ∧ True) ∧ ∀ (y : Unit),
 True →
 condP (!(Pl.rdT false x.2 (Pl.bl' x.1)).2.isSome)
 (∃ y : Unit,
 True ∧ (((ByteArray.mk #[] = (Pl.tmRd s).1.1 ∧ ((0 : Nat) = (0 : Nat) ∧ (0 : Nat) = (0 : Nat) ∧ (Pl.tmRd s).1.2.length = (0 : Nat)) ∧ True) ∧ false = (Pl.tmRd s).2 ∧ True) ∧ True) ∧ (Pl.tmRd s).1.2.length = (0 : Nat) ∧ True)
 (condP (!(Pl.restB (Pl.rdT false x.2 (Pl.bl' x.1)).2).toList == (ByteArray.mk #[]).toList)
 (∃ y : Unit,
 True ∧ (((ByteArray.mk #[] = (Pl.tmRd s).1.1 ∧ ((0 : Nat) = (0 : Nat) ∧ (0 : Nat) = (0 : Nat) ∧ (Pl.tmRd s).1.2.length = (0 : Nat)) ∧ True) ∧ false = (Pl.tmRd s).2 ∧ True) ∧ True) ∧ (Pl.tmRd s).1.2.length = (0 : Nat) ∧ True)
 ((0 : Nat) + (Pl.rdT false x.2 (Pl.bl' x.1)).1.2.length ≤ (Pl.rdT false x.2 (Pl.bl' x.1)).1.2.length ∧ ∃ x_1 : Pl.TP,
 (((Pl.rdT false x.2 (Pl.bl' x.1)).1.1 = x_1.1 ∧ Is (terms (Pl.rdT false x.2 (Pl.bl' x.1)).1.2) (terms x_1.2) ∧ True) ∧ True) ∧ SmT (Pl.Tree.mk x_1.1 x_1.2) ∧ condP (!Pl.right (Pl.Tree.mk x_1.1 x_1.2))
 (∃ y : Unit,
 True ∧ (((ByteArray.mk #[] = (Pl.tmRd s).1.1 ∧ ((0 : Nat) = (0 : Nat) ∧ (0 : Nat) = (0 : Nat) ∧ (Pl.tmRd s).1.2.length = (0 : Nat)) ∧ True) ∧ false = (Pl.tmRd s).2 ∧ True) ∧ True) ∧ (Pl.tmRd s).1.2.length = (0 : Nat) ∧ True)
 ((0 : Nat) + (Pl.rdT false x.2 (Pl.bl' x.1)).1.2.length ≤ (Pl.rdT false x.2 (Pl.bl' x.1)).1.2.length ∧ ∃ x_2 : Pl.TP,
 (((Pl.rdT false x.2 (Pl.bl' x.1)).1.1 = x_2.1 ∧ Is (terms (Pl.rdT false x.2 (Pl.bl' x.1)).1.2) (terms x_2.2) ∧ True) ∧ True) ∧ SmT (Pl.Tree.mk x_2.1 x_2.2) ∧ condP (!(Pl.textT (Pl.Tree.mk x_2.1 x_2.2)).toList == s.toList)
 (∃ y : Unit,
 True ∧ (((ByteArray.mk #[] = (Pl.tmRd s).1.1 ∧ ((0 : Nat) = (0 : Nat) ∧ (0 : Nat) = (0 : Nat) ∧ (Pl.tmRd s).1.2.length = (0 : Nat)) ∧ True) ∧ false = (Pl.tmRd s).2 ∧ True) ∧ True) ∧ (Pl.tmRd s).1.2.length = (0 : Nat) ∧ True)
 (∃ y : Unit,
 True ∧ ((((Pl.rdT false x.2 (Pl.bl' x.1)).1.1 = (Pl.tmRd s).1.1 ∧ ((0 : Nat) = (0 : Nat) ∧ (Pl.rdT false x.2 (Pl.bl' x.1)).1.2.length = (Pl.tmRd s).1.2.length) ∧ True) ∧ true = (Pl.tmRd s).2 ∧ True) ∧ True) ∧ IsO (xrT (Pl.rdT false x.2 (Pl.bl' x.1)).1.2) (xrT (Pl.tmRd s).1.2) ∧ True))))) = Goal Tryz.prog [K_rTermO, K_isTerm, K_tText] ([]) K_iTermReadO.1 K_iTermReadO.2 (s) := by kernel_rfl

theorem vc_readEqO (s : ByteArray) : (∃ x : ByteArray × ByteArray,
 (s = x.1 ∧ ByteArray.mk #[(61 : UInt8)] = x.2 ∧ True) ∧ x.1.size.le (4294967280 : Nat) ∧ ∃ x_1 : ByteArray,
 x_1.size.le (1048576 : Nat) ∧ ((Pl.cutA x.1 x.2 = x_1 ∧ True) ∧ True) ∧ ∀ (y : Unit),
 True →
 ∃ x_2 : ByteArray,
 x_2.size.le (1048576 : Nat) ∧ ((Pl.cutR x.1 x.2 = x_2 ∧ True) ∧ True) ∧ ∀ (y : Unit),
 True →
 condP (Pl.cutK x.1 x.2)
 (condP (Pl.tmRd x_1).2
 (∃ y : Unit,
 True ∧ ((((1 : Int) = Int.ofNat ((1 : Nat)) ∧ (Pl.tmRd x_1).1.1 = ((Pl.tmRd (Pl.cutA s Pl.eqSgn)).1, (Pl.tmRd (Pl.cutR s Pl.eqSgn)).1, Pl.noT, Pl.noI, (0 : Int), false).1.1 ∧ ((0 : Nat) = (0 : Nat) ∧ (Pl.tmRd x_1).1.2.length =
 ((Pl.tmRd (Pl.cutA s Pl.eqSgn)).1, (Pl.tmRd (Pl.cutR s Pl.eqSgn)).1, Pl.noT, Pl.noI, (0 : Int), false).1.2.length) ∧ (Pl.tmRd x_2).1.1 = ((Pl.tmRd (Pl.cutR s Pl.eqSgn)).1, Pl.noT, Pl.noI, (0 : Int), false).1.1 ∧ ((0 : Nat) = (0 : Nat) ∧ (Pl.tmRd x_2).1.2.length = ((Pl.tmRd (Pl.cutR s Pl.eqSgn)).1, Pl.noT, Pl.noI, (0 : Int), false).1.2.length) ∧ ((0 : Nat) = (0 : Nat) ∧ (0 : Nat) = (0 : Nat) ∧ (0 : Nat) = (0 : Nat)) ∧ ((0 : Nat) = (0 : Nat) ∧ (0 : Nat) = (0 : Nat) ∧ (0 : Nat) = (0 : Nat)) ∧ (0 : Int) = Int.ofNat ((0 : Nat)) ∧ false = false ∧ True) ∧ (Pl.tmRd x_2).2 = Pl.eqK s ∧ True) ∧ True) ∧ IsO (xrT (Pl.tmRd x_1).1.2)
 (xrT ((Pl.tmRd (Pl.cutA s Pl.eqSgn)).1, (Pl.tmRd (Pl.cutR s Pl.eqSgn)).1, Pl.noT, Pl.noI, (0 : Int), false).1.2) ∧ IsO (xrT (Pl.tmRd x_2).1.2) (xrT ((Pl.tmRd (Pl.cutR s Pl.eqSgn)).1, Pl.noT, Pl.noI, (0 : Int), false).1.2) ∧ (0 : Nat) = (0 : Nat) ∧ (0 : Nat) = (0 : Nat) ∧ True)
 (∃ y : Unit,
 True ∧ ((((1 : Int) = Int.ofNat ((1 : Nat)) ∧ (Pl.tmRd x_1).1.1 = ((Pl.tmRd (Pl.cutA s Pl.eqSgn)).1, (Pl.tmRd (Pl.cutR s Pl.eqSgn)).1, Pl.noT, Pl.noI, (0 : Int), false).1.1 ∧ ((0 : Nat) = (0 : Nat) ∧ (Pl.tmRd x_1).1.2.length =
 ((Pl.tmRd (Pl.cutA s Pl.eqSgn)).1, (Pl.tmRd (Pl.cutR s Pl.eqSgn)).1, Pl.noT, Pl.noI, (0 : Int), false).1.2.length) ∧ (Pl.tmRd x_2).1.1 = ((Pl.tmRd (Pl.cutR s Pl.eqSgn)).1, Pl.noT, Pl.noI, (0 : Int), false).1.1 ∧ ((0 : Nat) = (0 : Nat) ∧ (Pl.tmRd x_2).1.2.length = ((Pl.tmRd (Pl.cutR s Pl.eqSgn)).1, Pl.noT, Pl.noI, (0 : Int), false).1.2.length) ∧ ((0 : Nat) = (0 : Nat) ∧ (0 : Nat) = (0 : Nat) ∧ (0 : Nat) = (0 : Nat)) ∧ ((0 : Nat) = (0 : Nat) ∧ (0 : Nat) = (0 : Nat) ∧ (0 : Nat) = (0 : Nat)) ∧ (0 : Int) = Int.ofNat ((0 : Nat)) ∧ false = false ∧ True) ∧ false = Pl.eqK s ∧ True) ∧ True) ∧ IsO (xrT (Pl.tmRd x_1).1.2)
 (xrT ((Pl.tmRd (Pl.cutA s Pl.eqSgn)).1, (Pl.tmRd (Pl.cutR s Pl.eqSgn)).1, Pl.noT, Pl.noI, (0 : Int), false).1.2) ∧ IsO (xrT (Pl.tmRd x_2).1.2) (xrT ((Pl.tmRd (Pl.cutR s Pl.eqSgn)).1, Pl.noT, Pl.noI, (0 : Int), false).1.2) ∧ (0 : Nat) = (0 : Nat) ∧ (0 : Nat) = (0 : Nat) ∧ True))
 (∃ y : Unit,
 True ∧ ((((1 : Int) = Int.ofNat ((1 : Nat)) ∧ (Pl.tmRd x_1).1.1 = ((Pl.tmRd (Pl.cutA s Pl.eqSgn)).1, (Pl.tmRd (Pl.cutR s Pl.eqSgn)).1, Pl.noT, Pl.noI, (0 : Int), false).1.1 ∧ ((0 : Nat) = (0 : Nat) ∧ (Pl.tmRd x_1).1.2.length =
 ((Pl.tmRd (Pl.cutA s Pl.eqSgn)).1, (Pl.tmRd (Pl.cutR s Pl.eqSgn)).1, Pl.noT, Pl.noI, (0 : Int), false).1.2.length) ∧ (Pl.tmRd x_2).1.1 = ((Pl.tmRd (Pl.cutR s Pl.eqSgn)).1, Pl.noT, Pl.noI, (0 : Int), false).1.1 ∧ ((0 : Nat) = (0 : Nat) ∧ (Pl.tmRd x_2).1.2.length = ((Pl.tmRd (Pl.cutR s Pl.eqSgn)).1, Pl.noT, Pl.noI, (0 : Int), false).1.2.length) ∧ ((0 : Nat) = (0 : Nat) ∧ (0 : Nat) = (0 : Nat) ∧ (0 : Nat) = (0 : Nat)) ∧ ((0 : Nat) = (0 : Nat) ∧ (0 : Nat) = (0 : Nat) ∧ (0 : Nat) = (0 : Nat)) ∧ (0 : Int) = Int.ofNat ((0 : Nat)) ∧ false = false ∧ True) ∧ false = Pl.eqK s ∧ True) ∧ True) ∧ IsO (xrT (Pl.tmRd x_1).1.2)
 (xrT ((Pl.tmRd (Pl.cutA s Pl.eqSgn)).1, (Pl.tmRd (Pl.cutR s Pl.eqSgn)).1, Pl.noT, Pl.noI, (0 : Int), false).1.2) ∧ IsO (xrT (Pl.tmRd x_2).1.2) (xrT ((Pl.tmRd (Pl.cutR s Pl.eqSgn)).1, Pl.noT, Pl.noI, (0 : Int), false).1.2) ∧ (0 : Nat) = (0 : Nat) ∧ (0 : Nat) = (0 : Nat) ∧ True)) = Goal Tryz.prog [K_Cut, K_iTermReadO] ([]) K_readEqO.1 K_readEqO.2 (s) := by kernel_rfl

theorem vc_readSumO (s : ByteArray) : (∃ x : ByteArray × UInt8,
 (s = x.1 ∧ ByteArray.mk #[(32 : UInt8)] = Pl.mkB [x.2] ∧ True) ∧ x.1.size.le (4294967280 : Nat) ∧ ∃ x_1 : Int × Int × Int,
 (IntKind.i64.wrap (IntKind.i64.wrap ((↑(Pl.cut x.2 x.1).length : Int) - (1 : Int)) - (1 : Int)) = x_1.1 ∧ (1 : Int) = x_1.2.1 ∧ (4 : Int) = x_1.2.2 ∧ True) ∧ True ∧ condP (!Pl.withinI x_1.1 x_1.2.1 x_1.2.2)
 (∃ y : Unit,
 True ∧ ((((0 : Int) = (Pl.sumI s).1.1 ∧ ByteArray.mk #[] = (Pl.sumI s).1.2.1.1 ∧ ((0 : Nat) = (0 : Nat) ∧ (0 : Nat) = (0 : Nat) ∧ (Pl.sumI s).1.2.1.2.length = (0 : Nat)) ∧ ByteArray.mk #[] = (Pl.sumI s).1.2.2.1.1 ∧ ((0 : Nat) = (0 : Nat) ∧ (0 : Nat) = (0 : Nat) ∧ (Pl.sumI s).1.2.2.1.2.length = (0 : Nat)) ∧ ((0 : Nat) = (0 : Nat) ∧ (0 : Nat) = (0 : Nat) ∧ (Pl.sumI s).1.2.2.2.1.length = (0 : Nat)) ∧ ((0 : Nat) = (0 : Nat) ∧ (0 : Nat) = (0 : Nat) ∧ (Pl.sumI s).1.2.2.2.2.1.length = (0 : Nat)) ∧ (0 : Int) = (Pl.sumI s).1.2.2.2.2.2.1 ∧ false = (Pl.sumI s).1.2.2.2.2.2.2 ∧ True) ∧ false = (Pl.sumI s).2 ∧ True) ∧ True) ∧ (Pl.sumI s).1.2.1.2.length = (0 : Nat) ∧ (Pl.sumI s).1.2.2.1.2.length = (0 : Nat) ∧ (Pl.sumI s).1.2.2.2.1.length = (0 : Nat) ∧ (Pl.sumI s).1.2.2.2.2.1.length = (0 : Nat) ∧ True)
 (((0 : Int) ≤ IntKind.i64.wrap (IntKind.i64.wrap ((↑(Pl.cut x.2 x.1).length : Int) - (1 : Int)) - (1 : Int)) ∧ IntKind.i64.wrap (IntKind.i64.wrap ((↑(Pl.cut x.2 x.1).length : Int) - (1 : Int)) - (1 : Int)) < (↑(Pl.cut x.2 x.1).length : Int)) ∧ (IntKind.i64.wrap (IntKind.i64.wrap ((↑(Pl.cut x.2 x.1).length : Int) - (1 : Int)) - (1 : Int))).toNat < (Pl.cut x.2 x.1).length ∧ ((0 : Int) ≤ IntKind.i64.wrap ((↑(Pl.cut x.2 x.1).length : Int) - (1 : Int)) ∧ IntKind.i64.wrap ((↑(Pl.cut x.2 x.1).length : Int) - (1 : Int)) < (↑(Pl.cut x.2 x.1).length : Int)) ∧ (IntKind.i64.wrap ((↑(Pl.cut x.2 x.1).length : Int) - (1 : Int))).toNat < (Pl.cut x.2 x.1).length ∧ ∃ x_2 : ByteArray,
 ((Pl.cut x.2 x.1).getD (IntKind.i64.wrap ((↑(Pl.cut x.2 x.1).length : Int) - (1 : Int))).toNat ByteArray.empty = x_2 ∧ True) ∧ x_2.size.le (4294967280 : Nat) ∧ ((0 : Int) ≤ IntKind.i64.wrap (IntKind.i64.wrap ((↑(Pl.cut x.2 x.1).length : Int) - (1 : Int)) - (1 : Int)) ∧ IntKind.i64.wrap (IntKind.i64.wrap ((↑(Pl.cut x.2 x.1).length : Int) - (1 : Int)) - (1 : Int)) ≤ (↑(Pl.cut x.2 x.1).length : Int)) ∧ (∃ x_3 : Nat,
 (x_3 ≤ (Pl.cut (32 : UInt8) s).length - (2 : Nat) ∧ ((3 : Nat) ≤ (Pl.cut (32 : UInt8) s).length ∧ (Pl.cut (32 : UInt8) s).length ≤ (6 : Nat)) ∧ Pl.allI (List.take x_3 (Pl.cut (32 : UInt8) s)) = true) ∧ ((0 : Nat) = (0 : Nat) ∧ (0 : Nat) = (0 : Nat) ∧ Is
 (AV.sl (IntKind.i64.wrap (IntKind.i64.wrap ((↑(Pl.cut x.2 x.1).length : Int) - (1 : Int)) - (1 : Int))).toNat (1 : Nat)
 (cS (Pl.cut x.2 x.1)))
 (strs (List.take ((Pl.cut (32 : UInt8) s).length - (2 : Nat)) (Pl.cut (32 : UInt8) s))) ∧ (↑(IntKind.i64.wrap (IntKind.i64.wrap ((↑(Pl.cut x.2 x.1).length : Int) - (1 : Int)) - (1 : Int))).toNat : Int) =
 (↑((Pl.cut (32 : UInt8) s).length - (2 : Nat)) : Int) ∧ (0 : Int) = (↑x_3 : Int) ∧ True) ∧ ((0 : Int) = (0 : Int) ∧ ByteArray.mk #[] = ByteArray.empty ∧ Is (AV.lit (0 : Nat) (1 : Nat) fun (x x_4 : Nat) => AV.any) nilA ∧ ByteArray.mk #[] = ByteArray.empty ∧ Is (AV.lit (0 : Nat) (1 : Nat) fun (x x_4 : Nat) => AV.any) nilA ∧ Is (AV.lit (0 : Nat) (1 : Nat) fun (x x_4 : Nat) => AV.any) nilA ∧ Is (AV.lit (0 : Nat) (1 : Nat) fun (x x_4 : Nat) => AV.any) nilA ∧ (0 : Int) = (0 : Int) ∧ false = false ∧ True) ∧ ((2 : Int) = (2 : Int) ∧ ByteArray.mk #[] = ByteArray.empty ∧ Is (AV.lit (0 : Nat) (1 : Nat) fun (x x_4 : Nat) => AV.any) nilA ∧ ByteArray.mk #[] = ByteArray.empty ∧ Is (AV.lit (0 : Nat) (1 : Nat) fun (x x_4 : Nat) => AV.any) nilA ∧ ((0 : Nat) = (0 : Nat) ∧ (0 : Nat) = (0 : Nat) ∧ x_3 = (0 : Nat)) ∧ ((0 : Nat) = (0 : Nat) ∧ (0 : Nat) = (0 : Nat) ∧ x_3 = (0 : Nat)) ∧ Pl.atoi x_2 = Pl.atoi (Pl.pq (Pl.cut (32 : UInt8) s) ((Pl.cut (32 : UInt8) s).length - (1 : Nat))) ∧ (((Pl.cut x.2 x.1).getD (IntKind.i64.wrap (IntKind.i64.wrap ((↑(Pl.cut x.2 x.1).length : Int) - (1 : Int)) - (1 : Int))).toNat
 ByteArray.empty).toList ==
 (ByteArray.mk #[(60 : UInt8)]).toList) =
 decide (Pl.pq (Pl.cut (32 : UInt8) s) ((Pl.cut (32 : UInt8) s).length - (2 : Nat)) = Pl.mkB [(60 : UInt8)]) ∧ True) ∧ (Pl.numsI (List.take x_3 (Pl.cut (32 : UInt8) s))).length = (0 : Nat) ∧ (Pl.timesI (List.take x_3 (Pl.cut (32 : UInt8) s))).length = (0 : Nat) ∧ True) ∧ ∀ (x : Nat),
 x ≤ (Pl.cut (32 : UInt8) s).length - (2 : Nat) ∧ ((3 : Nat) ≤ (Pl.cut (32 : UInt8) s).length ∧ (Pl.cut (32 : UInt8) s).length ≤ (6 : Nat)) ∧ Pl.allI (List.take x (Pl.cut (32 : UInt8) s)) = true →
 condP (decide ((↑x : Int) < (↑((Pl.cut (32 : UInt8) s).length - (2 : Nat)) : Int)))
 (((0 : Int) ≤ (↑x : Int) ∧ (↑x : Int) < (↑(List.take ((Pl.cut (32 : UInt8) s).length - (2 : Nat)) (Pl.cut (32 : UInt8) s)).length : Int)) ∧ x < (List.take ((Pl.cut (32 : UInt8) s).length - (2 : Nat)) (Pl.cut (32 : UInt8) s)).length ∧ ∃ x_3 : ByteArray × ByteArray,
 ((List.take ((Pl.cut (32 : UInt8) s).length - (2 : Nat)) (Pl.cut (32 : UInt8) s)).getD x ByteArray.empty = x_3.1 ∧ ByteArray.mk #[(42 : UInt8)] = x_3.2 ∧ True) ∧ x_3.1.size.le (4294967280 : Nat) ∧ ∃ x_4 : ByteArray,
 (Pl.cutA x_3.1 x_3.2 = x_4 ∧ True) ∧ x_4.size.le (4294967280 : Nat) ∧ ∃ x_5 : ByteArray,
 x_5.size.le (1048576 : Nat) ∧ ((Pl.cutR x_3.1 x_3.2 = x_5 ∧ True) ∧ True) ∧ ∀ (y : Unit),
 True →
 condP (!(Pl.tmRd x_5).2)
 (∃ y : Unit,
 True ∧ ((((0 : Int) = (Pl.sumI s).1.1 ∧ ByteArray.mk #[] = (Pl.sumI s).1.2.1.1 ∧ ((0 : Nat) = (0 : Nat) ∧ (0 : Nat) = (0 : Nat) ∧ (Pl.sumI s).1.2.1.2.length = (0 : Nat)) ∧ ByteArray.mk #[] = (Pl.sumI s).1.2.2.1.1 ∧ ((0 : Nat) = (0 : Nat) ∧ (0 : Nat) = (0 : Nat) ∧ (Pl.sumI s).1.2.2.1.2.length = (0 : Nat)) ∧ ((0 : Nat) = (0 : Nat) ∧ (0 : Nat) = (0 : Nat) ∧ (Pl.sumI s).1.2.2.2.1.length = (0 : Nat)) ∧ ((0 : Nat) = (0 : Nat) ∧ (0 : Nat) = (0 : Nat) ∧ (Pl.sumI s).1.2.2.2.2.1.length = (0 : Nat)) ∧ (0 : Int) = (Pl.sumI s).1.2.2.2.2.2.1 ∧ false = (Pl.sumI s).1.2.2.2.2.2.2 ∧ True) ∧ false = (Pl.sumI s).2 ∧ True) ∧ True) ∧ (Pl.sumI s).1.2.1.2.length = (0 : Nat) ∧ (Pl.sumI s).1.2.2.1.2.length = (0 : Nat) ∧ (Pl.sumI s).1.2.2.2.1.length = (0 : Nat) ∧ (Pl.sumI s).1.2.2.2.2.1.length = (0 : Nat) ∧ True)
 (x = (Pl.numsI (List.take x (Pl.cut (32 : UInt8) s))).length ∧ (0 : Nat) + (Pl.tmRd x_5).1.2.length ≤ (Pl.tmRd x_5).1.2.length ∧ (x + (1 : Nat)) * (40 : Nat) ≤ (70368744177664 : Nat) ∧ (0 : Nat) + x ≤ (Pl.timesI (List.take x (Pl.cut (32 : UInt8) s))).length ∧ (x + (1 : Nat)) * (8 : Nat) ≤ (70368744177664 : Nat) ∧ Exists fun (x' : Nat) =>
 (x' ≤ (Pl.cut (32 : UInt8) s).length - (2 : Nat) ∧ ((3 : Nat) ≤ (Pl.cut (32 : UInt8) s).length ∧ (Pl.cut (32 : UInt8) s).length ≤ (6 : Nat)) ∧ Pl.allI (List.take x' (Pl.cut (32 : UInt8) s)) = true) ∧ (Pl.cut (32 : UInt8) s).length - (2 : Nat) - x' < (Pl.cut (32 : UInt8) s).length - (2 : Nat) - x ∧ ((0 : Nat) = (0 : Nat) ∧ (0 : Nat) = (0 : Nat) ∧ Is (strs (List.take ((Pl.cut (32 : UInt8) s).length - (2 : Nat)) (Pl.cut (32 : UInt8) s)))
 (strs (List.take ((Pl.cut (32 : UInt8) s).length - (2 : Nat)) (Pl.cut (32 : UInt8) s))) ∧ (↑((Pl.cut (32 : UInt8) s).length - (2 : Nat)) : Int) =
 (↑((Pl.cut (32 : UInt8) s).length - (2 : Nat)) : Int) ∧ IntKind.i64.wrap ((↑x : Int) + (1 : Int)) = (↑x' : Int) ∧ True) ∧ ((0 : Int) = (0 : Int) ∧ ByteArray.empty = ByteArray.empty ∧ Is (AV.lit (0 : Nat) (1 : Nat) fun (x x_6 : Nat) => AV.any) nilA ∧ ByteArray.empty = ByteArray.empty ∧ Is (AV.lit (0 : Nat) (1 : Nat) fun (x x_6 : Nat) => AV.any) nilA ∧ Is (AV.lit (0 : Nat) (1 : Nat) fun (x x_6 : Nat) => AV.any) nilA ∧ Is (AV.lit (0 : Nat) (1 : Nat) fun (x x_6 : Nat) => AV.any) nilA ∧ (0 : Int) = (0 : Int) ∧ false = false ∧ True) ∧ ((2 : Int) = (2 : Int) ∧ ByteArray.empty = ByteArray.empty ∧ Is (AV.lit (0 : Nat) (1 : Nat) fun (x x_6 : Nat) => AV.any) nilA ∧ ByteArray.empty = ByteArray.empty ∧ Is (AV.lit (0 : Nat) (1 : Nat) fun (x x_6 : Nat) => AV.any) nilA ∧ ((0 : Nat) = (0 : Nat) ∧ x + (1 : Nat) = x') ∧ ((0 : Nat) = (0 : Nat) ∧ x + (1 : Nat) = x') ∧ Pl.atoi (Pl.pq (Pl.cut (32 : UInt8) s) ((Pl.cut (32 : UInt8) s).length - (1 : Nat))) =
 Pl.atoi (Pl.pq (Pl.cut (32 : UInt8) s) ((Pl.cut (32 : UInt8) s).length - (1 : Nat))) ∧ decide
 (Pl.pq (Pl.cut (32 : UInt8) s) ((Pl.cut (32 : UInt8) s).length - (2 : Nat)) =
 Pl.mkB [(60 : UInt8)]) =
 decide
 (Pl.pq (Pl.cut (32 : UInt8) s) ((Pl.cut (32 : UInt8) s).length - (2 : Nat)) =
 Pl.mkB [(60 : UInt8)]) ∧ True) ∧ IsO
 (AObj.xarr (x + (1 : Nat)) (2 : Nat)
 (joinC x (cT (Pl.numsI (List.take x (Pl.cut (32 : UInt8) s))))
 (rowsCell [[st (Pl.tmRd x_5).1.1, terms (Pl.tmRd x_5).1.2]])))
 (xrT (Pl.numsI (List.take x' (Pl.cut (32 : UInt8) s)))) ∧ IsO
 (AObj.arr (x + (1 : Nat)) (1 : Nat)
 (joinC x (cI (Pl.timesI (List.take x (Pl.cut (32 : UInt8) s))))
 (rowsCell [[i64 (Pl.atoi x_4)]])))
 (arI (Pl.timesI (List.take x' (Pl.cut (32 : UInt8) s)))) ∧ True))
 (∃ y : Unit,
 True ∧ ((((2 : Int) = (Pl.sumI s).1.1 ∧ ByteArray.empty = (Pl.sumI s).1.2.1.1 ∧ ((0 : Nat) = (0 : Nat) ∧ (0 : Nat) = (0 : Nat) ∧ (Pl.sumI s).1.2.1.2.length = (0 : Nat)) ∧ ByteArray.empty = (Pl.sumI s).1.2.2.1.1 ∧ ((0 : Nat) = (0 : Nat) ∧ (0 : Nat) = (0 : Nat) ∧ (Pl.sumI s).1.2.2.1.2.length = (0 : Nat)) ∧ ((0 : Nat) = (0 : Nat) ∧ x = (Pl.sumI s).1.2.2.2.1.length) ∧ ((0 : Nat) = (0 : Nat) ∧ x = (Pl.sumI s).1.2.2.2.2.1.length) ∧ Pl.atoi (Pl.pq (Pl.cut (32 : UInt8) s) ((Pl.cut (32 : UInt8) s).length - (1 : Nat))) = (Pl.sumI s).1.2.2.2.2.2.1 ∧ decide (Pl.pq (Pl.cut (32 : UInt8) s) ((Pl.cut (32 : UInt8) s).length - (2 : Nat)) = Pl.mkB [(60 : UInt8)]) =
 (Pl.sumI s).1.2.2.2.2.2.2 ∧ True) ∧ true = (Pl.sumI s).2 ∧ True) ∧ True) ∧ (Pl.sumI s).1.2.1.2.length = (0 : Nat) ∧ (Pl.sumI s).1.2.2.1.2.length = (0 : Nat) ∧ IsO (xrT (Pl.numsI (List.take x (Pl.cut (32 : UInt8) s)))) (xrT (Pl.sumI s).1.2.2.2.1) ∧ IsO (arI (Pl.timesI (List.take x (Pl.cut (32 : UInt8) s)))) (arI (Pl.sumI s).1.2.2.2.2.1) ∧ True))) = Goal Tryz.prog [K_Split, K_within, K_Atoi, K_Cut, K_iTermReadO] (A_readSumO s) K_readSumO.1 K_readSumO.2 (s) := by kernel_rfl

theorem vc_iAtomReadO (s : ByteArray) : (∃ x : ByteArray,
 x.size.le (1048576 : Nat) ∧ ((s = x ∧ True) ∧ True) ∧ ∀ (y : Unit),
 True →
 condP (!Pl.eqK x)
 (∃ x : ByteArray,
 x.size.le (1048576 : Nat) ∧ ((s = x ∧ True) ∧ True) ∧ ∀ (y : Unit),
 True →
 condP (!(Pl.sumI x).2)
 (∃ y : Unit,
 True ∧ ((((0 : Int) = (Pl.atomReadI s).1.1 ∧ ByteArray.mk #[] = (Pl.atomReadI s).1.2.1.1 ∧ ((0 : Nat) = (0 : Nat) ∧ (0 : Nat) = (0 : Nat) ∧ (Pl.atomReadI s).1.2.1.2.length = (0 : Nat)) ∧ ByteArray.mk #[] = (Pl.atomReadI s).1.2.2.1.1 ∧ ((0 : Nat) = (0 : Nat) ∧ (0 : Nat) = (0 : Nat) ∧ (Pl.atomReadI s).1.2.2.1.2.length = (0 : Nat)) ∧ ((0 : Nat) = (0 : Nat) ∧ (0 : Nat) = (0 : Nat) ∧ (Pl.atomReadI s).1.2.2.2.1.length = (0 : Nat)) ∧ ((0 : Nat) = (0 : Nat) ∧ (0 : Nat) = (0 : Nat) ∧ (Pl.atomReadI s).1.2.2.2.2.1.length = (0 : Nat)) ∧ (0 : Int) = (Pl.atomReadI s).1.2.2.2.2.2.1 ∧ false = (Pl.atomReadI s).1.2.2.2.2.2.2 ∧ True) ∧ false = (Pl.atomReadI s).2 ∧ True) ∧ True) ∧ (Pl.atomReadI s).1.2.1.2.length = (0 : Nat) ∧ (Pl.atomReadI s).1.2.2.1.2.length = (0 : Nat) ∧ (Pl.atomReadI s).1.2.2.2.1.length = (0 : Nat) ∧ (Pl.atomReadI s).1.2.2.2.2.1.length = (0 : Nat) ∧ True)
 ((0 : Nat) + (Pl.sumI x).1.2.1.2.length ≤ (Pl.sumI x).1.2.1.2.length ∧ (0 : Nat) + (Pl.sumI x).1.2.2.1.2.length ≤ (Pl.sumI x).1.2.2.1.2.length ∧ (0 : Nat) + (Pl.sumI x).1.2.2.2.1.length ≤ (Pl.sumI x).1.2.2.2.1.length ∧ (0 : Nat) + (Pl.sumI x).1.2.2.2.2.1.length ≤ (Pl.sumI x).1.2.2.2.2.1.length ∧ ∃ x_1 : Pl.Atm,
 (((Pl.sumI x).1.1 = x_1.1 ∧ (Pl.sumI x).1.2.1.1 = x_1.2.1.1 ∧ Is (terms (Pl.sumI x).1.2.1.2) (terms x_1.2.1.2) ∧ (Pl.sumI x).1.2.2.1.1 = x_1.2.2.1.1 ∧ Is (terms (Pl.sumI x).1.2.2.1.2) (terms x_1.2.2.1.2) ∧ Is (terms (Pl.sumI x).1.2.2.2.1) (terms x_1.2.2.2.1) ∧ Is (ints (Pl.sumI x).1.2.2.2.2.1) (ints x_1.2.2.2.2.1) ∧ (Pl.sumI x).1.2.2.2.2.2.1 = x_1.2.2.2.2.2.1 ∧ (Pl.sumI x).1.2.2.2.2.2.2 = x_1.2.2.2.2.2.2 ∧ True) ∧ True) ∧ SmA x_1 ∧ condP (!Pl.atomRight x_1)
 (∃ y : Unit,
 True ∧ ((((0 : Int) = (Pl.atomReadI s).1.1 ∧ ByteArray.mk #[] = (Pl.atomReadI s).1.2.1.1 ∧ ((0 : Nat) = (0 : Nat) ∧ (0 : Nat) = (0 : Nat) ∧ (Pl.atomReadI s).1.2.1.2.length = (0 : Nat)) ∧ ByteArray.mk #[] = (Pl.atomReadI s).1.2.2.1.1 ∧ ((0 : Nat) = (0 : Nat) ∧ (0 : Nat) = (0 : Nat) ∧ (Pl.atomReadI s).1.2.2.1.2.length = (0 : Nat)) ∧ ((0 : Nat) = (0 : Nat) ∧ (0 : Nat) = (0 : Nat) ∧ (Pl.atomReadI s).1.2.2.2.1.length = (0 : Nat)) ∧ ((0 : Nat) = (0 : Nat) ∧ (0 : Nat) = (0 : Nat) ∧ (Pl.atomReadI s).1.2.2.2.2.1.length = (0 : Nat)) ∧ (0 : Int) = (Pl.atomReadI s).1.2.2.2.2.2.1 ∧ false = (Pl.atomReadI s).1.2.2.2.2.2.2 ∧ True) ∧ false = (Pl.atomReadI s).2 ∧ True) ∧ True) ∧ (Pl.atomReadI s).1.2.1.2.length = (0 : Nat) ∧ (Pl.atomReadI s).1.2.2.1.2.length = (0 : Nat) ∧ (Pl.atomReadI s).1.2.2.2.1.length = (0 : Nat) ∧ (Pl.atomReadI s).1.2.2.2.2.1.length = (0 : Nat) ∧ True)
 ((0 : Nat) + (Pl.sumI x).1.2.1.2.length ≤ (Pl.sumI x).1.2.1.2.length ∧ (0 : Nat) + (Pl.sumI x).1.2.2.1.2.length ≤ (Pl.sumI x).1.2.2.1.2.length ∧ (0 : Nat) + (Pl.sumI x).1.2.2.2.1.length ≤ (Pl.sumI x).1.2.2.2.1.length ∧ (0 : Nat) + (Pl.sumI x).1.2.2.2.2.1.length ≤ (Pl.sumI x).1.2.2.2.2.1.length ∧ ∃ x_2 : Pl.Atm,
 (((Pl.sumI x).1.1 = x_2.1 ∧ (Pl.sumI x).1.2.1.1 = x_2.2.1.1 ∧ Is (terms (Pl.sumI x).1.2.1.2) (terms x_2.2.1.2) ∧ (Pl.sumI x).1.2.2.1.1 = x_2.2.2.1.1 ∧ Is (terms (Pl.sumI x).1.2.2.1.2) (terms x_2.2.2.1.2) ∧ Is (terms (Pl.sumI x).1.2.2.2.1) (terms x_2.2.2.2.1) ∧ Is (ints (Pl.sumI x).1.2.2.2.2.1) (ints x_2.2.2.2.2.1) ∧ (Pl.sumI x).1.2.2.2.2.2.1 = x_2.2.2.2.2.2.1 ∧ (Pl.sumI x).1.2.2.2.2.2.2 = x_2.2.2.2.2.2.2 ∧ True) ∧ True) ∧ (SmA x_2 ∧ Pl.atomRight x_2 = true) ∧ condP (!(Pl.mkB (Pl.atomB x_2)).toList == s.toList)
 (∃ y : Unit,
 True ∧ ((((0 : Int) = (Pl.atomReadI s).1.1 ∧ ByteArray.mk #[] = (Pl.atomReadI s).1.2.1.1 ∧ ((0 : Nat) = (0 : Nat) ∧ (0 : Nat) = (0 : Nat) ∧ (Pl.atomReadI s).1.2.1.2.length = (0 : Nat)) ∧ ByteArray.mk #[] = (Pl.atomReadI s).1.2.2.1.1 ∧ ((0 : Nat) = (0 : Nat) ∧ (0 : Nat) = (0 : Nat) ∧ (Pl.atomReadI s).1.2.2.1.2.length = (0 : Nat)) ∧ ((0 : Nat) = (0 : Nat) ∧ (0 : Nat) = (0 : Nat) ∧ (Pl.atomReadI s).1.2.2.2.1.length = (0 : Nat)) ∧ ((0 : Nat) = (0 : Nat) ∧ (0 : Nat) = (0 : Nat) ∧ (Pl.atomReadI s).1.2.2.2.2.1.length = (0 : Nat)) ∧ (0 : Int) = (Pl.atomReadI s).1.2.2.2.2.2.1 ∧ false = (Pl.atomReadI s).1.2.2.2.2.2.2 ∧ True) ∧ false = (Pl.atomReadI s).2 ∧ True) ∧ True) ∧ (Pl.atomReadI s).1.2.1.2.length = (0 : Nat) ∧ (Pl.atomReadI s).1.2.2.1.2.length = (0 : Nat) ∧ (Pl.atomReadI s).1.2.2.2.1.length = (0 : Nat) ∧ (Pl.atomReadI s).1.2.2.2.2.1.length = (0 : Nat) ∧ True)
 (∃ y : Unit,
 True ∧ ((((Pl.sumI x).1.1 = (Pl.atomReadI s).1.1 ∧ (Pl.sumI x).1.2.1.1 = (Pl.atomReadI s).1.2.1.1 ∧ ((0 : Nat) = (0 : Nat) ∧ (Pl.sumI x).1.2.1.2.length = (Pl.atomReadI s).1.2.1.2.length) ∧ (Pl.sumI x).1.2.2.1.1 = (Pl.atomReadI s).1.2.2.1.1 ∧ ((0 : Nat) = (0 : Nat) ∧ (Pl.sumI x).1.2.2.1.2.length = (Pl.atomReadI s).1.2.2.1.2.length) ∧ ((0 : Nat) = (0 : Nat) ∧ (Pl.sumI x).1.2.2.2.1.length = (Pl.atomReadI s).1.2.2.2.1.length) ∧ ((0 : Nat) = (0 : Nat) ∧ (Pl.sumI x).1.2.2.2.2.1.length = (Pl.atomReadI s).1.2.2.2.2.1.length) ∧ (Pl.sumI x).1.2.2.2.2.2.1 = (Pl.atomReadI s).1.2.2.2.2.2.1 ∧ (Pl.sumI x).1.2.2.2.2.2.2 = (Pl.atomReadI s).1.2.2.2.2.2.2 ∧ True) ∧ true = (Pl.atomReadI s).2 ∧ True) ∧ True) ∧ IsO (xrT (Pl.sumI x).1.2.1.2) (xrT (Pl.atomReadI s).1.2.1.2) ∧ IsO (xrT (Pl.sumI x).1.2.2.1.2) (xrT (Pl.atomReadI s).1.2.2.1.2) ∧ IsO (xrT (Pl.sumI x).1.2.2.2.1) (xrT (Pl.atomReadI s).1.2.2.2.1) ∧ IsO (arI (Pl.sumI x).1.2.2.2.2.1) (arI (Pl.atomReadI s).1.2.2.2.2.1) ∧ True))))
 (condP (!Pl.eqK x)
 (∃ y : Unit,
 True ∧ ((((0 : Int) = (Pl.atomReadI s).1.1 ∧ ByteArray.mk #[] = (Pl.atomReadI s).1.2.1.1 ∧ ((0 : Nat) = (0 : Nat) ∧ (0 : Nat) = (0 : Nat) ∧ (Pl.atomReadI s).1.2.1.2.length = (0 : Nat)) ∧ ByteArray.mk #[] = (Pl.atomReadI s).1.2.2.1.1 ∧ ((0 : Nat) = (0 : Nat) ∧ (0 : Nat) = (0 : Nat) ∧ (Pl.atomReadI s).1.2.2.1.2.length = (0 : Nat)) ∧ ((0 : Nat) = (0 : Nat) ∧ (0 : Nat) = (0 : Nat) ∧ (Pl.atomReadI s).1.2.2.2.1.length = (0 : Nat)) ∧ ((0 : Nat) = (0 : Nat) ∧ (0 : Nat) = (0 : Nat) ∧ (Pl.atomReadI s).1.2.2.2.2.1.length = (0 : Nat)) ∧ (0 : Int) = (Pl.atomReadI s).1.2.2.2.2.2.1 ∧ false = (Pl.atomReadI s).1.2.2.2.2.2.2 ∧ True) ∧ false = (Pl.atomReadI s).2 ∧ True) ∧ True) ∧ (Pl.atomReadI s).1.2.1.2.length = (0 : Nat) ∧ (Pl.atomReadI s).1.2.2.1.2.length = (0 : Nat) ∧ (Pl.atomReadI s).1.2.2.2.1.length = (0 : Nat) ∧ (Pl.atomReadI s).1.2.2.2.2.1.length = (0 : Nat) ∧ True)
 ((0 : Nat) + ((Pl.tmRd (Pl.cutA x Pl.eqSgn)).1, (Pl.tmRd (Pl.cutR x Pl.eqSgn)).1, Pl.noT, Pl.noI, (0 : Int), false).1.2.length ≤
 ((Pl.tmRd (Pl.cutA x Pl.eqSgn)).1, (Pl.tmRd (Pl.cutR x Pl.eqSgn)).1, Pl.noT, Pl.noI, (0 : Int), false).1.2.length ∧ (0 : Nat) + ((Pl.tmRd (Pl.cutR x Pl.eqSgn)).1, Pl.noT, Pl.noI, (0 : Int), false).1.2.length ≤
 ((Pl.tmRd (Pl.cutR x Pl.eqSgn)).1, Pl.noT, Pl.noI, (0 : Int), false).1.2.length ∧ (0 : Nat) ≤ (0 : Nat) ∧ (0 : Nat) ≤ (0 : Nat) ∧ ∃ x_1 : Pl.Atm,
 ((Int.ofNat ((1 : Nat)) = x_1.1 ∧ ((Pl.tmRd (Pl.cutA x Pl.eqSgn)).1, (Pl.tmRd (Pl.cutR x Pl.eqSgn)).1, Pl.noT, Pl.noI, (0 : Int), false).1.1 = x_1.2.1.1 ∧ Is (terms ((Pl.tmRd (Pl.cutA x Pl.eqSgn)).1, (Pl.tmRd (Pl.cutR x Pl.eqSgn)).1, Pl.noT, Pl.noI, (0 : Int), false).1.2) (terms x_1.2.1.2) ∧ ((Pl.tmRd (Pl.cutR x Pl.eqSgn)).1, Pl.noT, Pl.noI, (0 : Int), false).1.1 = x_1.2.2.1.1 ∧ Is (terms ((Pl.tmRd (Pl.cutR x Pl.eqSgn)).1, Pl.noT, Pl.noI, (0 : Int), false).1.2) (terms x_1.2.2.1.2) ∧ Is (AV.sl ((0 : Nat)) (2 : Nat) fun (i j : Nat) => eT (Pl.Tree.mk ByteArray.empty []) j) (terms x_1.2.2.2.1) ∧ Is (AV.sl ((0 : Nat)) (1 : Nat) fun (i j : Nat) => i64 (Int.ofNat ((0 : Nat)))) (ints x_1.2.2.2.2.1) ∧ Int.ofNat ((0 : Nat)) = x_1.2.2.2.2.2.1 ∧ false = x_1.2.2.2.2.2.2 ∧ True) ∧ True) ∧ SmA x_1 ∧ condP (!Pl.atomRight x_1)
 (∃ y : Unit,
 True ∧ ((((0 : Int) = (Pl.atomReadI s).1.1 ∧ ByteArray.mk #[] = (Pl.atomReadI s).1.2.1.1 ∧ ((0 : Nat) = (0 : Nat) ∧ (0 : Nat) = (0 : Nat) ∧ (Pl.atomReadI s).1.2.1.2.length = (0 : Nat)) ∧ ByteArray.mk #[] = (Pl.atomReadI s).1.2.2.1.1 ∧ ((0 : Nat) = (0 : Nat) ∧ (0 : Nat) = (0 : Nat) ∧ (Pl.atomReadI s).1.2.2.1.2.length = (0 : Nat)) ∧ ((0 : Nat) = (0 : Nat) ∧ (0 : Nat) = (0 : Nat) ∧ (Pl.atomReadI s).1.2.2.2.1.length = (0 : Nat)) ∧ ((0 : Nat) = (0 : Nat) ∧ (0 : Nat) = (0 : Nat) ∧ (Pl.atomReadI s).1.2.2.2.2.1.length = (0 : Nat)) ∧ (0 : Int) = (Pl.atomReadI s).1.2.2.2.2.2.1 ∧ false = (Pl.atomReadI s).1.2.2.2.2.2.2 ∧ True) ∧ false = (Pl.atomReadI s).2 ∧ True) ∧ True) ∧ (Pl.atomReadI s).1.2.1.2.length = (0 : Nat) ∧ (Pl.atomReadI s).1.2.2.1.2.length = (0 : Nat) ∧ (Pl.atomReadI s).1.2.2.2.1.length = (0 : Nat) ∧ (Pl.atomReadI s).1.2.2.2.2.1.length = (0 : Nat) ∧ True)
 ((0 : Nat) + ((Pl.tmRd (Pl.cutA x Pl.eqSgn)).1, (Pl.tmRd (Pl.cutR x Pl.eqSgn)).1, Pl.noT, Pl.noI, (0 : Int), false).1.2.length ≤
 ((Pl.tmRd (Pl.cutA x Pl.eqSgn)).1, (Pl.tmRd (Pl.cutR x Pl.eqSgn)).1, Pl.noT, Pl.noI, (0 : Int), false).1.2.length ∧ (0 : Nat) + ((Pl.tmRd (Pl.cutR x Pl.eqSgn)).1, Pl.noT, Pl.noI, (0 : Int), false).1.2.length ≤
 ((Pl.tmRd (Pl.cutR x Pl.eqSgn)).1, Pl.noT, Pl.noI, (0 : Int), false).1.2.length ∧ (0 : Nat) ≤ (0 : Nat) ∧ (0 : Nat) ≤ (0 : Nat) ∧ ∃ x_2 : Pl.Atm,
 ((Int.ofNat ((1 : Nat)) = x_2.1 ∧ ((Pl.tmRd (Pl.cutA x Pl.eqSgn)).1, (Pl.tmRd (Pl.cutR x Pl.eqSgn)).1, Pl.noT, Pl.noI, (0 : Int), false).1.1 = x_2.2.1.1 ∧ Is (terms ((Pl.tmRd (Pl.cutA x Pl.eqSgn)).1, (Pl.tmRd (Pl.cutR x Pl.eqSgn)).1, Pl.noT, Pl.noI, (0 : Int), false).1.2)
 (terms x_2.2.1.2) ∧ ((Pl.tmRd (Pl.cutR x Pl.eqSgn)).1, Pl.noT, Pl.noI, (0 : Int), false).1.1 = x_2.2.2.1.1 ∧ Is (terms ((Pl.tmRd (Pl.cutR x Pl.eqSgn)).1, Pl.noT, Pl.noI, (0 : Int), false).1.2) (terms x_2.2.2.1.2) ∧ Is (AV.sl ((0 : Nat)) (2 : Nat) fun (i j : Nat) => eT (Pl.Tree.mk ByteArray.empty []) j) (terms x_2.2.2.2.1) ∧ Is (AV.sl ((0 : Nat)) (1 : Nat) fun (i j : Nat) => i64 (Int.ofNat ((0 : Nat)))) (ints x_2.2.2.2.2.1) ∧ Int.ofNat ((0 : Nat)) = x_2.2.2.2.2.2.1 ∧ false = x_2.2.2.2.2.2.2 ∧ True) ∧ True) ∧ (SmA x_2 ∧ Pl.atomRight x_2 = true) ∧ condP (!(Pl.mkB (Pl.atomB x_2)).toList == s.toList)
 (∃ y : Unit,
 True ∧ ((((0 : Int) = (Pl.atomReadI s).1.1 ∧ ByteArray.mk #[] = (Pl.atomReadI s).1.2.1.1 ∧ ((0 : Nat) = (0 : Nat) ∧ (0 : Nat) = (0 : Nat) ∧ (Pl.atomReadI s).1.2.1.2.length = (0 : Nat)) ∧ ByteArray.mk #[] = (Pl.atomReadI s).1.2.2.1.1 ∧ ((0 : Nat) = (0 : Nat) ∧ (0 : Nat) = (0 : Nat) ∧ (Pl.atomReadI s).1.2.2.1.2.length = (0 : Nat)) ∧ ((0 : Nat) = (0 : Nat) ∧ (0 : Nat) = (0 : Nat) ∧ (Pl.atomReadI s).1.2.2.2.1.length = (0 : Nat)) ∧ ((0 : Nat) = (0 : Nat) ∧ (0 : Nat) = (0 : Nat) ∧ (Pl.atomReadI s).1.2.2.2.2.1.length = (0 : Nat)) ∧ (0 : Int) = (Pl.atomReadI s).1.2.2.2.2.2.1 ∧ false = (Pl.atomReadI s).1.2.2.2.2.2.2 ∧ True) ∧ false = (Pl.atomReadI s).2 ∧ True) ∧ True) ∧ (Pl.atomReadI s).1.2.1.2.length = (0 : Nat) ∧ (Pl.atomReadI s).1.2.2.1.2.length = (0 : Nat) ∧ (Pl.atomReadI s).1.2.2.2.1.length = (0 : Nat) ∧ (Pl.atomReadI s).1.2.2.2.2.1.length = (0 : Nat) ∧ True)
 (∃ y : Unit,
 True ∧ (((Int.ofNat ((1 : Nat)) = (Pl.atomReadI s).1.1 ∧ ((Pl.tmRd (Pl.cutA x Pl.eqSgn)).1, (Pl.tmRd (Pl.cutR x Pl.eqSgn)).1, Pl.noT, Pl.noI, (0 : Int), false).1.1 =
 (Pl.atomReadI s).1.2.1.1 ∧ ((0 : Nat) = (0 : Nat) ∧ ((Pl.tmRd (Pl.cutA x Pl.eqSgn)).1, (Pl.tmRd (Pl.cutR x Pl.eqSgn)).1, Pl.noT, Pl.noI, (0 : Int), false).1.2.length =
 (Pl.atomReadI s).1.2.1.2.length) ∧ ((Pl.tmRd (Pl.cutR x Pl.eqSgn)).1, Pl.noT, Pl.noI, (0 : Int), false).1.1 = (Pl.atomReadI s).1.2.2.1.1 ∧ ((0 : Nat) = (0 : Nat) ∧ ((Pl.tmRd (Pl.cutR x Pl.eqSgn)).1, Pl.noT, Pl.noI, (0 : Int), false).1.2.length =
 (Pl.atomReadI s).1.2.2.1.2.length) ∧ ((0 : Nat) = (0 : Nat) ∧ (0 : Nat) = (Pl.atomReadI s).1.2.2.2.1.length) ∧ ((0 : Nat) = (0 : Nat) ∧ (0 : Nat) = (Pl.atomReadI s).1.2.2.2.2.1.length) ∧ Int.ofNat ((0 : Nat)) = (Pl.atomReadI s).1.2.2.2.2.2.1 ∧ false = (Pl.atomReadI s).1.2.2.2.2.2.2 ∧ True) ∧ true = (Pl.atomReadI s).2 ∧ True) ∧ True) ∧ IsO (xrT ((Pl.tmRd (Pl.cutA x Pl.eqSgn)).1, (Pl.tmRd (Pl.cutR x Pl.eqSgn)).1, Pl.noT, Pl.noI, (0 : Int), false).1.2)
 (xrT (Pl.atomReadI s).1.2.1.2) ∧ IsO (xrT ((Pl.tmRd (Pl.cutR x Pl.eqSgn)).1, Pl.noT, Pl.noI, (0 : Int), false).1.2)
 (xrT (Pl.atomReadI s).1.2.2.1.2) ∧ IsO (AObj.xarr ((0 : Nat)) (2 : Nat) fun (i j : Nat) => eT (Pl.Tree.mk ByteArray.empty []) j)
 (xrT (Pl.atomReadI s).1.2.2.2.1) ∧ IsO (AObj.arr ((0 : Nat)) (1 : Nat) fun (i j : Nat) => i64 (Int.ofNat ((0 : Nat))))
 (arI (Pl.atomReadI s).1.2.2.2.2.1) ∧ True))))) = Goal Tryz.prog [K_readEqO, K_readSumO, K_Atomok, K_atomText] ([]) K_iAtomReadO.1 K_iAtomReadO.2 (s) := by kernel_rfl

theorem vc_iLitReadO (s : ByteArray) : (∃ x : ByteArray × ByteArray,
 (s = x.1 ∧ ByteArray.mk #[(110 : UInt8), (111 : UInt8), (116 : UInt8), (32 : UInt8)] = x.2 ∧ True) ∧ x.1.size.le (4294967280 : Nat) ∧ ∃ x_1 : ByteArray,
 x_1.size.le (1048576 : Nat) ∧ ((Pl.mkB (Lib.trimPrefix (Pl.bl' x.1) (Pl.bl' x.2)) = x_1 ∧ True) ∧ True) ∧ ∀ (y : Unit),
 True →
 condP (!(Pl.atomReadI x_1).2)
 (∃ y : Unit,
 True ∧ ((((0 : Int) = (Pl.litReadI s).1.1.1 ∧ ByteArray.mk #[] = (Pl.litReadI s).1.1.2.1.1 ∧ ((0 : Nat) = (0 : Nat) ∧ (0 : Nat) = (0 : Nat) ∧ (Pl.litReadI s).1.1.2.1.2.length = (0 : Nat)) ∧ ByteArray.mk #[] = (Pl.litReadI s).1.1.2.2.1.1 ∧ ((0 : Nat) = (0 : Nat) ∧ (0 : Nat) = (0 : Nat) ∧ (Pl.litReadI s).1.1.2.2.1.2.length = (0 : Nat)) ∧ ((0 : Nat) = (0 : Nat) ∧ (0 : Nat) = (0 : Nat) ∧ (Pl.litReadI s).1.1.2.2.2.1.length = (0 : Nat)) ∧ ((0 : Nat) = (0 : Nat) ∧ (0 : Nat) = (0 : Nat) ∧ (Pl.litReadI s).1.1.2.2.2.2.1.length = (0 : Nat)) ∧ (0 : Int) = (Pl.litReadI s).1.1.2.2.2.2.2.1 ∧ false = (Pl.litReadI s).1.1.2.2.2.2.2.2 ∧ false = (Pl.litReadI s).1.2 ∧ True) ∧ false = (Pl.litReadI s).2 ∧ True) ∧ True) ∧ (Pl.litReadI s).1.1.2.1.2.length = (0 : Nat) ∧ (Pl.litReadI s).1.1.2.2.1.2.length = (0 : Nat) ∧ (Pl.litReadI s).1.1.2.2.2.1.length = (0 : Nat) ∧ (Pl.litReadI s).1.1.2.2.2.2.1.length = (0 : Nat) ∧ True)
 (∃ y : Unit,
 True ∧ ((((Pl.atomReadI x_1).1.1 = (Pl.litReadI s).1.1.1 ∧ (Pl.atomReadI x_1).1.2.1.1 = (Pl.litReadI s).1.1.2.1.1 ∧ ((0 : Nat) = (0 : Nat) ∧ (Pl.atomReadI x_1).1.2.1.2.length = (Pl.litReadI s).1.1.2.1.2.length) ∧ (Pl.atomReadI x_1).1.2.2.1.1 = (Pl.litReadI s).1.1.2.2.1.1 ∧ ((0 : Nat) = (0 : Nat) ∧ (Pl.atomReadI x_1).1.2.2.1.2.length = (Pl.litReadI s).1.1.2.2.1.2.length) ∧ ((0 : Nat) = (0 : Nat) ∧ (Pl.atomReadI x_1).1.2.2.2.1.length = (Pl.litReadI s).1.1.2.2.2.1.length) ∧ ((0 : Nat) = (0 : Nat) ∧ (Pl.atomReadI x_1).1.2.2.2.2.1.length = (Pl.litReadI s).1.1.2.2.2.2.1.length) ∧ (Pl.atomReadI x_1).1.2.2.2.2.2.1 = (Pl.litReadI s).1.1.2.2.2.2.2.1 ∧ (Pl.atomReadI x_1).1.2.2.2.2.2.2 = (Pl.litReadI s).1.1.2.2.2.2.2.2 ∧ Lib.hasPrefix (Pl.bl' x.1) (Pl.bl' x.2) = (Pl.litReadI s).1.2 ∧ True) ∧ true = (Pl.litReadI s).2 ∧ True) ∧ True) ∧ IsO (xrT (Pl.atomReadI x_1).1.2.1.2) (xrT (Pl.litReadI s).1.1.2.1.2) ∧ IsO (xrT (Pl.atomReadI x_1).1.2.2.1.2) (xrT (Pl.litReadI s).1.1.2.2.1.2) ∧ IsO (xrT (Pl.atomReadI x_1).1.2.2.2.1) (xrT (Pl.litReadI s).1.1.2.2.2.1) ∧ IsO (arI (Pl.atomReadI x_1).1.2.2.2.2.1) (arI (Pl.litReadI s).1.1.2.2.2.2.1) ∧ True)) = Goal Tryz.prog [K_CutPrefix, K_iAtomReadO] ([]) K_iLitReadO.1 K_iLitReadO.2 (s) := by kernel_rfl

end Cg

/-
  What is left to show of each function's code, printed by a program: Ard. No condition.
-/
set_option maxRecDepth 100000
set_option linter.unusedVariables false
namespace Cg
open Go Go.Proofs
theorem vc_l4Word (s : ByteArray) (a : Nat) : ((∃ x : Nat, (x ≤ s.size ∧ x + Pl.wl (List.drop x (Pl.bl' s)) = a + Pl.wl (List.drop a (Pl.bl' s))) ∧ (s = s ∧ (↑a : Int) = (↑x : Int) ∧ True) ∧ True) ∧ ∀ (x : Nat),
 x ≤ s.size ∧ x + Pl.wl (List.drop x (Pl.bl' s)) = a + Pl.wl (List.drop a (Pl.bl' s)) →
 condP (decide ((↑x : Int) < (↑s.size : Int)))
 (((0 : Int) ≤ (↑x : Int) ∧ (↑x : Int) < (↑s.size : Int)) ∧ condP (decide ((↑(s.data.getD x (0 : UInt8)).toNat : Int) ≥ (97 : Int)))
 (((0 : Int) ≤ (↑x : Int) ∧ (↑x : Int) < (↑s.size : Int)) ∧ condP (decide ((↑(s.data.getD x (0 : UInt8)).toNat : Int) ≤ (122 : Int)))
 (Exists fun (x' : Nat) =>
 (x' ≤ s.size ∧ x' + Pl.wl (List.drop x' (Pl.bl' s)) = a + Pl.wl (List.drop a (Pl.bl' s))) ∧ s.size - x' < s.size - x ∧ (s = s ∧ IntKind.i64.wrap ((↑x : Int) + (1 : Int)) = (↑x' : Int) ∧ True) ∧ True)
 ((↑x : Int) = (↑(a + Pl.wl (List.drop a (Pl.bl' s))) : Int)))
 ((↑x : Int) = (↑(a + Pl.wl (List.drop a (Pl.bl' s))) : Int)))
 ((↑x : Int) = (↑(a + Pl.wl (List.drop a (Pl.bl' s))) : Int))) = Goal Tryz.prog [] (A_l4Word s a) K_l4Word.1 K_l4Word.2 ((s, a)) := by kernel_rfl

theorem vc_l4Read (n : Nat) (s : ByteArray) (a d : Nat) : (∃ x : ByteArray × Nat,
 (s = x.1 ∧ (↑a : Int) = (↑x.2 : Int) ∧ True) ∧ (x.1.size.le (1048576 : Nat) ∧ x.2 ≤ x.1.size) ∧ ((0 : Int) ≤ (↑a : Int) ∧ (↑a : Int) ≤ (↑(x.2 + Pl.wl (List.drop x.2 (Pl.bl' x.1))) : Int) ∧ (↑(x.2 + Pl.wl (List.drop x.2 (Pl.bl' x.1))) : Int) ≤ (↑s.size : Int)) ∧ condP ((↑(x.2 + Pl.wl (List.drop x.2 (Pl.bl' x.1))) : Int) == (↑a : Int))
 ((s.extract a (x.2 + Pl.wl (List.drop x.2 (Pl.bl' x.1))) = (Pl.rdT true d (List.drop a (Pl.bl' s))).1.1 ∧ Is (AV.lit (0 : Nat) (1 : Nat) fun (x x_1 : Nat) => AV.any) (terms (Pl.rdT true d (List.drop a (Pl.bl' s))).1.2) ∧ True) ∧ (-1 : Int) = Pl.posn s (Pl.rdT true d (List.drop a (Pl.bl' s))).2 ∧ True)
 (condP (decide ((↑d : Int) < (1 : Int)))
 ((s.extract a (x.2 + Pl.wl (List.drop x.2 (Pl.bl' x.1))) = (Pl.rdT true d (List.drop a (Pl.bl' s))).1.1 ∧ Is (AV.lit (0 : Nat) (1 : Nat) fun (x x_1 : Nat) => AV.any) (terms (Pl.rdT true d (List.drop a (Pl.bl' s))).1.2) ∧ True) ∧ (-1 : Int) = Pl.posn s (Pl.rdT true d (List.drop a (Pl.bl' s))).2 ∧ True)
 (condP (decide ((↑(x.2 + Pl.wl (List.drop x.2 (Pl.bl' x.1))) : Int) ≥ (↑s.size : Int)))
 ((s.extract a (x.2 + Pl.wl (List.drop x.2 (Pl.bl' x.1))) = (Pl.rdT true d (List.drop a (Pl.bl' s))).1.1 ∧ Is (AV.lit (0 : Nat) (1 : Nat) fun (x x_1 : Nat) => AV.any) (terms (Pl.rdT true d (List.drop a (Pl.bl' s))).1.2) ∧ True) ∧ (↑(x.2 + Pl.wl (List.drop x.2 (Pl.bl' x.1))) : Int) = Pl.posn s (Pl.rdT true d (List.drop a (Pl.bl' s))).2 ∧ True)
 (((0 : Int) ≤ (↑(x.2 + Pl.wl (List.drop x.2 (Pl.bl' x.1))) : Int) ∧ (↑(x.2 + Pl.wl (List.drop x.2 (Pl.bl' x.1))) : Int) < (↑s.size : Int)) ∧ condP ((↑(s.data.getD (x.2 + Pl.wl (List.drop x.2 (Pl.bl' x.1))) (0 : UInt8)).toNat : Int) != (40 : Int))
 ((s.extract a (x.2 + Pl.wl (List.drop x.2 (Pl.bl' x.1))) = (Pl.rdT true d (List.drop a (Pl.bl' s))).1.1 ∧ Is (AV.lit (0 : Nat) (1 : Nat) fun (x x_1 : Nat) => AV.any) (terms (Pl.rdT true d (List.drop a (Pl.bl' s))).1.2) ∧ True) ∧ (↑(x.2 + Pl.wl (List.drop x.2 (Pl.bl' x.1))) : Int) = Pl.posn s (Pl.rdT true d (List.drop a (Pl.bl' s))).2 ∧ True)
 ((∃ x_1 : Nat × List Pl.Tm,
 (x_1.1 ≤ s.size ∧ x_1.2.length ≤ (3 : Nat) ∧ (0 : Nat) < d ∧ Pl.kidsR (Pl.rdT true (d - (1 : Nat))) true (Pl.wname (List.drop a (Pl.bl' s))) ((3 : Nat) - x_1.2.length) x_1.2 (List.drop x_1.1 (Pl.bl' s)) =
 Pl.rdT true d (List.drop a (Pl.bl' s))) ∧ (s = s ∧ (↑(x.2 + Pl.wl (List.drop x.2 (Pl.bl' x.1))) : Int) = (↑x_1.1 : Int) ∧ (↑d : Int) = (↑d : Int) ∧ (0 : Nat) = (0 : Nat) ∧ (0 : Nat) = (0 : Nat) ∧ True) ∧ (ByteArray.mk #[] = ByteArray.empty ∧ Is (AV.lit (0 : Nat) (1 : Nat) fun (x x_2 : Nat) => AV.any) nilA ∧ True) ∧ (s.extract a (x.2 + Pl.wl (List.drop x.2 (Pl.bl' x.1))) = Pl.wname (List.drop a (Pl.bl' s)) ∧ ((0 : Nat) = (0 : Nat) ∧ (0 : Nat) = (0 : Nat) ∧ x_1.2.length = (0 : Nat)) ∧ True) ∧ x_1.2.length = (0 : Nat) ∧ True) ∧ ∀ (x : Nat × List Pl.Tm),
 x.1 ≤ s.size ∧ x.2.length ≤ (3 : Nat) ∧ (0 : Nat) < d ∧ Pl.kidsR (Pl.rdT true (d - (1 : Nat))) true (Pl.wname (List.drop a (Pl.bl' s))) ((3 : Nat) - x.2.length) x.2 (List.drop x.1 (Pl.bl' s)) =
 Pl.rdT true d (List.drop a (Pl.bl' s)) →
 condP (decide ((↑x.2.length : Int) ≤ (2 : Int)))
 (condP (decide ((↑x.1 : Int) < (↑s.size : Int)))
 (((0 : Int) ≤ (↑x.1 : Int) ∧ (↑x.1 : Int) < (↑s.size : Int)) ∧ condP ((↑(s.data.getD x.1 (0 : UInt8)).toNat : Int) != (41 : Int))
 (∃ x_1 : ByteArray × Nat × Nat,
 (s = x_1.1 ∧ IntKind.i64.wrap ((↑x.1 : Int) + (1 : Int)) = (↑x_1.2.1 : Int) ∧ IntKind.i64.wrap ((↑d : Int) - (1 : Int)) = (↑x_1.2.2 : Int) ∧ True) ∧ ((x_1.1.size.le (1048576 : Nat) ∧ x_1.2.1 ≤ x_1.1.size ∧ x_1.2.2 ≤ (4 : Nat)) ∧ x_1.2.2 < n) ∧ condP (decide (Pl.posn x_1.1 (Pl.rdT true x_1.2.2 (List.drop x_1.2.1 (Pl.bl' x_1.1))).2 < (0 : Int)))
 ((0 : Nat) + x.2.length ≤ x.2.length ∧ (Pl.wname (List.drop a (Pl.bl' s)) = (Pl.rdT true d (List.drop a (Pl.bl' s))).1.1 ∧ Is (terms x.2) (terms (Pl.rdT true d (List.drop a (Pl.bl' s))).1.2) ∧ True) ∧ (-1 : Int) = Pl.posn s (Pl.rdT true d (List.drop a (Pl.bl' s))).2 ∧ True)
 (condP (decide (Pl.posn x_1.1 (Pl.rdT true x_1.2.2 (List.drop x_1.2.1 (Pl.bl' x_1.1))).2 ≥ (↑s.size : Int)))
 ((0 : Nat) + x.2.length ≤ x.2.length ∧ (Pl.wname (List.drop a (Pl.bl' s)) = (Pl.rdT true d (List.drop a (Pl.bl' s))).1.1 ∧ Is (terms x.2) (terms (Pl.rdT true d (List.drop a (Pl.bl' s))).1.2) ∧ True) ∧ (-1 : Int) = Pl.posn s (Pl.rdT true d (List.drop a (Pl.bl' s))).2 ∧ True)
 (((0 : Int) ≤ Pl.posn x_1.1 (Pl.rdT true x_1.2.2 (List.drop x_1.2.1 (Pl.bl' x_1.1))).2 ∧ Pl.posn x_1.1 (Pl.rdT true x_1.2.2 (List.drop x_1.2.1 (Pl.bl' x_1.1))).2 < (↑s.size : Int)) ∧ condP
 ((↑(s.data.getD (Pl.posn x_1.1 (Pl.rdT true x_1.2.2 (List.drop x_1.2.1 (Pl.bl' x_1.1))).2).toNat (0 : UInt8)).toNat : Int) !=
 (44 : Int))
 (((0 : Int) ≤ Pl.posn x_1.1 (Pl.rdT true x_1.2.2 (List.drop x_1.2.1 (Pl.bl' x_1.1))).2 ∧ Pl.posn x_1.1 (Pl.rdT true x_1.2.2 (List.drop x_1.2.1 (Pl.bl' x_1.1))).2 < (↑s.size : Int)) ∧ condP
 ((↑(s.data.getD (Pl.posn x_1.1 (Pl.rdT true x_1.2.2 (List.drop x_1.2.1 (Pl.bl' x_1.1))).2).toNat (0 : UInt8)).toNat : Int) !=
 (41 : Int))
 ((0 : Nat) + x.2.length ≤ x.2.length ∧ (Pl.wname (List.drop a (Pl.bl' s)) = (Pl.rdT true d (List.drop a (Pl.bl' s))).1.1 ∧ Is (terms x.2) (terms (Pl.rdT true d (List.drop a (Pl.bl' s))).1.2) ∧ True) ∧ (-1 : Int) = Pl.posn s (Pl.rdT true d (List.drop a (Pl.bl' s))).2 ∧ True)
 ((0 : Nat) + x.2.length ≤ x.2.length ∧ (x.2.length + (1 : Nat)) * (40 : Nat) ≤ (70368744177664 : Nat) ∧ Exists fun (x' : Nat × List Pl.Tm) =>
 (x'.1 ≤ s.size ∧ x'.2.length ≤ (3 : Nat) ∧ (0 : Nat) < d ∧ Pl.kidsR (Pl.rdT true (d - (1 : Nat))) true (Pl.wname (List.drop a (Pl.bl' s))) ((3 : Nat) - x'.2.length) x'.2
 (List.drop x'.1 (Pl.bl' s)) =
 Pl.rdT true d (List.drop a (Pl.bl' s))) ∧ (3 : Nat) - x'.2.length < (3 : Nat) - x.2.length ∧ (s = s ∧ Pl.posn x_1.1 (Pl.rdT true x_1.2.2 (List.drop x_1.2.1 (Pl.bl' x_1.1))).2 = (↑x'.1 : Int) ∧ (↑d : Int) = (↑d : Int) ∧ (0 : Nat) = (0 : Nat) ∧ (0 : Nat) = (0 : Nat) ∧ True) ∧ (ByteArray.empty = ByteArray.empty ∧ Is (AV.lit (0 : Nat) (1 : Nat) fun (x x_2 : Nat) => AV.any) nilA ∧ True) ∧ (Pl.wname (List.drop a (Pl.bl' s)) = Pl.wname (List.drop a (Pl.bl' s)) ∧ ((0 : Nat) = (0 : Nat) ∧ x.2.length + (1 : Nat) = x'.2.length) ∧ True) ∧ IsO
 (AObj.arr (x.2.length + (1 : Nat)) (2 : Nat)
 (joinC x.2.length (cT x.2)
 (rowsCell
 [[st (Pl.rdT true x_1.2.2 (List.drop x_1.2.1 (Pl.bl' x_1.1))).1.1,
 terms (Pl.rdT true x_1.2.2 (List.drop x_1.2.1 (Pl.bl' x_1.1))).1.2]])))
 (arT x'.2) ∧ True))
 ((0 : Nat) + x.2.length ≤ x.2.length ∧ (x.2.length + (1 : Nat)) * (40 : Nat) ≤ (70368744177664 : Nat) ∧ Exists fun (x' : Nat × List Pl.Tm) =>
 (x'.1 ≤ s.size ∧ x'.2.length ≤ (3 : Nat) ∧ (0 : Nat) < d ∧ Pl.kidsR (Pl.rdT true (d - (1 : Nat))) true (Pl.wname (List.drop a (Pl.bl' s))) ((3 : Nat) - x'.2.length) x'.2
 (List.drop x'.1 (Pl.bl' s)) =
 Pl.rdT true d (List.drop a (Pl.bl' s))) ∧ (3 : Nat) - x'.2.length < (3 : Nat) - x.2.length ∧ (s = s ∧ Pl.posn x_1.1 (Pl.rdT true x_1.2.2 (List.drop x_1.2.1 (Pl.bl' x_1.1))).2 = (↑x'.1 : Int) ∧ (↑d : Int) = (↑d : Int) ∧ (0 : Nat) = (0 : Nat) ∧ (0 : Nat) = (0 : Nat) ∧ True) ∧ (ByteArray.empty = ByteArray.empty ∧ Is (AV.lit (0 : Nat) (1 : Nat) fun (x x_2 : Nat) => AV.any) nilA ∧ True) ∧ (Pl.wname (List.drop a (Pl.bl' s)) = Pl.wname (List.drop a (Pl.bl' s)) ∧ ((0 : Nat) = (0 : Nat) ∧ x.2.length + (1 : Nat) = x'.2.length) ∧ True) ∧ IsO
 (AObj.arr (x.2.length + (1 : Nat)) (2 : Nat)
 (joinC x.2.length (cT x.2)
 (rowsCell
 [[st (Pl.rdT true x_1.2.2 (List.drop x_1.2.1 (Pl.bl' x_1.1))).1.1,
 terms (Pl.rdT true x_1.2.2 (List.drop x_1.2.1 (Pl.bl' x_1.1))).1.2]])))
 (arT x'.2) ∧ True))))
 (condP (decide ((↑x.1 : Int) ≥ (↑s.size : Int)))
 ((0 : Nat) + x.2.length ≤ x.2.length ∧ (Pl.wname (List.drop a (Pl.bl' s)) = (Pl.rdT true d (List.drop a (Pl.bl' s))).1.1 ∧ Is (terms x.2) (terms (Pl.rdT true d (List.drop a (Pl.bl' s))).1.2) ∧ True) ∧ (-1 : Int) = Pl.posn s (Pl.rdT true d (List.drop a (Pl.bl' s))).2 ∧ True)
 (((0 : Int) ≤ (↑x.1 : Int) ∧ (↑x.1 : Int) < (↑s.size : Int)) ∧ condP ((↑(s.data.getD x.1 (0 : UInt8)).toNat : Int) != (41 : Int))
 ((0 : Nat) + x.2.length ≤ x.2.length ∧ (Pl.wname (List.drop a (Pl.bl' s)) = (Pl.rdT true d (List.drop a (Pl.bl' s))).1.1 ∧ Is (terms x.2) (terms (Pl.rdT true d (List.drop a (Pl.bl' s))).1.2) ∧ True) ∧ (-1 : Int) = Pl.posn s (Pl.rdT true d (List.drop a (Pl.bl' s))).2 ∧ True)
 ((0 : Nat) + x.2.length ≤ x.2.length ∧ (Pl.wname (List.drop a (Pl.bl' s)) = (Pl.rdT true d (List.drop a (Pl.bl' s))).1.1 ∧ Is (terms x.2) (terms (Pl.rdT true d (List.drop a (Pl.bl' s))).1.2) ∧ True) ∧ IntKind.i64.wrap ((↑x.1 : Int) + (1 : Int)) = Pl.posn s (Pl.rdT true d (List.drop a (Pl.bl' s))).2 ∧ True))))
 (condP (decide ((↑x.1 : Int) ≥ (↑s.size : Int)))
 ((0 : Nat) + x.2.length ≤ x.2.length ∧ (Pl.wname (List.drop a (Pl.bl' s)) = (Pl.rdT true d (List.drop a (Pl.bl' s))).1.1 ∧ Is (terms x.2) (terms (Pl.rdT true d (List.drop a (Pl.bl' s))).1.2) ∧ True) ∧ (-1 : Int) = Pl.posn s (Pl.rdT true d (List.drop a (Pl.bl' s))).2 ∧ True)
 (((0 : Int) ≤ (↑x.1 : Int) ∧ (↑x.1 : Int) < (↑s.size : Int)) ∧ condP ((↑(s.data.getD x.1 (0 : UInt8)).toNat : Int) != (41 : Int))
 ((0 : Nat) + x.2.length ≤ x.2.length ∧ (Pl.wname (List.drop a (Pl.bl' s)) = (Pl.rdT true d (List.drop a (Pl.bl' s))).1.1 ∧ Is (terms x.2) (terms (Pl.rdT true d (List.drop a (Pl.bl' s))).1.2) ∧ True) ∧ (-1 : Int) = Pl.posn s (Pl.rdT true d (List.drop a (Pl.bl' s))).2 ∧ True)
 ((0 : Nat) + x.2.length ≤ x.2.length ∧ (Pl.wname (List.drop a (Pl.bl' s)) = (Pl.rdT true d (List.drop a (Pl.bl' s))).1.1 ∧ Is (terms x.2) (terms (Pl.rdT true d (List.drop a (Pl.bl' s))).1.2) ∧ True) ∧ IntKind.i64.wrap ((↑x.1 : Int) + (1 : Int)) = Pl.posn s (Pl.rdT true d (List.drop a (Pl.bl' s))).2 ∧ True))))
 (condP (decide ((↑x.1 : Int) ≥ (↑s.size : Int)))
 ((0 : Nat) + x.2.length ≤ x.2.length ∧ (Pl.wname (List.drop a (Pl.bl' s)) = (Pl.rdT true d (List.drop a (Pl.bl' s))).1.1 ∧ Is (terms x.2) (terms (Pl.rdT true d (List.drop a (Pl.bl' s))).1.2) ∧ True) ∧ (-1 : Int) = Pl.posn s (Pl.rdT true d (List.drop a (Pl.bl' s))).2 ∧ True)
 (((0 : Int) ≤ (↑x.1 : Int) ∧ (↑x.1 : Int) < (↑s.size : Int)) ∧ condP ((↑(s.data.getD x.1 (0 : UInt8)).toNat : Int) != (41 : Int))
 ((0 : Nat) + x.2.length ≤ x.2.length ∧ (Pl.wname (List.drop a (Pl.bl' s)) = (Pl.rdT true d (List.drop a (Pl.bl' s))).1.1 ∧ Is (terms x.2) (terms (Pl.rdT true d (List.drop a (Pl.bl' s))).1.2) ∧ True) ∧ (-1 : Int) = Pl.posn s (Pl.rdT true d (List.drop a (Pl.bl' s))).2 ∧ True)
 ((0 : Nat) + x.2.length ≤ x.2.length ∧ (Pl.wname (List.drop a (Pl.bl' s)) = (Pl.rdT true d (List.drop a (Pl.bl' s))).1.1 ∧ Is (terms x.2) (terms (Pl.rdT true d (List.drop a (Pl.bl' s))).1.2) ∧ True) ∧ IntKind.i64.wrap ((↑x.1 : Int) + (1 : Int)) = Pl.posn s (Pl.rdT true d (List.drop a (Pl.bl' s))).2 ∧ True)))))))) = Goal Tryz.prog [K_l4Word, (K_l4Read n)] (A_l4Read s a d) (K_l4Read (n + 1)).1 (K_l4Read (n + 1)).2 ((s, a, d)) := by kernel_rfl

theorem vc_sTermText (x : Pl.TP) : (∃ x_1 : Pl.TP,
 ((x.1 = x_1.1 ∧ Is (terms x.2) (terms x_1.2) ∧ True) ∧ True) ∧ SmT (Pl.Tree.mk x_1.1 x_1.2) ∧ condP (!Pl.right (Pl.Tree.mk x_1.1 x_1.2)) (ByteArray.mk #[] = Pl.tx (Pl.right (Pl.Tree.mk x.1 x.2)) (Pl.textB (Pl.Tree.mk x.1 x.2)))
 (∃ x_2 : Pl.TP,
 ((x.1 = x_2.1 ∧ Is (terms x.2) (terms x_2.2) ∧ True) ∧ True) ∧ SmT (Pl.Tree.mk x_2.1 x_2.2) ∧ Pl.textT (Pl.Tree.mk x_2.1 x_2.2) = Pl.tx (Pl.right (Pl.Tree.mk x.1 x.2)) (Pl.textB (Pl.Tree.mk x.1 x.2)))) = Goal Tryz.prog [K_l4Right, K_lText] ([]) K_sTermText.1 K_sTermText.2 (x) := by kernel_rfl

theorem vc_sTermRead (s : ByteArray) : (∃ x : ByteArray × Nat × Nat,
 (s = x.1 ∧ (0 : Int) = (↑x.2.1 : Int) ∧ (4 : Int) = (↑x.2.2 : Int) ∧ True) ∧ (x.1.size.le (1048576 : Nat) ∧ x.2.1 ≤ x.1.size ∧ x.2.2 ≤ (4 : Nat)) ∧ condP (Pl.posn x.1 (Pl.rdT true x.2.2 (List.drop x.2.1 (Pl.bl' x.1))).2 != (↑s.size : Int))
 ((ByteArray.mk #[] = (Pl.tmRd s).1.1 ∧ Is (AV.lit (0 : Nat) (1 : Nat) fun (x x_1 : Nat) => AV.any) (terms (Pl.tmRd s).1.2) ∧ True) ∧ false = (Pl.tmRd s).2 ∧ True)
 (condP (s.toList == (ByteArray.mk #[]).toList)
 ((ByteArray.mk #[] = (Pl.tmRd s).1.1 ∧ Is (AV.lit (0 : Nat) (1 : Nat) fun (x x_1 : Nat) => AV.any) (terms (Pl.tmRd s).1.2) ∧ True) ∧ false = (Pl.tmRd s).2 ∧ True)
 (∃ x_1 : Pl.TP,
 (((Pl.rdT true x.2.2 (List.drop x.2.1 (Pl.bl' x.1))).1.1 = x_1.1 ∧ Is (terms (Pl.rdT true x.2.2 (List.drop x.2.1 (Pl.bl' x.1))).1.2) (terms x_1.2) ∧ True) ∧ True) ∧ SmT (Pl.Tree.mk x_1.1 x_1.2) ∧ condP (!(Pl.tx (Pl.right (Pl.Tree.mk x_1.1 x_1.2)) (Pl.textB (Pl.Tree.mk x_1.1 x_1.2))).toList == s.toList)
 ((ByteArray.mk #[] = (Pl.tmRd s).1.1 ∧ Is (AV.lit (0 : Nat) (1 : Nat) fun (x x_2 : Nat) => AV.any) (terms (Pl.tmRd s).1.2) ∧ True) ∧ false = (Pl.tmRd s).2 ∧ True)
 (((Pl.rdT true x.2.2 (List.drop x.2.1 (Pl.bl' x.1))).1.1 = (Pl.tmRd s).1.1 ∧ Is (terms (Pl.rdT true x.2.2 (List.drop x.2.1 (Pl.bl' x.1))).1.2) (terms (Pl.tmRd s).1.2) ∧ True) ∧ true = (Pl.tmRd s).2 ∧ True)))) = Goal Tryz.prog [K_lRead, K_sTermText] ([]) K_sTermRead.1 K_sTermRead.2 (s) := by kernel_rfl

theorem vc_l6Scan (s : ByteArray) : (∃ x : ByteArray × UInt8,
 (s = x.1 ∧ (32 : Int) = (↑x.2.toNat : Int) ∧ True) ∧ x.1.size.le (4294967280 : Nat) ∧ (∃ x_1 : Nat,
 x_1 ≤ Min.min ((Pl.cut (32 : UInt8) s).length - (2 : Nat)) (5 : Nat) ∧ ((0 : Nat) = (0 : Nat) ∧ Is (strs (Pl.cut x.2 x.1)) (strs (Pl.cut (32 : UInt8) s)) ∧ (0 : Nat) = (0 : Nat) ∧ (↑(Pl.cut x.2 x.1).length : Int) = (↑(Pl.cut (32 : UInt8) s).length : Int) ∧ (0 : Int) = (↑x_1 : Int) ∧ True) ∧ ((0 : Int) = (0 : Int) ∧ ByteArray.mk #[] = ByteArray.empty ∧ Is (AV.lit (0 : Nat) (1 : Nat) fun (x x_2 : Nat) => AV.any) nilA ∧ ByteArray.mk #[] = ByteArray.empty ∧ Is (AV.lit (0 : Nat) (1 : Nat) fun (x x_2 : Nat) => AV.any) nilA ∧ Is (AV.lit (0 : Nat) (1 : Nat) fun (x x_2 : Nat) => AV.any) nilA ∧ Is (AV.lit (0 : Nat) (1 : Nat) fun (x x_2 : Nat) => AV.any) nilA ∧ (0 : Int) = (0 : Int) ∧ false = false ∧ True) ∧ ((2 : Int) = (2 : Int) ∧ ByteArray.mk #[] = ByteArray.empty ∧ Is (AV.lit (0 : Nat) (1 : Nat) fun (x x_2 : Nat) => AV.any) nilA ∧ ByteArray.mk #[] = ByteArray.empty ∧ Is (AV.lit (0 : Nat) (1 : Nat) fun (x x_2 : Nat) => AV.any) nilA ∧ ((0 : Nat) = (0 : Nat) ∧ (0 : Nat) = (0 : Nat) ∧ x_1 = (0 : Nat)) ∧ ((0 : Nat) = (0 : Nat) ∧ (0 : Nat) = (0 : Nat) ∧ x_1 = (0 : Nat)) ∧ (0 : Int) = (0 : Int) ∧ false = false ∧ True) ∧ (Pl.numsS (List.take x_1 (Pl.cut (32 : UInt8) s))).length = (0 : Nat) ∧ (Pl.timesS (List.take x_1 (Pl.cut (32 : UInt8) s))).length = (0 : Nat) ∧ True) ∧ ∀ (x : Nat),
 x ≤ Min.min ((Pl.cut (32 : UInt8) s).length - (2 : Nat)) (5 : Nat) →
 condP (decide (IntKind.i64.wrap ((↑x : Int) + (2 : Int)) < (↑(Pl.cut (32 : UInt8) s).length : Int)))
 (condP (decide ((↑x : Int) ≤ (4 : Int)))
 (((0 : Int) ≤ (↑x : Int) ∧ (↑x : Int) < (↑(Pl.cut (32 : UInt8) s).length : Int)) ∧ x < (Pl.cut (32 : UInt8) s).length ∧ ∃ x_1 : ByteArray × UInt8,
 ((Pl.cut (32 : UInt8) s).getD x ByteArray.empty = x_1.1 ∧ (42 : Int) = (↑x_1.2.toNat : Int) ∧ True) ∧ x_1.1.size.le (4294967280 : Nat) ∧ ((0 : Int) ≤ (0 : Int) ∧ (0 : Int) < (↑(Pl.cut x_1.2 x_1.1).length : Int)) ∧ (0 : Nat) < (Pl.cut x_1.2 x_1.1).length ∧ ∃ x_2 : ByteArray,
 ((Pl.cut x_1.2 x_1.1).getD (0 : Nat) ByteArray.empty = x_2 ∧ True) ∧ x_2.size.le (4294967280 : Nat) ∧ condP (decide ((↑(Pl.cut x_1.2 x_1.1).length : Int) > (1 : Int)))
 (((0 : Int) ≤ (1 : Int) ∧ (1 : Int) < (↑(Pl.cut x_1.2 x_1.1).length : Int)) ∧ (1 : Nat) < (Pl.cut x_1.2 x_1.1).length ∧ ∃ x_3 : ByteArray,
 ((Pl.cut x_1.2 x_1.1).getD (1 : Nat) ByteArray.empty = x_3 ∧ True) ∧ x_3.size.le (1048576 : Nat) ∧ (0 : Nat) + x ≤ (Pl.numsS (List.take x (Pl.cut (32 : UInt8) s))).length ∧ (x + (1 : Nat)) * (40 : Nat) ≤ (70368744177664 : Nat) ∧ (0 : Nat) + x ≤ (Pl.timesS (List.take x (Pl.cut (32 : UInt8) s))).length ∧ (x + (1 : Nat)) * (8 : Nat) ≤ (70368744177664 : Nat) ∧ Exists fun (x' : Nat) =>
 x' ≤ Min.min ((Pl.cut (32 : UInt8) s).length - (2 : Nat)) (5 : Nat) ∧ (5 : Nat) - x' < (5 : Nat) - x ∧ ((0 : Nat) = (0 : Nat) ∧ Is (strs (Pl.cut (32 : UInt8) s)) (strs (Pl.cut (32 : UInt8) s)) ∧ (0 : Nat) = (0 : Nat) ∧ (↑(Pl.cut (32 : UInt8) s).length : Int) = (↑(Pl.cut (32 : UInt8) s).length : Int) ∧ IntKind.i64.wrap ((↑x : Int) + (1 : Int)) = (↑x' : Int) ∧ True) ∧ ((0 : Int) = (0 : Int) ∧ ByteArray.empty = ByteArray.empty ∧ Is (AV.lit (0 : Nat) (1 : Nat) fun (x x_4 : Nat) => AV.any) nilA ∧ ByteArray.empty = ByteArray.empty ∧ Is (AV.lit (0 : Nat) (1 : Nat) fun (x x_4 : Nat) => AV.any) nilA ∧ Is (AV.lit (0 : Nat) (1 : Nat) fun (x x_4 : Nat) => AV.any) nilA ∧ Is (AV.lit (0 : Nat) (1 : Nat) fun (x x_4 : Nat) => AV.any) nilA ∧ (0 : Int) = (0 : Int) ∧ false = false ∧ True) ∧ ((2 : Int) = (2 : Int) ∧ ByteArray.empty = ByteArray.empty ∧ Is (AV.lit (0 : Nat) (1 : Nat) fun (x x_4 : Nat) => AV.any) nilA ∧ ByteArray.empty = ByteArray.empty ∧ Is (AV.lit (0 : Nat) (1 : Nat) fun (x x_4 : Nat) => AV.any) nilA ∧ ((0 : Nat) = (0 : Nat) ∧ x + (1 : Nat) = x') ∧ ((0 : Nat) = (0 : Nat) ∧ x + (1 : Nat) = x') ∧ (0 : Int) = (0 : Int) ∧ false = false ∧ True) ∧ IsO
 (AObj.arr (x + (1 : Nat)) (2 : Nat)
 (joinC x (cT (Pl.numsS (List.take x (Pl.cut (32 : UInt8) s))))
 (rowsCell [[st (Pl.tmRd x_3).1.1, terms (Pl.tmRd x_3).1.2]])))
 (arT (Pl.numsS (List.take x' (Pl.cut (32 : UInt8) s)))) ∧ IsO
 (AObj.arr (x + (1 : Nat)) (1 : Nat)
 (joinC x (cI (Pl.timesS (List.take x (Pl.cut (32 : UInt8) s)))) (rowsCell [[i64 (Pl.num x_2).1]])))
 (arI (Pl.timesS (List.take x' (Pl.cut (32 : UInt8) s)))) ∧ True)
 ((0 : Nat) + x ≤ (Pl.numsS (List.take x (Pl.cut (32 : UInt8) s))).length ∧ (x + (1 : Nat)) * (40 : Nat) ≤ (70368744177664 : Nat) ∧ (0 : Nat) + x ≤ (Pl.timesS (List.take x (Pl.cut (32 : UInt8) s))).length ∧ (x + (1 : Nat)) * (8 : Nat) ≤ (70368744177664 : Nat) ∧ Exists fun (x' : Nat) =>
 x' ≤ Min.min ((Pl.cut (32 : UInt8) s).length - (2 : Nat)) (5 : Nat) ∧ (5 : Nat) - x' < (5 : Nat) - x ∧ ((0 : Nat) = (0 : Nat) ∧ Is (strs (Pl.cut (32 : UInt8) s)) (strs (Pl.cut (32 : UInt8) s)) ∧ (0 : Nat) = (0 : Nat) ∧ (↑(Pl.cut (32 : UInt8) s).length : Int) = (↑(Pl.cut (32 : UInt8) s).length : Int) ∧ IntKind.i64.wrap ((↑x : Int) + (1 : Int)) = (↑x' : Int) ∧ True) ∧ ((0 : Int) = (0 : Int) ∧ ByteArray.empty = ByteArray.empty ∧ Is (AV.lit (0 : Nat) (1 : Nat) fun (x x_3 : Nat) => AV.any) nilA ∧ ByteArray.empty = ByteArray.empty ∧ Is (AV.lit (0 : Nat) (1 : Nat) fun (x x_3 : Nat) => AV.any) nilA ∧ Is (AV.lit (0 : Nat) (1 : Nat) fun (x x_3 : Nat) => AV.any) nilA ∧ Is (AV.lit (0 : Nat) (1 : Nat) fun (x x_3 : Nat) => AV.any) nilA ∧ (0 : Int) = (0 : Int) ∧ false = false ∧ True) ∧ ((2 : Int) = (2 : Int) ∧ ByteArray.empty = ByteArray.empty ∧ Is (AV.lit (0 : Nat) (1 : Nat) fun (x x_3 : Nat) => AV.any) nilA ∧ ByteArray.empty = ByteArray.empty ∧ Is (AV.lit (0 : Nat) (1 : Nat) fun (x x_3 : Nat) => AV.any) nilA ∧ ((0 : Nat) = (0 : Nat) ∧ x + (1 : Nat) = x') ∧ ((0 : Nat) = (0 : Nat) ∧ x + (1 : Nat) = x') ∧ (0 : Int) = (0 : Int) ∧ false = false ∧ True) ∧ IsO
 (AObj.arr (x + (1 : Nat)) (2 : Nat)
 (joinC x (cT (Pl.numsS (List.take x (Pl.cut (32 : UInt8) s))))
 (rowsCell [[st (ByteArray.mk #[]), AV.lit (0 : Nat) (1 : Nat) fun (x x_3 : Nat) => AV.any]])))
 (arT (Pl.numsS (List.take x' (Pl.cut (32 : UInt8) s)))) ∧ IsO
 (AObj.arr (x + (1 : Nat)) (1 : Nat)
 (joinC x (cI (Pl.timesS (List.take x (Pl.cut (32 : UInt8) s)))) (rowsCell [[i64 (Pl.num x_2).1]])))
 (arI (Pl.timesS (List.take x' (Pl.cut (32 : UInt8) s)))) ∧ True))
 (condP (decide ((↑(Pl.cut (32 : UInt8) s).length : Int) ≥ (2 : Int)))
 (((0 : Int) ≤ IntKind.i64.wrap ((↑(Pl.cut (32 : UInt8) s).length : Int) - (2 : Int)) ∧ IntKind.i64.wrap ((↑(Pl.cut (32 : UInt8) s).length : Int) - (2 : Int)) < (↑(Pl.cut (32 : UInt8) s).length : Int)) ∧ (IntKind.i64.wrap ((↑(Pl.cut (32 : UInt8) s).length : Int) - (2 : Int))).toNat < (Pl.cut (32 : UInt8) s).length ∧ ((0 : Int) ≤ IntKind.i64.wrap ((↑(Pl.cut (32 : UInt8) s).length : Int) - (1 : Int)) ∧ IntKind.i64.wrap ((↑(Pl.cut (32 : UInt8) s).length : Int) - (1 : Int)) < (↑(Pl.cut (32 : UInt8) s).length : Int)) ∧ (IntKind.i64.wrap ((↑(Pl.cut (32 : UInt8) s).length : Int) - (1 : Int))).toNat < (Pl.cut (32 : UInt8) s).length ∧ ∃ x_1 : ByteArray,
 ((Pl.cut (32 : UInt8) s).getD (IntKind.i64.wrap ((↑(Pl.cut (32 : UInt8) s).length : Int) - (1 : Int))).toNat ByteArray.empty = x_1 ∧ True) ∧ x_1.size.le (4294967280 : Nat) ∧ (0 : Nat) + x ≤ (Pl.numsS (List.take x (Pl.cut (32 : UInt8) s))).length ∧ (0 : Nat) + x ≤ (Pl.timesS (List.take x (Pl.cut (32 : UInt8) s))).length ∧ (2 : Int) = Int.ofNat ((2 : Nat)) ∧ ByteArray.empty = ByteArray.mk #[] ∧ Is (AV.lit (0 : Nat) (1 : Nat) fun (x x_2 : Nat) => AV.any) (terms []) ∧ ByteArray.empty = ByteArray.mk #[] ∧ Is (AV.lit (0 : Nat) (1 : Nat) fun (x x_2 : Nat) => AV.any) (terms []) ∧ Is (AV.sl x (2 : Nat) (cT (Pl.numsS (List.take x (Pl.cut (32 : UInt8) s)))))
 (terms
 (Pl.numsS (List.take (Min.min ((Pl.cut (32 : UInt8) s).length - (2 : Nat)) (5 : Nat)) (Pl.cut (32 : UInt8) s)),
 Pl.timesS (List.take (Min.min ((Pl.cut (32 : UInt8) s).length - (2 : Nat)) (5 : Nat)) (Pl.cut (32 : UInt8) s)),
 Pl.boundS (Pl.cut (32 : UInt8) s), Pl.strictS (Pl.cut (32 : UInt8) s)).1) ∧ Is (AV.sl x (1 : Nat) (cI (Pl.timesS (List.take x (Pl.cut (32 : UInt8) s)))))
 (ints
 (Pl.timesS (List.take (Min.min ((Pl.cut (32 : UInt8) s).length - (2 : Nat)) (5 : Nat)) (Pl.cut (32 : UInt8) s)),
 Pl.boundS (Pl.cut (32 : UInt8) s), Pl.strictS (Pl.cut (32 : UInt8) s)).1) ∧ (Pl.num x_1).1 = (Pl.boundS (Pl.cut (32 : UInt8) s), Pl.strictS (Pl.cut (32 : UInt8) s)).1 ∧ (((Pl.cut (32 : UInt8) s).getD (IntKind.i64.wrap ((↑(Pl.cut (32 : UInt8) s).length : Int) - (2 : Int))).toNat ByteArray.empty).toList ==
 (ByteArray.mk #[(60 : UInt8)]).toList) =
 (Pl.boundS (Pl.cut (32 : UInt8) s), Pl.strictS (Pl.cut (32 : UInt8) s)).2 ∧ True)
 ((0 : Nat) + x ≤ (Pl.numsS (List.take x (Pl.cut (32 : UInt8) s))).length ∧ (0 : Nat) + x ≤ (Pl.timesS (List.take x (Pl.cut (32 : UInt8) s))).length ∧ (2 : Int) = Int.ofNat ((2 : Nat)) ∧ ByteArray.empty = ByteArray.mk #[] ∧ Is (AV.lit (0 : Nat) (1 : Nat) fun (x x_1 : Nat) => AV.any) (terms []) ∧ ByteArray.empty = ByteArray.mk #[] ∧ Is (AV.lit (0 : Nat) (1 : Nat) fun (x x_1 : Nat) => AV.any) (terms []) ∧ Is (AV.sl x (2 : Nat) (cT (Pl.numsS (List.take x (Pl.cut (32 : UInt8) s)))))
 (terms
 (Pl.numsS (List.take (Min.min ((Pl.cut (32 : UInt8) s).length - (2 : Nat)) (5 : Nat)) (Pl.cut (32 : UInt8) s)),
 Pl.timesS (List.take (Min.min ((Pl.cut (32 : UInt8) s).length - (2 : Nat)) (5 : Nat)) (Pl.cut (32 : UInt8) s)), Pl.boundS (Pl.cut (32 : UInt8) s),
 Pl.strictS (Pl.cut (32 : UInt8) s)).1) ∧ Is (AV.sl x (1 : Nat) (cI (Pl.timesS (List.take x (Pl.cut (32 : UInt8) s)))))
 (ints
 (Pl.timesS (List.take (Min.min ((Pl.cut (32 : UInt8) s).length - (2 : Nat)) (5 : Nat)) (Pl.cut (32 : UInt8) s)), Pl.boundS (Pl.cut (32 : UInt8) s),
 Pl.strictS (Pl.cut (32 : UInt8) s)).1) ∧ (0 : Int) = (Pl.boundS (Pl.cut (32 : UInt8) s), Pl.strictS (Pl.cut (32 : UInt8) s)).1 ∧ false = (Pl.boundS (Pl.cut (32 : UInt8) s), Pl.strictS (Pl.cut (32 : UInt8) s)).2 ∧ True)))
 (condP (decide ((↑(Pl.cut (32 : UInt8) s).length : Int) ≥ (2 : Int)))
 (((0 : Int) ≤ IntKind.i64.wrap ((↑(Pl.cut (32 : UInt8) s).length : Int) - (2 : Int)) ∧ IntKind.i64.wrap ((↑(Pl.cut (32 : UInt8) s).length : Int) - (2 : Int)) < (↑(Pl.cut (32 : UInt8) s).length : Int)) ∧ (IntKind.i64.wrap ((↑(Pl.cut (32 : UInt8) s).length : Int) - (2 : Int))).toNat < (Pl.cut (32 : UInt8) s).length ∧ ((0 : Int) ≤ IntKind.i64.wrap ((↑(Pl.cut (32 : UInt8) s).length : Int) - (1 : Int)) ∧ IntKind.i64.wrap ((↑(Pl.cut (32 : UInt8) s).length : Int) - (1 : Int)) < (↑(Pl.cut (32 : UInt8) s).length : Int)) ∧ (IntKind.i64.wrap ((↑(Pl.cut (32 : UInt8) s).length : Int) - (1 : Int))).toNat < (Pl.cut (32 : UInt8) s).length ∧ ∃ x_1 : ByteArray,
 ((Pl.cut (32 : UInt8) s).getD (IntKind.i64.wrap ((↑(Pl.cut (32 : UInt8) s).length : Int) - (1 : Int))).toNat ByteArray.empty = x_1 ∧ True) ∧ x_1.size.le (4294967280 : Nat) ∧ (0 : Nat) + x ≤ (Pl.numsS (List.take x (Pl.cut (32 : UInt8) s))).length ∧ (0 : Nat) + x ≤ (Pl.timesS (List.take x (Pl.cut (32 : UInt8) s))).length ∧ (2 : Int) = Int.ofNat ((2 : Nat)) ∧ ByteArray.empty = ByteArray.mk #[] ∧ Is (AV.lit (0 : Nat) (1 : Nat) fun (x x_2 : Nat) => AV.any) (terms []) ∧ ByteArray.empty = ByteArray.mk #[] ∧ Is (AV.lit (0 : Nat) (1 : Nat) fun (x x_2 : Nat) => AV.any) (terms []) ∧ Is (AV.sl x (2 : Nat) (cT (Pl.numsS (List.take x (Pl.cut (32 : UInt8) s)))))
 (terms
 (Pl.numsS (List.take (Min.min ((Pl.cut (32 : UInt8) s).length - (2 : Nat)) (5 : Nat)) (Pl.cut (32 : UInt8) s)),
 Pl.timesS (List.take (Min.min ((Pl.cut (32 : UInt8) s).length - (2 : Nat)) (5 : Nat)) (Pl.cut (32 : UInt8) s)), Pl.boundS (Pl.cut (32 : UInt8) s),
 Pl.strictS (Pl.cut (32 : UInt8) s)).1) ∧ Is (AV.sl x (1 : Nat) (cI (Pl.timesS (List.take x (Pl.cut (32 : UInt8) s)))))
 (ints
 (Pl.timesS (List.take (Min.min ((Pl.cut (32 : UInt8) s).length - (2 : Nat)) (5 : Nat)) (Pl.cut (32 : UInt8) s)), Pl.boundS (Pl.cut (32 : UInt8) s),
 Pl.strictS (Pl.cut (32 : UInt8) s)).1) ∧ (Pl.num x_1).1 = (Pl.boundS (Pl.cut (32 : UInt8) s), Pl.strictS (Pl.cut (32 : UInt8) s)).1 ∧ (((Pl.cut (32 : UInt8) s).getD (IntKind.i64.wrap ((↑(Pl.cut (32 : UInt8) s).length : Int) - (2 : Int))).toNat ByteArray.empty).toList ==
 (ByteArray.mk #[(60 : UInt8)]).toList) =
 (Pl.boundS (Pl.cut (32 : UInt8) s), Pl.strictS (Pl.cut (32 : UInt8) s)).2 ∧ True)
 ((0 : Nat) + x ≤ (Pl.numsS (List.take x (Pl.cut (32 : UInt8) s))).length ∧ (0 : Nat) + x ≤ (Pl.timesS (List.take x (Pl.cut (32 : UInt8) s))).length ∧ (2 : Int) = Int.ofNat ((2 : Nat)) ∧ ByteArray.empty = ByteArray.mk #[] ∧ Is (AV.lit (0 : Nat) (1 : Nat) fun (x x_1 : Nat) => AV.any) (terms []) ∧ ByteArray.empty = ByteArray.mk #[] ∧ Is (AV.lit (0 : Nat) (1 : Nat) fun (x x_1 : Nat) => AV.any) (terms []) ∧ Is (AV.sl x (2 : Nat) (cT (Pl.numsS (List.take x (Pl.cut (32 : UInt8) s)))))
 (terms
 (Pl.numsS (List.take (Min.min ((Pl.cut (32 : UInt8) s).length - (2 : Nat)) (5 : Nat)) (Pl.cut (32 : UInt8) s)),
 Pl.timesS (List.take (Min.min ((Pl.cut (32 : UInt8) s).length - (2 : Nat)) (5 : Nat)) (Pl.cut (32 : UInt8) s)), Pl.boundS (Pl.cut (32 : UInt8) s),
 Pl.strictS (Pl.cut (32 : UInt8) s)).1) ∧ Is (AV.sl x (1 : Nat) (cI (Pl.timesS (List.take x (Pl.cut (32 : UInt8) s)))))
 (ints
 (Pl.timesS (List.take (Min.min ((Pl.cut (32 : UInt8) s).length - (2 : Nat)) (5 : Nat)) (Pl.cut (32 : UInt8) s)), Pl.boundS (Pl.cut (32 : UInt8) s),
 Pl.strictS (Pl.cut (32 : UInt8) s)).1) ∧ (0 : Int) = (Pl.boundS (Pl.cut (32 : UInt8) s), Pl.strictS (Pl.cut (32 : UInt8) s)).1 ∧ false = (Pl.boundS (Pl.cut (32 : UInt8) s), Pl.strictS (Pl.cut (32 : UInt8) s)).2 ∧ True))) = Goal Tryz.prog [K_l16Cut, K_l16Num, K_sTermRead] (A_l6Scan s) K_l6Scan.1 K_l6Scan.2 (s) := by kernel_rfl

theorem vc_sAtomRead (s : ByteArray) : (∃ x : ByteArray × UInt8,
 (s = x.1 ∧ (61 : Int) = (↑x.2.toNat : Int) ∧ True) ∧ x.1.size.le (4294967280 : Nat) ∧ ∃ x_1 : ByteArray,
 (s = x_1 ∧ True) ∧ x_1.size.le (1048576 : Nat) ∧ condP ((↑(Pl.cut x.2 x.1).length : Int) == (2 : Int))
 (∃ x_2 : ByteArray × UInt8,
 (s = x_2.1 ∧ (32 : Int) = (↑x_2.2.toNat : Int) ∧ True) ∧ x_2.1.size.le (4294967280 : Nat) ∧ condP ((↑(Pl.cut x_2.2 x_2.1).length : Int) == (1 : Int))
 (((0 : Int) ≤ (0 : Int) ∧ (0 : Int) < (↑(Pl.cut x.2 x.1).length : Int)) ∧ (0 : Nat) < (Pl.cut x.2 x.1).length ∧ ∃ x_3 : ByteArray,
 ((Pl.cut x.2 x.1).getD (0 : Nat) ByteArray.empty = x_3 ∧ True) ∧ x_3.size.le (1048576 : Nat) ∧ ((0 : Int) ≤ (1 : Int) ∧ (1 : Int) < (↑(Pl.cut x.2 x.1).length : Int)) ∧ (1 : Nat) < (Pl.cut x.2 x.1).length ∧ ∃ x_4 : ByteArray,
 ((Pl.cut x.2 x.1).getD (1 : Nat) ByteArray.empty = x_4 ∧ True) ∧ x_4.size.le (1048576 : Nat) ∧ condP (s.toList == (ByteArray.mk #[]).toList)
 (((0 : Int) = (Pl.atomReadS s).1.1 ∧ ByteArray.mk #[] = (Pl.atomReadS s).1.2.1.1 ∧ Is (AV.lit (0 : Nat) (1 : Nat) fun (x x_5 : Nat) => AV.any) (terms (Pl.atomReadS s).1.2.1.2) ∧ ByteArray.mk #[] = (Pl.atomReadS s).1.2.2.1.1 ∧ Is (AV.lit (0 : Nat) (1 : Nat) fun (x x_5 : Nat) => AV.any) (terms (Pl.atomReadS s).1.2.2.1.2) ∧ Is (AV.lit (0 : Nat) (1 : Nat) fun (x x_5 : Nat) => AV.any) (terms (Pl.atomReadS s).1.2.2.2.1) ∧ Is (AV.lit (0 : Nat) (1 : Nat) fun (x x_5 : Nat) => AV.any) (ints (Pl.atomReadS s).1.2.2.2.2.1) ∧ (0 : Int) = (Pl.atomReadS s).1.2.2.2.2.2.1 ∧ false = (Pl.atomReadS s).1.2.2.2.2.2.2 ∧ True) ∧ false = (Pl.atomReadS s).2 ∧ True)
 (∃ x : Pl.Atm,
 (((1 : Int) = x.1 ∧ (Pl.tmRd x_3).1.1 = x.2.1.1 ∧ Is (terms (Pl.tmRd x_3).1.2) (terms x.2.1.2) ∧ (Pl.tmRd x_4).1.1 = x.2.2.1.1 ∧ Is (terms (Pl.tmRd x_4).1.2) (terms x.2.2.1.2) ∧ Is (AV.lit (0 : Nat) (1 : Nat) fun (x x_5 : Nat) => AV.any) (terms x.2.2.2.1) ∧ Is (AV.lit (0 : Nat) (1 : Nat) fun (x x_5 : Nat) => AV.any) (ints x.2.2.2.2.1) ∧ (0 : Int) = x.2.2.2.2.2.1 ∧ false = x.2.2.2.2.2.2 ∧ True) ∧ True) ∧ SmA x ∧ condP (!(Pl.tx (Pl.atomRight x) (Pl.atomB x)).toList == s.toList)
 (((0 : Int) = (Pl.atomReadS s).1.1 ∧ ByteArray.mk #[] = (Pl.atomReadS s).1.2.1.1 ∧ Is (AV.lit (0 : Nat) (1 : Nat) fun (x x_5 : Nat) => AV.any) (terms (Pl.atomReadS s).1.2.1.2) ∧ ByteArray.mk #[] = (Pl.atomReadS s).1.2.2.1.1 ∧ Is (AV.lit (0 : Nat) (1 : Nat) fun (x x_5 : Nat) => AV.any) (terms (Pl.atomReadS s).1.2.2.1.2) ∧ Is (AV.lit (0 : Nat) (1 : Nat) fun (x x_5 : Nat) => AV.any) (terms (Pl.atomReadS s).1.2.2.2.1) ∧ Is (AV.lit (0 : Nat) (1 : Nat) fun (x x_5 : Nat) => AV.any) (ints (Pl.atomReadS s).1.2.2.2.2.1) ∧ (0 : Int) = (Pl.atomReadS s).1.2.2.2.2.2.1 ∧ false = (Pl.atomReadS s).1.2.2.2.2.2.2 ∧ True) ∧ false = (Pl.atomReadS s).2 ∧ True)
 (((1 : Int) = (Pl.atomReadS s).1.1 ∧ (Pl.tmRd x_3).1.1 = (Pl.atomReadS s).1.2.1.1 ∧ Is (terms (Pl.tmRd x_3).1.2) (terms (Pl.atomReadS s).1.2.1.2) ∧ (Pl.tmRd x_4).1.1 = (Pl.atomReadS s).1.2.2.1.1 ∧ Is (terms (Pl.tmRd x_4).1.2) (terms (Pl.atomReadS s).1.2.2.1.2) ∧ Is (AV.lit (0 : Nat) (1 : Nat) fun (x x_5 : Nat) => AV.any) (terms (Pl.atomReadS s).1.2.2.2.1) ∧ Is (AV.lit (0 : Nat) (1 : Nat) fun (x x_5 : Nat) => AV.any) (ints (Pl.atomReadS s).1.2.2.2.2.1) ∧ (0 : Int) = (Pl.atomReadS s).1.2.2.2.2.2.1 ∧ false = (Pl.atomReadS s).1.2.2.2.2.2.2 ∧ True) ∧ true = (Pl.atomReadS s).2 ∧ True)))
 (condP (s.toList == (ByteArray.mk #[]).toList)
 (((0 : Int) = (Pl.atomReadS s).1.1 ∧ ByteArray.mk #[] = (Pl.atomReadS s).1.2.1.1 ∧ Is (AV.lit (0 : Nat) (1 : Nat) fun (x x_3 : Nat) => AV.any) (terms (Pl.atomReadS s).1.2.1.2) ∧ ByteArray.mk #[] = (Pl.atomReadS s).1.2.2.1.1 ∧ Is (AV.lit (0 : Nat) (1 : Nat) fun (x x_3 : Nat) => AV.any) (terms (Pl.atomReadS s).1.2.2.1.2) ∧ Is (AV.lit (0 : Nat) (1 : Nat) fun (x x_3 : Nat) => AV.any) (terms (Pl.atomReadS s).1.2.2.2.1) ∧ Is (AV.lit (0 : Nat) (1 : Nat) fun (x x_3 : Nat) => AV.any) (ints (Pl.atomReadS s).1.2.2.2.2.1) ∧ (0 : Int) = (Pl.atomReadS s).1.2.2.2.2.2.1 ∧ false = (Pl.atomReadS s).1.2.2.2.2.2.2 ∧ True) ∧ false = (Pl.atomReadS s).2 ∧ True)
 (∃ x : Pl.Atm,
 ((Int.ofNat ((2 : Nat)) = x.1 ∧ ByteArray.mk #[] = x.2.1.1 ∧ Is (AV.sl ((0 : Nat)) (2 : Nat) fun (i j : Nat) => eT (Pl.Tree.mk ByteArray.empty []) j) (terms x.2.1.2) ∧ ByteArray.mk #[] = x.2.2.1.1 ∧ Is (AV.sl ((0 : Nat)) (2 : Nat) fun (i j : Nat) => eT (Pl.Tree.mk ByteArray.empty []) j) (terms x.2.2.1.2) ∧ Is
 (terms
 (Pl.numsS (List.take (Min.min ((Pl.cut (32 : UInt8) x_1).length - (2 : Nat)) (5 : Nat)) (Pl.cut (32 : UInt8) x_1)),
 Pl.timesS (List.take (Min.min ((Pl.cut (32 : UInt8) x_1).length - (2 : Nat)) (5 : Nat)) (Pl.cut (32 : UInt8) x_1)),
 Pl.boundS (Pl.cut (32 : UInt8) x_1), Pl.strictS (Pl.cut (32 : UInt8) x_1)).1)
 (terms x.2.2.2.1) ∧ Is
 (ints
 (Pl.timesS (List.take (Min.min ((Pl.cut (32 : UInt8) x_1).length - (2 : Nat)) (5 : Nat)) (Pl.cut (32 : UInt8) x_1)),
 Pl.boundS (Pl.cut (32 : UInt8) x_1), Pl.strictS (Pl.cut (32 : UInt8) x_1)).1)
 (ints x.2.2.2.2.1) ∧ (Pl.boundS (Pl.cut (32 : UInt8) x_1), Pl.strictS (Pl.cut (32 : UInt8) x_1)).1 = x.2.2.2.2.2.1 ∧ (Pl.boundS (Pl.cut (32 : UInt8) x_1), Pl.strictS (Pl.cut (32 : UInt8) x_1)).2 = x.2.2.2.2.2.2 ∧ True) ∧ True) ∧ SmA x ∧ condP (!(Pl.tx (Pl.atomRight x) (Pl.atomB x)).toList == s.toList)
 (((0 : Int) = (Pl.atomReadS s).1.1 ∧ ByteArray.mk #[] = (Pl.atomReadS s).1.2.1.1 ∧ Is (AV.lit (0 : Nat) (1 : Nat) fun (x x_3 : Nat) => AV.any) (terms (Pl.atomReadS s).1.2.1.2) ∧ ByteArray.mk #[] = (Pl.atomReadS s).1.2.2.1.1 ∧ Is (AV.lit (0 : Nat) (1 : Nat) fun (x x_3 : Nat) => AV.any) (terms (Pl.atomReadS s).1.2.2.1.2) ∧ Is (AV.lit (0 : Nat) (1 : Nat) fun (x x_3 : Nat) => AV.any) (terms (Pl.atomReadS s).1.2.2.2.1) ∧ Is (AV.lit (0 : Nat) (1 : Nat) fun (x x_3 : Nat) => AV.any) (ints (Pl.atomReadS s).1.2.2.2.2.1) ∧ (0 : Int) = (Pl.atomReadS s).1.2.2.2.2.2.1 ∧ false = (Pl.atomReadS s).1.2.2.2.2.2.2 ∧ True) ∧ false = (Pl.atomReadS s).2 ∧ True)
 ((Int.ofNat ((2 : Nat)) = (Pl.atomReadS s).1.1 ∧ ByteArray.mk #[] = (Pl.atomReadS s).1.2.1.1 ∧ Is (AV.sl ((0 : Nat)) (2 : Nat) fun (i j : Nat) => eT (Pl.Tree.mk ByteArray.empty []) j) (terms (Pl.atomReadS s).1.2.1.2) ∧ ByteArray.mk #[] = (Pl.atomReadS s).1.2.2.1.1 ∧ Is (AV.sl ((0 : Nat)) (2 : Nat) fun (i j : Nat) => eT (Pl.Tree.mk ByteArray.empty []) j) (terms (Pl.atomReadS s).1.2.2.1.2) ∧ Is
 (terms
 (Pl.numsS (List.take (Min.min ((Pl.cut (32 : UInt8) x_1).length - (2 : Nat)) (5 : Nat)) (Pl.cut (32 : UInt8) x_1)),
 Pl.timesS (List.take (Min.min ((Pl.cut (32 : UInt8) x_1).length - (2 : Nat)) (5 : Nat)) (Pl.cut (32 : UInt8) x_1)),
 Pl.boundS (Pl.cut (32 : UInt8) x_1), Pl.strictS (Pl.cut (32 : UInt8) x_1)).1)
 (terms (Pl.atomReadS s).1.2.2.2.1) ∧ Is
 (ints
 (Pl.timesS (List.take (Min.min ((Pl.cut (32 : UInt8) x_1).length - (2 : Nat)) (5 : Nat)) (Pl.cut (32 : UInt8) x_1)),
 Pl.boundS (Pl.cut (32 : UInt8) x_1), Pl.strictS (Pl.cut (32 : UInt8) x_1)).1)
 (ints (Pl.atomReadS s).1.2.2.2.2.1) ∧ (Pl.boundS (Pl.cut (32 : UInt8) x_1), Pl.strictS (Pl.cut (32 : UInt8) x_1)).1 = (Pl.atomReadS s).1.2.2.2.2.2.1 ∧ (Pl.boundS (Pl.cut (32 : UInt8) x_1), Pl.strictS (Pl.cut (32 : UInt8) x_1)).2 = (Pl.atomReadS s).1.2.2.2.2.2.2 ∧ True) ∧ true = (Pl.atomReadS s).2 ∧ True))))
 (condP (s.toList == (ByteArray.mk #[]).toList)
 (((0 : Int) = (Pl.atomReadS s).1.1 ∧ ByteArray.mk #[] = (Pl.atomReadS s).1.2.1.1 ∧ Is (AV.lit (0 : Nat) (1 : Nat) fun (x x_2 : Nat) => AV.any) (terms (Pl.atomReadS s).1.2.1.2) ∧ ByteArray.mk #[] = (Pl.atomReadS s).1.2.2.1.1 ∧ Is (AV.lit (0 : Nat) (1 : Nat) fun (x x_2 : Nat) => AV.any) (terms (Pl.atomReadS s).1.2.2.1.2) ∧ Is (AV.lit (0 : Nat) (1 : Nat) fun (x x_2 : Nat) => AV.any) (terms (Pl.atomReadS s).1.2.2.2.1) ∧ Is (AV.lit (0 : Nat) (1 : Nat) fun (x x_2 : Nat) => AV.any) (ints (Pl.atomReadS s).1.2.2.2.2.1) ∧ (0 : Int) = (Pl.atomReadS s).1.2.2.2.2.2.1 ∧ false = (Pl.atomReadS s).1.2.2.2.2.2.2 ∧ True) ∧ false = (Pl.atomReadS s).2 ∧ True)
 (∃ x : Pl.Atm,
 ((Int.ofNat ((2 : Nat)) = x.1 ∧ ByteArray.mk #[] = x.2.1.1 ∧ Is (AV.sl ((0 : Nat)) (2 : Nat) fun (i j : Nat) => eT (Pl.Tree.mk ByteArray.empty []) j) (terms x.2.1.2) ∧ ByteArray.mk #[] = x.2.2.1.1 ∧ Is (AV.sl ((0 : Nat)) (2 : Nat) fun (i j : Nat) => eT (Pl.Tree.mk ByteArray.empty []) j) (terms x.2.2.1.2) ∧ Is
 (terms
 (Pl.numsS (List.take (Min.min ((Pl.cut (32 : UInt8) x_1).length - (2 : Nat)) (5 : Nat)) (Pl.cut (32 : UInt8) x_1)),
 Pl.timesS (List.take (Min.min ((Pl.cut (32 : UInt8) x_1).length - (2 : Nat)) (5 : Nat)) (Pl.cut (32 : UInt8) x_1)), Pl.boundS (Pl.cut (32 : UInt8) x_1),
 Pl.strictS (Pl.cut (32 : UInt8) x_1)).1)
 (terms x.2.2.2.1) ∧ Is
 (ints
 (Pl.timesS (List.take (Min.min ((Pl.cut (32 : UInt8) x_1).length - (2 : Nat)) (5 : Nat)) (Pl.cut (32 : UInt8) x_1)), Pl.boundS (Pl.cut (32 : UInt8) x_1),
 Pl.strictS (Pl.cut (32 : UInt8) x_1)).1)
 (ints x.2.2.2.2.1) ∧ (Pl.boundS (Pl.cut (32 : UInt8) x_1), Pl.strictS (Pl.cut (32 : UInt8) x_1)).1 = x.2.2.2.2.2.1 ∧ (Pl.boundS (Pl.cut (32 : UInt8) x_1), Pl.strictS (Pl.cut (32 : UInt8) x_1)).2 = x.2.2.2.2.2.2 ∧ True) ∧ True) ∧ SmA x ∧ condP (!(Pl.tx (Pl.atomRight x) (Pl.atomB x)).toList == s.toList)
 (((0 : Int) = (Pl.atomReadS s).1.1 ∧ ByteArray.mk #[] = (Pl.atomReadS s).1.2.1.1 ∧ Is (AV.lit (0 : Nat) (1 : Nat) fun (x x_2 : Nat) => AV.any) (terms (Pl.atomReadS s).1.2.1.2) ∧ ByteArray.mk #[] = (Pl.atomReadS s).1.2.2.1.1 ∧ Is (AV.lit (0 : Nat) (1 : Nat) fun (x x_2 : Nat) => AV.any) (terms (Pl.atomReadS s).1.2.2.1.2) ∧ Is (AV.lit (0 : Nat) (1 : Nat) fun (x x_2 : Nat) => AV.any) (terms (Pl.atomReadS s).1.2.2.2.1) ∧ Is (AV.lit (0 : Nat) (1 : Nat) fun (x x_2 : Nat) => AV.any) (ints (Pl.atomReadS s).1.2.2.2.2.1) ∧ (0 : Int) = (Pl.atomReadS s).1.2.2.2.2.2.1 ∧ false = (Pl.atomReadS s).1.2.2.2.2.2.2 ∧ True) ∧ false = (Pl.atomReadS s).2 ∧ True)
 ((Int.ofNat ((2 : Nat)) = (Pl.atomReadS s).1.1 ∧ ByteArray.mk #[] = (Pl.atomReadS s).1.2.1.1 ∧ Is (AV.sl ((0 : Nat)) (2 : Nat) fun (i j : Nat) => eT (Pl.Tree.mk ByteArray.empty []) j) (terms (Pl.atomReadS s).1.2.1.2) ∧ ByteArray.mk #[] = (Pl.atomReadS s).1.2.2.1.1 ∧ Is (AV.sl ((0 : Nat)) (2 : Nat) fun (i j : Nat) => eT (Pl.Tree.mk ByteArray.empty []) j) (terms (Pl.atomReadS s).1.2.2.1.2) ∧ Is
 (terms
 (Pl.numsS (List.take (Min.min ((Pl.cut (32 : UInt8) x_1).length - (2 : Nat)) (5 : Nat)) (Pl.cut (32 : UInt8) x_1)),
 Pl.timesS (List.take (Min.min ((Pl.cut (32 : UInt8) x_1).length - (2 : Nat)) (5 : Nat)) (Pl.cut (32 : UInt8) x_1)), Pl.boundS (Pl.cut (32 : UInt8) x_1),
 Pl.strictS (Pl.cut (32 : UInt8) x_1)).1)
 (terms (Pl.atomReadS s).1.2.2.2.1) ∧ Is
 (ints
 (Pl.timesS (List.take (Min.min ((Pl.cut (32 : UInt8) x_1).length - (2 : Nat)) (5 : Nat)) (Pl.cut (32 : UInt8) x_1)), Pl.boundS (Pl.cut (32 : UInt8) x_1),
 Pl.strictS (Pl.cut (32 : UInt8) x_1)).1)
 (ints (Pl.atomReadS s).1.2.2.2.2.1) ∧ (Pl.boundS (Pl.cut (32 : UInt8) x_1), Pl.strictS (Pl.cut (32 : UInt8) x_1)).1 = (Pl.atomReadS s).1.2.2.2.2.2.1 ∧ (Pl.boundS (Pl.cut (32 : UInt8) x_1), Pl.strictS (Pl.cut (32 : UInt8) x_1)).2 = (Pl.atomReadS s).1.2.2.2.2.2.2 ∧ True) ∧ true = (Pl.atomReadS s).2 ∧ True)))) = Goal Tryz.prog [K_l16Cut, K_l6Scan, K_sTermRead, K_sAtomText] ([]) K_sAtomRead.1 K_sAtomRead.2 (s) := by kernel_rfl

theorem vc_sLitRead (s : ByteArray) : (condP (decide ((↑s.size : Int) > (4 : Int)))
 (((0 : Int) ≤ (4 : Int) ∧ (4 : Int) ≤ (↑s.size : Int)) ∧ condP ((s.extract (0 : Nat) (4 : Nat)).toList == (ByteArray.mk #[(110 : UInt8), (111 : UInt8), (116 : UInt8), (32 : UInt8)]).toList)
 (((0 : Int) ≤ (4 : Int) ∧ (4 : Int) ≤ (↑s.size : Int)) ∧ ∃ x : ByteArray,
 (s.extract (4 : Nat) s.size = x ∧ True) ∧ x.size.le (1048576 : Nat) ∧ condP (!(Pl.atomReadS x).2)
 (((0 : Int) = (Pl.litReadS s).1.1.1 ∧ ByteArray.mk #[] = (Pl.litReadS s).1.1.2.1.1 ∧ Is (AV.lit (0 : Nat) (1 : Nat) fun (x x_1 : Nat) => AV.any) (terms (Pl.litReadS s).1.1.2.1.2) ∧ ByteArray.mk #[] = (Pl.litReadS s).1.1.2.2.1.1 ∧ Is (AV.lit (0 : Nat) (1 : Nat) fun (x x_1 : Nat) => AV.any) (terms (Pl.litReadS s).1.1.2.2.1.2) ∧ Is (AV.lit (0 : Nat) (1 : Nat) fun (x x_1 : Nat) => AV.any) (terms (Pl.litReadS s).1.1.2.2.2.1) ∧ Is (AV.lit (0 : Nat) (1 : Nat) fun (x x_1 : Nat) => AV.any) (ints (Pl.litReadS s).1.1.2.2.2.2.1) ∧ (0 : Int) = (Pl.litReadS s).1.1.2.2.2.2.2.1 ∧ false = (Pl.litReadS s).1.1.2.2.2.2.2.2 ∧ false = (Pl.litReadS s).1.2 ∧ True) ∧ false = (Pl.litReadS s).2 ∧ True)
 (((Pl.atomReadS x).1.1 = (Pl.litReadS s).1.1.1 ∧ (Pl.atomReadS x).1.2.1.1 = (Pl.litReadS s).1.1.2.1.1 ∧ Is (terms (Pl.atomReadS x).1.2.1.2) (terms (Pl.litReadS s).1.1.2.1.2) ∧ (Pl.atomReadS x).1.2.2.1.1 = (Pl.litReadS s).1.1.2.2.1.1 ∧ Is (terms (Pl.atomReadS x).1.2.2.1.2) (terms (Pl.litReadS s).1.1.2.2.1.2) ∧ Is (terms (Pl.atomReadS x).1.2.2.2.1) (terms (Pl.litReadS s).1.1.2.2.2.1) ∧ Is (ints (Pl.atomReadS x).1.2.2.2.2.1) (ints (Pl.litReadS s).1.1.2.2.2.2.1) ∧ (Pl.atomReadS x).1.2.2.2.2.2.1 = (Pl.litReadS s).1.1.2.2.2.2.2.1 ∧ (Pl.atomReadS x).1.2.2.2.2.2.2 = (Pl.litReadS s).1.1.2.2.2.2.2.2 ∧ true = (Pl.litReadS s).1.2 ∧ True) ∧ true = (Pl.litReadS s).2 ∧ True))
 (∃ x : ByteArray,
 (s = x ∧ True) ∧ x.size.le (1048576 : Nat) ∧ condP (!(Pl.atomReadS x).2)
 (((0 : Int) = (Pl.litReadS s).1.1.1 ∧ ByteArray.mk #[] = (Pl.litReadS s).1.1.2.1.1 ∧ Is (AV.lit (0 : Nat) (1 : Nat) fun (x x_1 : Nat) => AV.any) (terms (Pl.litReadS s).1.1.2.1.2) ∧ ByteArray.mk #[] = (Pl.litReadS s).1.1.2.2.1.1 ∧ Is (AV.lit (0 : Nat) (1 : Nat) fun (x x_1 : Nat) => AV.any) (terms (Pl.litReadS s).1.1.2.2.1.2) ∧ Is (AV.lit (0 : Nat) (1 : Nat) fun (x x_1 : Nat) => AV.any) (terms (Pl.litReadS s).1.1.2.2.2.1) ∧ Is (AV.lit (0 : Nat) (1 : Nat) fun (x x_1 : Nat) => AV.any) (ints (Pl.litReadS s).1.1.2.2.2.2.1) ∧ (0 : Int) = (Pl.litReadS s).1.1.2.2.2.2.2.1 ∧ false = (Pl.litReadS s).1.1.2.2.2.2.2.2 ∧ false = (Pl.litReadS s).1.2 ∧ True) ∧ false = (Pl.litReadS s).2 ∧ True)
 (((Pl.atomReadS x).1.1 = (Pl.litReadS s).1.1.1 ∧ (Pl.atomReadS x).1.2.1.1 = (Pl.litReadS s).1.1.2.1.1 ∧ Is (terms (Pl.atomReadS x).1.2.1.2) (terms (Pl.litReadS s).1.1.2.1.2) ∧ (Pl.atomReadS x).1.2.2.1.1 = (Pl.litReadS s).1.1.2.2.1.1 ∧ Is (terms (Pl.atomReadS x).1.2.2.1.2) (terms (Pl.litReadS s).1.1.2.2.1.2) ∧ Is (terms (Pl.atomReadS x).1.2.2.2.1) (terms (Pl.litReadS s).1.1.2.2.2.1) ∧ Is (ints (Pl.atomReadS x).1.2.2.2.2.1) (ints (Pl.litReadS s).1.1.2.2.2.2.1) ∧ (Pl.atomReadS x).1.2.2.2.2.2.1 = (Pl.litReadS s).1.1.2.2.2.2.2.1 ∧ (Pl.atomReadS x).1.2.2.2.2.2.2 = (Pl.litReadS s).1.1.2.2.2.2.2.2 ∧ false = (Pl.litReadS s).1.2 ∧ True) ∧ true = (Pl.litReadS s).2 ∧ True)))
 (∃ x : ByteArray,
 (s = x ∧ True) ∧ x.size.le (1048576 : Nat) ∧ condP (!(Pl.atomReadS x).2)
 (((0 : Int) = (Pl.litReadS s).1.1.1 ∧ ByteArray.mk #[] = (Pl.litReadS s).1.1.2.1.1 ∧ Is (AV.lit (0 : Nat) (1 : Nat) fun (x x_1 : Nat) => AV.any) (terms (Pl.litReadS s).1.1.2.1.2) ∧ ByteArray.mk #[] = (Pl.litReadS s).1.1.2.2.1.1 ∧ Is (AV.lit (0 : Nat) (1 : Nat) fun (x x_1 : Nat) => AV.any) (terms (Pl.litReadS s).1.1.2.2.1.2) ∧ Is (AV.lit (0 : Nat) (1 : Nat) fun (x x_1 : Nat) => AV.any) (terms (Pl.litReadS s).1.1.2.2.2.1) ∧ Is (AV.lit (0 : Nat) (1 : Nat) fun (x x_1 : Nat) => AV.any) (ints (Pl.litReadS s).1.1.2.2.2.2.1) ∧ (0 : Int) = (Pl.litReadS s).1.1.2.2.2.2.2.1 ∧ false = (Pl.litReadS s).1.1.2.2.2.2.2.2 ∧ false = (Pl.litReadS s).1.2 ∧ True) ∧ false = (Pl.litReadS s).2 ∧ True)
 (((Pl.atomReadS x).1.1 = (Pl.litReadS s).1.1.1 ∧ (Pl.atomReadS x).1.2.1.1 = (Pl.litReadS s).1.1.2.1.1 ∧ Is (terms (Pl.atomReadS x).1.2.1.2) (terms (Pl.litReadS s).1.1.2.1.2) ∧ (Pl.atomReadS x).1.2.2.1.1 = (Pl.litReadS s).1.1.2.2.1.1 ∧ Is (terms (Pl.atomReadS x).1.2.2.1.2) (terms (Pl.litReadS s).1.1.2.2.1.2) ∧ Is (terms (Pl.atomReadS x).1.2.2.2.1) (terms (Pl.litReadS s).1.1.2.2.2.1) ∧ Is (ints (Pl.atomReadS x).1.2.2.2.2.1) (ints (Pl.litReadS s).1.1.2.2.2.2.1) ∧ (Pl.atomReadS x).1.2.2.2.2.2.1 = (Pl.litReadS s).1.1.2.2.2.2.2.1 ∧ (Pl.atomReadS x).1.2.2.2.2.2.2 = (Pl.litReadS s).1.1.2.2.2.2.2.2 ∧ false = (Pl.litReadS s).1.2 ∧ True) ∧ true = (Pl.litReadS s).2 ∧ True))) = Goal Tryz.prog [K_sAtomRead] ([]) K_sLitRead.1 K_sLitRead.2 (s) := by kernel_rfl

end Cg

/-
  Plain laws: terms, atoms and literals are read back as written. No condition.
-/
set_option linter.unusedVariables false
set_option linter.unusedSimpArgs false
namespace Pl
open Go Cg
theorem itoa_no' {n : Int} {c : UInt8} (hc : dig c = false) (h45 : c ≠ 45) : ∀ x ∈ itoa n, x ≠ c := fun x hx e => by
  subst e
  have hd : ∀ u, ∀ y ∈ Go.Lib.decDigits u, dig y = true := fun u y hy => List.all_eq_true.1 (dec_dig u) y hy
  unfold itoa Go.Lib.itoa at hx
  split at hx
  · rcases List.mem_cons.1 hx with e | h
    · exact h45 e
    · rw [hd _ _ h] at hc; cases hc
  · rw [hd _ _ hx] at hc; cases hc
theorem rd_zero' {α : Type} {R : α → Bool} {T : α → List UInt8} {z : α} {s : List UInt8} (h : (rd R T z s).2 = false) : (rd R T z s).1 = z := by
  unfold rd at h ⊢
  split
  · rename_i he; rw [dif_pos he] at h; cases h
  · rfl
theorem wl_yes {c : UInt8} {l : List UInt8} (h : lower c = true) : wl (c :: l) = wl l + 1 := by unfold wl; rw [List.takeWhile_cons_of_pos h]; rfl
theorem wl_no {c : UInt8} {l : List UInt8} (h : lower c = false) : wl (c :: l) = 0 := by unfold wl; rw [List.takeWhile_cons_of_neg (by rw [h]; simp)]; rfl
theorem wl_le : ∀ l : List UInt8, wl l ≤ l.length
  | [] => Nat.le_refl _
  | c :: l => by
    cases h : lower c with
    | true => rw [wl_yes h]; have := wl_le l; simp only [List.length_cons]; omega
    | false => rw [wl_no h]; exact Nat.zero_le _
theorem wl_app : ∀ {a r : List UInt8}, a.all lower = true → opens lower r = false → wl (a ++ r) = a.length
  | [], [], _, _ => rfl
  | [], c :: r, _, h => wl_no h
  | c :: a, r, ha, h => by
    simp only [List.all_cons, Bool.and_eq_true] at ha
    rw [List.cons_append, wl_yes ha.1, wl_app ha.2 h]; rfl
theorem drop_cons (l : List UInt8) {x : Nat} (h : x < l.length) : l.drop x = l.getD x 0 :: l.drop (x + 1) := by
  rw [List.drop_eq_getElem_cons h, List.getD_eq_getElem?_getD, List.getElem?_eq_getElem h]; rfl
theorem wl_step {l : List UInt8} {x : Nat} (h : x < l.length) (hl : lower (l.getD x 0) = true) : x + wl (l.drop x) = x + 1 + wl (l.drop (x + 1)) := by
  rw [drop_cons l h, wl_yes hl]; omega
theorem wl_stop {l : List UInt8} {x : Nat} (h : x < l.length) (hl : lower (l.getD x 0) = false) : wl (l.drop x) = 0 := by
  rw [drop_cons l h, wl_no hl]
theorem wl_end {l : List UInt8} {x : Nat} (h : l.length ≤ x) : wl (l.drop x) = 0 := by rw [List.drop_of_length_le h]; rfl
theorem tmT_eta (t : Tm) : tmT (t.val, t.kids) = t := by cases t; rfl
def GoodR (l : List UInt8) (q : TP × Option (List UInt8)) : Prop := ∀ r, q.2 = some r → ∃ k, k ≤ l.length ∧ r = l.drop k ∧ costT (tmT q.1) + r.length ≤ l.length
theorem costT_tmT (x : TP) : costT (tmT x) = x.1.size + x.2.length + costTs x.2 := by unfold tmT; rw [costT]
theorem close_good {sp : Bool} {v : ByteArray} {ks : List Tm} {l r : List UInt8} (h : (closeT sp v ks l).2 = some r) : ∃ k, k ≤ l.length ∧ r = l.drop k ∧ costT (tmT (closeT sp v ks l).1) + r.length ≤ v.size + ks.length + costTs ks + l.length := by
  cases l with
  | nil => cases h
  | cons c l =>
    rw [closeT] at h ⊢
    split
    · rename_i hc
      rw [if_pos hc] at h
      cases h
      refine ⟨1, by simp, rfl, ?_⟩
      rw [costT_tmT]
      simp only [List.length_cons]; omega
    · rename_i hc
      rw [if_neg hc] at h; cases h
theorem kids_good {f : List UInt8 → TP × Option (List UInt8)} (hf : ∀ l, GoodR l (f l)) {sp : Bool} {v : ByteArray} : ∀ (k : Nat) (ks : List Tm) (l r : List UInt8), (kidsR f sp v k ks l).2 = some r →
    ∃ j, j ≤ l.length ∧ r = l.drop j ∧ costT (tmT (kidsR f sp v k ks l).1) + r.length ≤ v.size + ks.length + costTs ks + l.length
  | 0, ks, l, r, h => by rw [kidsR] at h ⊢; exact close_good h
  | k + 1, ks, [], r, h => by rw [kidsR] at h ⊢; exact close_good h
  | k + 1, ks, c :: l, r, h => by
    rw [kidsR] at h ⊢
    split
    · rename_i hc; rw [if_pos hc] at h; exact close_good h
    · rename_i hc
      rw [if_neg hc] at h
      have g := hf l
      match hq : f l with
      | (x, none) => rw [hq] at h; cases h
      | (x, some b) =>
        rw [hq] at h g
        dsimp only at h ⊢
        obtain ⟨j, h1, h2, h3⟩ := g b rfl
        split
        · rename_i hs
          rw [if_pos hs] at h
          obtain ⟨i, g1, g2, g3⟩ := kids_good hf k _ _ _ h
          have e : b.length = l.length - j := by rw [h2, List.length_drop]
          refine ⟨1 + j + i, by simp only [List.length_cons]; omega, ?_, ?_⟩
          · rw [g2, h2, List.drop_drop, show 1 + j + i = (j + i) + 1 by omega, List.drop_succ_cons]
          · rw [List.length_append, costTs_snoc] at g3
            simp only [List.length_cons, List.length_nil] at g3 ⊢
            dsimp only at h3
            omega
        · rename_i hs
          rw [if_neg hs] at h; cases h
theorem wname_size (l : List UInt8) : (wname l).size = wl l := by
  have := wl_le l
  show (l.take (wl l)).length = wl l
  rw [List.length_take]; omega
theorem rdT_good (sp : Bool) : ∀ (n : Nat) (l : List UInt8), GoodR l (rdT sp n l)
  | 0, l => fun r h => by cases h
  | n + 1, l => fun r h => by
    have hw := wl_le l
    have hn := wname_size l
    rw [rdT] at h ⊢
    split
    · rename_i hb; rw [if_pos hb] at h; cases h
    · rename_i hb
      rw [if_neg hb] at h
      split
      · rename_i ho
        rw [if_pos ho] at h
        obtain ⟨j, h1, h2, h3⟩ := kids_good (rdT_good sp n) _ _ _ _ h
        rw [List.length_drop] at h1 h3
        refine ⟨wl l + j, by omega, by rw [h2, List.drop_drop], ?_⟩
        simp only [List.length_nil, costTs] at h3
        omega
      · rename_i ho
        rw [if_neg ho] at h
        cases h
        refine ⟨wl l, hw, rfl, ?_⟩
        rw [costT_tmT]
        simp only [List.length_nil, costTs, List.length_drop]
        omega
theorem posn_cases (s : ByteArray) (sp : Bool) (n a : Nat) (ha : a ≤ s.size) :
    ((rdT sp n ((bl' s).drop a)).2 = none ∧ posn s (rdT sp n ((bl' s).drop a)).2 = -1) ∨
    ∃ q, a ≤ q ∧ q ≤ s.size ∧ (rdT sp n ((bl' s).drop a)).2 = some ((bl' s).drop q) ∧ posn s (rdT sp n ((bl' s).drop a)).2 = (q : Int) ∧ costT (tmT (rdT sp n ((bl' s).drop a)).1) + a ≤ q := by
  have hl : (bl' s).length = s.size := rfl
  match h : (rdT sp n ((bl' s).drop a)).2 with
  | none => exact .inl ⟨rfl, rfl⟩
  | some r =>
    obtain ⟨k, h1, h2, h3⟩ := rdT_good sp n _ _ h
    rw [List.length_drop, hl] at h1 h3
    rw [List.drop_drop] at h2
    subst h2
    rw [List.length_drop, hl] at h3
    refine .inr ⟨a + k, by omega, by omega, rfl, ?_, by omega⟩
    show ((s.size - ((bl' s).drop (a + k)).length : Nat) : Int) = _
    rw [List.length_drop, hl]
    omega
theorem rdT_name {sp : Bool} {n : Nat} {v : ByteArray} {r : List UInt8} (hv : nameOk v = true) (hr : opens lower r = false) : wl (bl' v ++ r) = v.size ∧ wname (bl' v ++ r) = v ∧ (bl' v ++ r).drop (wl (bl' v ++ r)) = r ∧ badW sp v = false := by
  have hlen : (bl' v).length = v.size := rfl
  have e : wl (bl' v ++ r) = v.size := (wl_app (name_lower hv) hr).trans hlen
  have hsz : 1 ≤ v.size := by simp only [nameOk, Bool.and_eq_true, decide_eq_true_eq] at hv; exact hv.1.1
  refine ⟨e, ?_, ?_, ?_⟩
  · unfold wname; rw [e, ← hlen, List.take_left]; rfl
  · rw [e, ← hlen, List.drop_left]
  · unfold badW
    split
    · exact decide_eq_false (by omega)
    · rw [hv]; rfl
theorem shape_eq {n : Nat} {t : Tm} (h : shape (n + 1) t = true) : nameOk t.val = true ∧ t.kids.length ≤ 2 ∧ t.kids.all (shape n) = true := by
  simp only [shape, Bool.and_eq_true, decide_eq_true_eq] at h; exact ⟨h.1.1, h.1.2, h.2⟩
theorem sep44 (sp : Bool) (r : List UInt8) : sepOk sp (44 :: r) = true := by unfold sepOk; simp
theorem sep41 (sp : Bool) (r : List UInt8) : sepOk sp (41 :: r) = true := by unfold sepOk; simp
theorem kids_text {f : List UInt8 → TP × Option (List UInt8)} {n : Nat} (hf : ∀ (t : Tm) (r : List UInt8), shape n t = true → tail r = true → f (textB t ++ r) = ((t.val, t.kids), some r)) {sp : Bool} {v : ByteArray} {r : List UInt8} :
    ∀ (ks done : List Tm) (K : Nat) (c : UInt8), ks ≠ [] → ks.all (shape n) = true → ks.length ≤ K → c ≠ 41 → kidsR f sp v K done (c :: (interL [44] (textBs ks) ++ 41 :: r)) = ((v, done ++ ks), some r)
  | [], _, _, _, h, _, _, _ => absurd rfl h
  | t :: ks, done, 0, c, _, _, h, _ => by simp at h
  | [t], done, K + 1, c, _, ha, hK, hc => by
    simp only [List.all_cons, List.all_nil, Bool.and_true] at ha
    have e : interL [44] (textBs [t]) ++ 41 :: r = textB t ++ 41 :: r := rfl
    rw [e, kidsR, if_neg hc, hf t (41 :: r) ha rfl]
    dsimp only
    rw [if_pos (sep41 sp r), tmT_eta]
    cases K with
    | zero => rw [kidsR]; rfl
    | succ K => rw [kidsR, if_pos rfl]; rfl
  | t :: u :: ks, done, K + 1, c, _, ha, hK, hc => by
    simp only [List.all_cons, Bool.and_eq_true] at ha
    have e : interL [44] (textBs (t :: u :: ks)) ++ 41 :: r = textB t ++ 44 :: (interL [44] (textBs (u :: ks)) ++ 41 :: r) := by
      show (textB t ++ [44] ++ interL [44] (textBs (u :: ks))) ++ 41 :: r = _
      simp
    rw [e, kidsR, if_neg hc, hf t _ ha.1 rfl]
    dsimp only
    rw [if_pos (sep44 sp _), tmT_eta, kids_text hf (u :: ks) (done ++ [t]) K 44 (by simp) (by simp only [List.all_cons, Bool.and_eq_true]; exact ha.2) (by simpa using hK) (by decide)]
    simp
theorem rdT_text (sp : Bool) : ∀ (n : Nat) (t : Tm) (r : List UInt8), shape n t = true → tail r = true → rdT sp n (textB t ++ r) = ((t.val, t.kids), some r)
  | 0, t, r, h, _ => by cases h
  | n + 1, .mk v ks, r, h, hr => by
    obtain ⟨h1, h2, h3⟩ := shape_eq h
    have h1 : nameOk v = true := h1
    have h2 : ks.length ≤ 2 := h2
    have h3 : ks.all (shape n) = true := h3
    have o : opens lower (if ks = [] then r else 40 :: (interL [44] (textBs ks) ++ 41 :: r)) = false := by
      split
      · exact tail_lower hr
      · rfl
    obtain ⟨e1, e2, e3, e4⟩ := rdT_name (sp := sp) (n := n) h1 o
    rw [textB_open, rdT, e2, e3, e4, if_neg (by simp)]
    by_cases hk : ks = []
    · rw [if_pos hk]
      have ho : openT r = false := by
        cases r with
        | nil => rfl
        | cons c r =>
          by_cases hc : c = 40
          · subst hc; exact absurd rfl (tail_open hr)
          · unfold openT; simp [hc]
      rw [ho, if_neg (by simp)]
      rw [hk]; rfl
    · rw [if_neg hk]
      have ho : openT (40 :: (interL [44] (textBs ks) ++ 41 :: r)) = true := rfl
      rw [ho, if_pos rfl, kids_text (rdT_text sp n) ks [] _ 40 hk h3 (by split <;> omega) (by decide)]
      rfl
theorem tmRd_rd (s : ByteArray) : tmRd s = rd (fun x : TP => right (.mk x.1 x.2)) (fun x => textB (.mk x.1 x.2)) zT (bl' s) := rfl
theorem tp_inj {a b : TP} (h : (Tree.mk a.1 a.2 : Tm) = .mk b.1 b.2) : a = b := by
  injection h with h1 h2; exact Prod.ext h1 h2
theorem tmRd_yes {x : TP} {s : ByteArray} (h : right (.mk x.1 x.2) = true) (ht : textB (.mk x.1 x.2) = bl' s) : tmRd s = (x, true) :=
  (tmRd_rd s).trans (rd_yes (fun {a b} ha hb e => tp_inj (text_inj ha hb e)) h ht)
theorem tmRd_no {s : ByteArray} (h : ∀ x : TP, right (.mk x.1 x.2) = true → ¬ textB (.mk x.1 x.2) = bl' s) : tmRd s = (zT, false) := (tmRd_rd s).trans (rd_no h)
theorem tmRd_ok {s : ByteArray} (h : (tmRd s).2 = true) : right (.mk (tmRd s).1.1 (tmRd s).1.2) = true ∧ textB (.mk (tmRd s).1.1 (tmRd s).1.2) = bl' s := by
  rw [tmRd_rd] at h ⊢; exact rd_ok h
theorem right_shape {t : Tm} (h : right t = true) : shape 4 t = true := by simp only [right, Bool.and_eq_true] at h; exact h.1
theorem rdT_right (sp : Bool) {x : TP} {s : ByteArray} (h : right (.mk x.1 x.2) = true) (ht : textB (.mk x.1 x.2) = bl' s) : rdT sp 4 (bl' s) = (x, some []) := by
  have e := rdT_text sp 4 (.mk x.1 x.2) [] (right_shape h) rfl
  rw [List.append_nil, ht] at e
  exact e
theorem textB_ne {t : Tm} (h : right t = true) : textB t ≠ [] := fun e => by
  have := text_head (right_named h) []
  rw [e] at this; cases this
/-- The document's last check. -/
theorem tmRd_S {s : ByteArray} {x : TP} (hx : x = (rdT true 4 (bl' s)).1) : tmRd s = if posn s (rdT true 4 (bl' s)).2 = s.size ∧ ¬ s = ByteArray.empty ∧ tx (right (.mk x.1 x.2)) (textB (.mk x.1 x.2)) = s then (x, true) else (zT, false) := by
  split
  · rename_i h
    obtain ⟨h1, h2, h3⟩ := h
    cases hr : right (.mk x.1 x.2) with
    | false => rw [hr] at h3; exact absurd h3.symm h2
    | true => rw [hr, tx_yes rfl] at h3; exact tmRd_yes hr (by rw [← h3]; rfl)
  · rename_i h
    refine tmRd_no fun y h1 h2 => h ?_
    have e := rdT_right true h1 h2
    have ex : x = y := by rw [hx, e]
    rw [e, ex]
    refine ⟨?_, fun e => ?_, ?_⟩
    · unfold posn; simp
    · rw [e] at h2; exact textB_ne h1 h2
    · rw [h1, tx_yes rfl, h2]; rfl
/-- The code's. -/
theorem tmRd_I {s : ByteArray} {x : TP} (hx : x = (rdT false 4 (bl' s)).1) : tmRd s = if (rdT false 4 (bl' s)).2 = some [] ∧ right (.mk x.1 x.2) = true ∧ mkB (textB (.mk x.1 x.2)) = s then (x, true) else (zT, false) := by
  split
  · rename_i h
    obtain ⟨h1, h2, h3⟩ := h
    exact tmRd_yes h2 (by rw [← h3]; rfl)
  · rename_i h
    refine tmRd_no fun y h1 h2 => h ?_
    have e := rdT_right false h1 h2
    have ex : x = y := by rw [hx, e]
    rw [e, ex]
    exact ⟨rfl, h1, by rw [h2]; rfl⟩
mutual
theorem text_no {c : UInt8} (hc : lower c = false ∧ c ≠ 40 ∧ c ≠ 41 ∧ c ≠ 44) : ∀ (t : Tm), named t = true → ∀ x ∈ textB t, x ≠ c
  | .mk v ks, h, x, hx => by
    simp only [named, Bool.and_eq_true] at h
    have e := textB_open v ks []
    rw [List.append_nil] at e
    rw [e] at hx
    rcases List.mem_append.1 hx with hx | hx
    · exact fun e => by
        subst e
        have := List.all_eq_true.1 (name_lower h.1) x hx
        rw [hc.1] at this; cases this
    · split at hx
      · cases hx
      · simp only [List.mem_cons, List.mem_append, List.not_mem_nil, or_false] at hx
        rcases hx with rfl | hx | rfl
        · exact fun e => hc.2.1 e.symm
        · exact texts_no hc ks h.2 x hx
        · exact fun e => hc.2.2.1 e.symm
theorem texts_no {c : UInt8} (hc : lower c = false ∧ c ≠ 40 ∧ c ≠ 41 ∧ c ≠ 44) : ∀ (ts : List Tm), nameds ts = true → ∀ x ∈ interL [44] (textBs ts), x ≠ c
  | [], _, x, hx => by cases hx
  | [t], h, x, hx => by
    simp only [nameds, Bool.and_eq_true] at h
    exact text_no hc t h.1 x hx
  | t :: u :: ts, h, x, hx => by
    have h1 : named t = true := by simp only [nameds, Bool.and_eq_true] at h; exact h.1
    have h2 : nameds (u :: ts) = true := by simp only [nameds, Bool.and_eq_true] at h ⊢; exact h.2
    have hx : x ∈ textB t ++ [44] ++ interL [44] (textBs (u :: ts)) := hx
    simp only [List.mem_append, List.mem_singleton] at hx
    rcases hx with (hx | rfl) | hx
    · exact text_no hc t h1 x hx
    · exact fun e => hc.2.2.2 e.symm
    · exact texts_no hc (u :: ts) h2 x hx
end
theorem cut_at' {a b sep : List UInt8} (h : ∀ j, j < a.length → Go.Lib.occAt (a ++ (sep ++ b)) sep j = false) : Go.Lib.cut (a ++ (sep ++ b)) sep = (a, b, true) := by
  have h1 : Go.Lib.index (a ++ (sep ++ b)) sep = ((a.length : Nat) : Int) := Go.Lib.index_first (by simp) (by
    unfold Go.Lib.occAt
    rw [List.drop_left, List.isPrefixOf_iff_prefix]
    exact List.prefix_append _ _) h
  unfold Go.Lib.cut
  rw [h1, if_pos (by omega)]
  simp only [Int.toNat_natCast]
  rw [List.take_left, ← List.drop_drop, List.drop_left, List.drop_left]
theorem cut_none' {a sep : List UInt8} (h : ∀ j, j ≤ a.length → Go.Lib.occAt a sep j = false) : Go.Lib.cut a sep = (a, [], false) := by
  have h1 := Go.Lib.index_none h
  unfold Go.Lib.cut
  rw [h1, if_neg (by omega)]
theorem occ_head' {s t : List UInt8} {c : UInt8} {j : Nat} (h : s.getD j 0 ≠ c ∨ s.length ≤ j) : Go.Lib.occAt s (c :: t) j = false := by
  cases ho : Go.Lib.occAt s (c :: t) j with
  | false => rfl
  | true =>
    have := Go.Lib.occAt_head rfl ho
    rcases h with h | h
    · rw [List.getD_eq_getElem?_getD, this] at h; exact absurd rfl h
    · rw [List.getElem?_eq_none h] at this; cases this
theorem cut_one' {a b : List UInt8} {c : UInt8} (h : ∀ x ∈ a, x ≠ c) : Go.Lib.cut (a ++ c :: b) [c] = (a, b, true) :=
  cut_at' (sep := [c]) fun j hj => occ_head' (.inl (by
    have e : (a ++ ([c] ++ b)).getD j 0 = a[j] := by rw [List.getD_eq_getElem?_getD, List.getElem?_append_left hj, List.getElem?_eq_getElem hj]; rfl
    rw [e]; exact h _ (List.getElem_mem hj)))
theorem cut_one_no' {a : List UInt8} {c : UInt8} (h : ∀ x ∈ a, x ≠ c) : Go.Lib.cut a [c] = (a, [], false) :=
  cut_none' fun j _ => occ_head' (by
    by_cases hj : j < a.length
    · refine .inl ?_
      rw [List.getD_eq_getElem?_getD, List.getElem?_eq_getElem hj]
      exact h _ (List.getElem_mem hj)
    · exact .inr (by omega))
/-- A list with a byte is cut at it. -/
theorem first_of {c : UInt8} : ∀ {l : List UInt8}, c ∈ l → ∃ a b, l = a ++ c :: b ∧ ∀ x ∈ a, x ≠ c
  | x :: l, h => by
    by_cases hx : x = c
    · exact ⟨[], l, by rw [hx]; rfl, fun y hy => by cases hy⟩
    · obtain ⟨a, b, e, h2⟩ := first_of ((List.mem_cons.1 h).resolve_left fun e => hx e.symm)
      refine ⟨x :: a, b, by rw [e]; rfl, fun y hy => ?_⟩
      rcases List.mem_cons.1 hy with rfl | hy
      · exact hx
      · exact h2 y hy
theorem cutK_text {s : ByteArray} {c : UInt8} (h : cutK s (mkB [c]) = true) : bl' s = bl' (cutA s (mkB [c])) ++ c :: bl' (cutR s (mkB [c])) := by
  by_cases hc : c ∈ bl' s
  · obtain ⟨a, b, e, h2⟩ := first_of hc
    have q : Go.Lib.cut (bl' s) (bl' (mkB [c])) = (a, b, true) := by rw [e]; exact cut_one' h2
    unfold cutA cutR
    rw [q]; exact e
  · have q : Go.Lib.cut (bl' s) (bl' (mkB [c])) = (bl' s, [], false) := cut_one_no' fun x hx e => hc (e ▸ hx)
    unfold cutK at h
    rw [q] at h; cases h
/-- A number of times, and what. -/
def pieceB (t : Tm) (n : Int) : List UInt8 := itoa n ++ 42 :: textB t
def wordsN : List Tm → List Int → List ByteArray
  | t :: ts, n :: ns => mkB (pieceB t n) :: wordsN ts ns
  | _, _ => []
theorem wordsN_len : ∀ {ts : List Tm} {ns : List Int}, ts.length = ns.length → (wordsN ts ns).length = ts.length
  | [], [], _ => rfl
  | [], _ :: _, h => by simp at h
  | _ :: _, [], h => by simp at h
  | t :: ts, n :: ns, h => by simp only [wordsN, List.length_cons]; rw [wordsN_len (by simpa using h)]
theorem c42 : lower 42 = false ∧ (42 : UInt8) ≠ 40 ∧ (42 : UInt8) ≠ 41 ∧ (42 : UInt8) ≠ 44 := by decide
theorem c32 : lower 32 = false ∧ (32 : UInt8) ≠ 40 ∧ (32 : UInt8) ≠ 41 ∧ (32 : UInt8) ≠ 44 := by decide
theorem c61 : lower 61 = false ∧ (61 : UInt8) ≠ 40 ∧ (61 : UInt8) ≠ 41 ∧ (61 : UInt8) ≠ 44 := by decide
theorem piece_no32 {t : Tm} {n : Int} (h : named t = true) : ∀ x ∈ pieceB t n, x ≠ 32 := fun x hx => by
  simp only [pieceB, List.mem_append, List.mem_cons] at hx
  rcases hx with hx | rfl | hx
  · exact itoa_no' (by decide) (by decide) x hx
  · decide
  · exact text_no c32 t h x hx
theorem nums_cut : ∀ {ts : List Tm} {ns : List Int} (r : List UInt8), ts.length = ns.length → (∀ t ∈ ts, named t = true) → (cutL 32 (numsB ts ns ++ r)).map mkB = wordsN ts ns ++ (cutL 32 r).map mkB
  | [], [], r, _, _ => rfl
  | [], _ :: _, r, h, _ => by simp at h
  | _ :: _, [], r, h, _ => by simp at h
  | t :: ts, n :: ns, r, h, hn => by
    have e : numsB (t :: ts) (n :: ns) ++ r = pieceB t n ++ 32 :: (numsB ts ns ++ r) := by simp [numsB, numB, pieceB]
    rw [e, cutL_app _ (piece_no32 (hn t List.mem_cons_self)), List.map_cons, nums_cut r (by simpa using h) fun t ht => hn t (List.mem_cons_of_mem _ ht)]
    rfl
theorem piece_cut {t : Tm} {n : Int} (h : named t = true) : cut 42 (mkB (pieceB t n)) = [mkB (itoa n), mkB (textB t)] := by
  unfold cut
  rw [bl_mk]
  unfold pieceB
  rw [cutL_app _ (itoa_no' (by decide) (by decide)), cutL_no (text_no c42 t h)]; rfl
theorem tm_text {t : Tm} (h : right t = true) : tmRd (mkB (textB t)) = ((t.val, t.kids), true) := tmRd_yes (x := (t.val, t.kids)) (by rw [show (Tree.mk t.val t.kids : Tm) = t from tmT_eta t]; exact h) (by rw [show (Tree.mk t.val t.kids : Tm) = t from tmT_eta t]; rfl)
theorem time_range {n : Int} (h : timeOk n = true) : -50 ≤ n ∧ n ≤ 50 := by
  simp only [timeOk, Bool.and_eq_true, decide_eq_true_eq] at h; exact ⟨h.1.2, h.2⟩
theorem numsS_words : ∀ {ts : List Tm} {ns : List Int}, ts.length = ns.length → (∀ t ∈ ts, right t = true) → numsS (wordsN ts ns) = ts
  | [], [], _, _ => rfl
  | [], _ :: _, h, _ => by simp at h
  | _ :: _, [], h, _ => by simp at h
  | t :: ts, n :: ns, h, hr => by
    have ht := hr t List.mem_cons_self
    have e : tmT (scanT (mkB (pieceB t n))) = t := by
      unfold scanT
      rw [piece_cut (right_named ht), if_pos (by simp)]
      show tmT (tmRd (mkB (textB t))).1 = t
      rw [tm_text ht]; exact tmT_eta t
    have ih := numsS_words (ts := ts) (ns := ns) (by simpa using h) fun t ht => hr t (List.mem_cons_of_mem _ ht)
    show tmT (scanT (mkB (pieceB t n))) :: numsS (wordsN ts ns) = t :: ts
    rw [e, ih]
theorem timesS_words : ∀ {ts : List Tm} {ns : List Int}, ts.length = ns.length → (∀ t ∈ ts, right t = true) → (∀ n ∈ ns, timeOk n = true) → timesS (wordsN ts ns) = ns
  | [], [], _, _, _ => rfl
  | [], _ :: _, h, _, _ => by simp at h
  | _ :: _, [], h, _, _ => by simp at h
  | t :: ts, n :: ns, h, hr, hn => by
    have ht := hr t List.mem_cons_self
    have e : scanN (mkB (pieceB t n)) = n := by
      have := time_range (hn n List.mem_cons_self)
      unfold scanN
      rw [piece_cut (right_named ht)]
      show (numL (bl' (mkB (itoa n)))).1 = n
      rw [bl_mk, numL_itoa (by omega) (by omega)]
    have ih := timesS_words (ts := ts) (ns := ns) (by simpa using h) (fun t ht => hr t (List.mem_cons_of_mem _ ht)) fun t ht => hn t (List.mem_cons_of_mem _ ht)
    show scanN (mkB (pieceB t n)) :: timesS (wordsN ts ns) = n :: ns
    rw [e, ih]
theorem piece_cut2 {t : Tm} {n : Int} : cutA (mkB (pieceB t n)) mulSgn = mkB (itoa n) ∧ cutR (mkB (pieceB t n)) mulSgn = mkB (textB t) := by
  have e : Go.Lib.cut (bl' (mkB (pieceB t n))) (bl' mulSgn) = (itoa n, textB t, true) := by
    rw [bl_mk]
    exact cut_one' (itoa_no' (by decide) (by decide))
  unfold cutA cutR
  rw [e]; exact ⟨rfl, rfl⟩
theorem numsI_words : ∀ {ts : List Tm} {ns : List Int}, ts.length = ns.length → (∀ t ∈ ts, right t = true) → numsI (wordsN ts ns) = ts ∧ allI (wordsN ts ns) = true
  | [], [], _, _ => ⟨rfl, rfl⟩
  | [], _ :: _, h, _ => by simp at h
  | _ :: _, [], h, _ => by simp at h
  | t :: ts, n :: ns, h, hr => by
    have ht := hr t List.mem_cons_self
    have e : tmRd (cutR (mkB (pieceB t n)) mulSgn) = ((t.val, t.kids), true) := by rw [piece_cut2.2]; exact tm_text ht
    obtain ⟨ih, ih2⟩ := numsI_words (ts := ts) (ns := ns) (by simpa using h) fun t ht => hr t (List.mem_cons_of_mem _ ht)
    refine ⟨?_, ?_⟩
    · show tmT (tmRd (cutR (mkB (pieceB t n)) mulSgn)).1 :: numsI (wordsN ts ns) = t :: ts
      rw [e, ih]
      show tmT (t.val, t.kids) :: ts = _
      rw [tmT_eta]
    · show ((tmRd (cutR (mkB (pieceB t n)) mulSgn)).2 && allI (wordsN ts ns)) = true
      rw [e, ih2]; rfl
theorem timesI_words : ∀ {ts : List Tm} {ns : List Int}, ts.length = ns.length → (∀ n ∈ ns, timeOk n = true) → timesI (wordsN ts ns) = ns
  | [], [], _, _ => rfl
  | [], _ :: _, h, _ => by simp at h
  | _ :: _, [], h, _ => by simp at h
  | t :: ts, n :: ns, h, hn => by
    have e : atoi (cutA (mkB (pieceB t n)) mulSgn) = n := by
      have := time_range (hn n List.mem_cons_self)
      rw [piece_cut2.1]
      show atoiL (bl' (mkB (itoa n))) = n
      rw [bl_mk, atoiL_itoa (by omega) (by omega)]
    have ih := timesI_words (ts := ts) (ns := ns) (by simpa using h) fun t ht => hn t (List.mem_cons_of_mem _ ht)
    show atoi (cutA (mkB (pieceB t n)) mulSgn) :: timesI (wordsN ts ns) = n :: ns
    rw [e, ih]
/-- What a right atom is. -/
theorem atom_two {k : Int} {a b : TP} {ts : List Tm} {ns : List Int} {bd : Int} {sc : Bool} (h1 : ¬ k = 1) (h2 : atomRight (k, a, b, ts, ns, bd, sc) = true) :
    k = 2 ∧ a = zT ∧ b = zT ∧ ts.length = ns.length ∧ 1 ≤ ts.length ∧ ts.length ≤ 4 ∧ -1000 ≤ bd ∧ bd ≤ 1000 ∧ (∀ t ∈ ts, right t = true) ∧ ∀ n ∈ ns, timeOk n = true := by
  unfold atomRight at h2
  split at h2
  · rename_i hk
    simp only [sumRight, Bool.and_eq_true] at h2
    have q := (head_iff k a b ts ns bd sc).1 h2.1
    exact ⟨hk, noneT_eq q.1, noneT_eq q.2.1, q.2.2.1, q.2.2.2.1, q.2.2.2.2.1, q.2.2.2.2.2.1, q.2.2.2.2.2.2, numOk_right q.2.2.1 h2.2, numOk_times q.2.2.1 h2.2⟩
  · rw [Bool.and_eq_true] at h2
    exact absurd (by simpa using h2.1) h1
theorem atom_one {k : Int} {a b : TP} {ts : List Tm} {ns : List Int} {bd : Int} {sc : Bool} (h1 : k = 1) (h2 : atomRight (k, a, b, ts, ns, bd, sc) = true) : ts = [] ∧ ns = [] ∧ bd = 0 ∧ sc = false ∧ right (.mk a.1 a.2) = true ∧ right (.mk b.1 b.2) = true := by
  subst h1
  have r := (right_eq h2).1 rfl
  simp only [atomRight, eqRight, Bool.and_eq_true, decide_eq_true_eq, Bool.not_eq_true'] at h2
  rw [if_neg (by decide)] at h2
  simp only [Bool.and_eq_true, decide_eq_true_eq, Bool.not_eq_true'] at h2
  exact ⟨h2.2.1.1.1.2, h2.2.1.1.2, h2.2.1.2, h2.2.2, r⟩
/-- The words of a sum. -/
theorem sum_cut {ts : List Tm} {ns : List Int} {bd : Int} {sc : Bool} {s : ByteArray} (h1 : ts.length = ns.length) (h2 : ∀ t ∈ ts, right t = true) (h : numsB ts ns ++ (if sc = true then [60, 32] else [60, 61, 32]) ++ itoa bd = bl' s) :
    cut 32 s = wordsN ts ns ++ [mkB (signB sc), mkB (itoa bd)] := by
  have e : numsB ts ns ++ (signB sc ++ 32 :: itoa bd) = bl' s := by rw [← h]; cases sc <;> simp [signB]
  unfold cut
  rw [← e, nums_cut _ h1 fun t ht => right_named (h2 t ht), cutL_app _ (by cases sc <;> decide), cutL_no (itoa_no' (by decide) (by decide))]
  rfl
theorem sign_is (sc : Bool) : decide (mkB (signB sc) = mkB [60]) = sc := by
  cases sc
  · exact decide_eq_false fun e => by have := congrArg bl' e; cases this
  · exact decide_eq_true rfl
theorem pq_two {w : List ByteArray} {a b : ByteArray} : pq (w ++ [a, b]) ((w ++ [a, b]).length - 1) = b ∧ pq (w ++ [a, b]) ((w ++ [a, b]).length - 2) = a ∧ (w ++ [a, b]).take ((w ++ [a, b]).length - 2) = w := by
  have e : (w ++ [a, b]).length = w.length + 2 := by simp
  rw [e]
  refine ⟨?_, ?_, ?_⟩
  · unfold pq; simp [List.getD_eq_getElem?_getD, List.getElem?_append_right]
  · unfold pq; simp [List.getD_eq_getElem?_getD]
  · simp
theorem eq_cut {a b : TP} {s : ByteArray} (ha : right (.mk a.1 a.2) = true) (hb : right (.mk b.1 b.2) = true) (h : textB (.mk a.1 a.2) ++ [61] ++ textB (.mk b.1 b.2) = bl' s) :
    cut 61 s = [mkB (textB (.mk a.1 a.2)), mkB (textB (.mk b.1 b.2))] ∧ (cut 32 s).length = 1 ∧ cutA s eqSgn = mkB (textB (.mk a.1 a.2)) ∧ cutR s eqSgn = mkB (textB (.mk b.1 b.2)) ∧ cutK s eqSgn = true := by
  have e : textB (.mk a.1 a.2) ++ 61 :: textB (.mk b.1 b.2) = bl' s := by rw [← h]; simp
  have q : Go.Lib.cut (bl' s) (bl' eqSgn) = (textB (.mk a.1 a.2), textB (.mk b.1 b.2), true) := by rw [← e]; exact cut_one' (text_no c61 _ (right_named ha))
  refine ⟨?_, ?_, ?_, ?_, ?_⟩
  · unfold cut; rw [← e, cutL_app _ (text_no c61 _ (right_named ha)), cutL_no (text_no c61 _ (right_named hb))]; rfl
  · unfold cut
    rw [← e, cutL_no fun x hx => ?_]
    · rfl
    simp only [List.mem_append, List.mem_cons] at hx
    rcases hx with hx | rfl | hx
    · exact text_no c32 _ (right_named ha) x hx
    · decide
    · exact text_no c32 _ (right_named hb) x hx
  · unfold cutA; rw [q]
  · unfold cutR; rw [q]
  · unfold cutK; rw [q]
theorem atomScan_of {x : Atm} {s : ByteArray} (h : atomRight x = true) (ht : atomB x = bl' s) : atomScan s = x := by
  obtain ⟨k, a, b, ts, ns, bd, sc⟩ := x
  by_cases hk : k = 1
  · obtain ⟨e1, e2, e3, e4, ha, hb⟩ := atom_one hk h
    rw [atomB_eq hk] at ht
    obtain ⟨q1, q2, _⟩ := eq_cut ha hb ht
    unfold atomScan
    rw [if_pos ⟨by rw [q1]; rfl, q2⟩]
    unfold eqScan
    rw [q1]
    show (1, (tmRd (mkB (textB (.mk a.1 a.2)))).1, (tmRd (mkB (textB (.mk b.1 b.2)))).1, _) = _
    rw [tm_text ha, tm_text hb, e1, e2, e3, e4, hk]
    rfl
  · obtain ⟨e1, e2, e3, h1, h2, h3, h4, h5, hr, hn⟩ := atom_two hk h
    rw [atomB_sum hk] at ht
    have q := sum_cut h1 hr ht
    have hl := wordsN_len h1
    have p := pq_two (w := wordsN ts ns) (a := mkB (signB sc)) (b := mkB (itoa bd))
    have hlen : (cut 32 s).length = ts.length + 2 := by rw [q, List.length_append, hl]; rfl
    unfold atomScan
    rw [if_neg (by omega)]
    unfold sumScan
    have htake : (cut 32 s).take (min ((cut 32 s).length - 2) 5) = wordsN ts ns := by
      rw [show min ((cut 32 s).length - 2) 5 = (cut 32 s).length - 2 by omega, q]; exact p.2.2
    have hb : boundS (cut 32 s) = bd := by
      unfold boundS
      rw [if_pos (by omega), q, p.1]
      show (numL (bl' (mkB (itoa bd)))).1 = bd
      rw [bl_mk, numL_itoa (by omega) (by omega)]
    have hs : strictS (cut 32 s) = sc := by
      unfold strictS
      rw [decide_eq_true (by omega), Bool.true_and, q, p.2.1, sign_is]
    rw [htake, hb, hs, numsS_words h1 hr, timesS_words h1 hr hn, e1, e2, e3]
theorem atomI_of {x : Atm} {s : ByteArray} (h : atomRight x = true) (ht : atomB x = bl' s) : atomI s = (x, true) := by
  obtain ⟨k, a, b, ts, ns, bd, sc⟩ := x
  by_cases hk : k = 1
  · obtain ⟨e1, e2, e3, e4, ha, hb⟩ := atom_one hk h
    rw [atomB_eq hk] at ht
    obtain ⟨_, _, q1, q2, q3⟩ := eq_cut ha hb ht
    have f1 : tmRd (mkB (textB (.mk a.1 a.2))) = (a, true) := tm_text ha
    have f2 : tmRd (mkB (textB (.mk b.1 b.2))) = (b, true) := tm_text hb
    unfold atomI
    rw [if_pos (by unfold eqK; rw [q1, q2, q3, f1, f2]; rfl)]
    unfold eqI
    rw [q1, q2, f1, f2, e1, e2, e3, e4, hk]; rfl
  · obtain ⟨e1, e2, e3, h1, h2, h3, h4, h5, hr, hn⟩ := atom_two hk h
    rw [atomB_sum hk] at ht
    have q := sum_cut h1 hr ht
    have hl := wordsN_len h1
    have p := pq_two (w := wordsN ts ns) (a := mkB (signB sc)) (b := mkB (itoa bd))
    have hlen : (cut 32 s).length = ts.length + 2 := by rw [q, List.length_append, hl]; rfl
    have hno : ¬ eqK s = true := fun hq => by
      unfold eqK at hq
      simp only [Bool.and_eq_true] at hq
      have t1 := tmRd_ok hq.1.2
      have t2 := tmRd_ok hq.2
      have e := cutK_text hq.1.1
      have e1 : cut 32 s = [s] := by
        unfold cut
        rw [cutL_no fun x hx => ?_]
        · rfl
        rw [e] at hx
        simp only [List.mem_append, List.mem_cons] at hx
        rcases hx with hx | rfl | hx
        · exact text_no c32 _ (right_named t1.1) x (by rw [t1.2]; exact hx)
        · decide
        · exact text_no c32 _ (right_named t2.1) x (by rw [t2.2]; exact hx)
      rw [e1] at hlen
      simp at hlen
    unfold atomI
    rw [if_neg hno]
    unfold sumI
    have htake : (cut 32 s).take ((cut 32 s).length - 2) = wordsN ts ns := by rw [q]; exact p.2.2
    rw [htake, if_pos ⟨by omega, (numsI_words h1 hr).2⟩]
    unfold sumW
    have hb : atoi (pq (cut 32 s) ((cut 32 s).length - 1)) = bd := by
      rw [q, p.1]
      show atoiL (bl' (mkB (itoa bd))) = bd
      rw [bl_mk, atoiL_itoa (by omega) (by omega)]
    have hs : decide (pq (cut 32 s) ((cut 32 s).length - 2) = mkB [60]) = sc := by
      rw [q, p.2.1, sign_is]
    rw [htake, hb, hs, (numsI_words h1 hr).1, timesI_words h1 hn, e1, e2, e3]
noncomputable def atomRd (s : ByteArray) : Atm × Bool := rd atomRight atomB zA (bl' s)
theorem tx_some {ok : Bool} {l : List UInt8} {s : ByteArray} (h : ¬ s = ByteArray.empty) (e : tx ok l = s) : ok = true ∧ mkB l = s := by
  cases ok with
  | false => exact absurd e.symm h
  | true => exact ⟨rfl, e⟩
theorem atomB_ne' {x : Atm} (h : atomRight x = true) : atomB x ≠ [] := fun e => by
  obtain ⟨k, a, b, ts, ns, bd, sc⟩ := x
  by_cases hk : k = 1
  · rw [atomB_eq hk] at e; simp at e
  · rw [atomB_sum hk] at e; cases sc <;> simp at e
theorem atomReadS_eq (s : ByteArray) : atomReadS s = atomRd s := by
  unfold atomReadS atomRd
  split
  · rename_i h
    obtain ⟨h1, h2⟩ := tx_some h.1 h.2
    exact (rd_yes atomB_inj h1 (by rw [← h2, bl_mk, h2])).symm
  · rename_i h
    refine (rd_no fun x h1 h2 => h ?_).symm
    rw [atomScan_of h1 h2, h1, tx_yes rfl, h2]
    exact ⟨fun e => atomB_ne' h1 (by rw [h2, e]; rfl), rfl⟩
theorem atomReadI_eq (s : ByteArray) : atomReadI s = atomRd s := by
  unfold atomReadI atomRd
  split
  · rename_i h
    exact (rd_yes atomB_inj h.2.1 (congrArg bl' h.2.2)).symm
  · rename_i h
    refine (rd_no fun x h1 h2 => h ?_).symm
    rw [atomI_of h1 h2]
    exact ⟨rfl, h1, by rw [h2]; rfl⟩
noncomputable def litRd (s : ByteArray) : Ltr × Bool := rd (fun l : Ltr => atomRight l.1) litB (zA, false) (bl' s)
theorem litB_inj' : ∀ {a b : Ltr}, atomRight a.1 = true → atomRight b.1 = true → litB a = litB b → a = b := fun h1 h2 e => litB_inj h1 h2 e
theorem not_no {a : Atm} {r : List UInt8} (h : atomRight a = true) : ¬ atomB a = [110, 111, 116, 32] ++ r := fun e => by
  obtain ⟨k, ⟨v, ks⟩, ⟨v', ks'⟩, ts, ns, bd, sc⟩ := a
  by_cases hk : k = 1
  · rw [atomB_eq (x := (k, (v, ks), (v', ks'), ts, ns, bd, sc)) hk] at e
    have hr := right_named (((right_eq h).1 hk).1)
    simp only [named, Bool.and_eq_true] at hr
    dsimp only at e
    rw [List.append_assoc, textB_open] at e
    have e : [110, 111, 116] ++ (32 :: r) = bl' v ++ (if ks = [] then [61] ++ textB (.mk v' ks') else 40 :: (interL [44] (textBs ks) ++ 41 :: ([61] ++ textB (.mk v' ks')))) := e.symm
    have q := split_all (p := lower) (a := [110, 111, 116]) (by decide) (name_lower hr.1) rfl (by split <;> rfl) e
    have h2 : v.size ≤ 2 := by have := hr.1; simp only [nameOk, Bool.and_eq_true, decide_eq_true_eq] at this; exact this.1.2
    have h3 : (bl' v).length = v.size := rfl
    rw [← q.1] at h3
    simp at h3; omega
  · rw [atomB_sum (x := (k, (v, ks), (v', ks'), ts, ns, bd, sc)) hk] at e
    obtain ⟨_, _, _, h1, h2, _⟩ := atom_two hk h
    dsimp only at e
    cases ts with
    | nil => simp at h2
    | cons t l => cases ns with
      | nil => simp at h1
      | cons n m =>
        have hh := itoa_head n ([42] ++ textB t ++ [32] ++ (numsB l m ++ ((if sc = true then [60, 32] else [60, 61, 32]) ++ itoa bd)))
        have e2 : itoa n ++ ([42] ++ textB t ++ [32] ++ (numsB l m ++ ((if sc = true then [60, 32] else [60, 61, 32]) ++ itoa bd))) = numsB (t :: l) (n :: m) ++ (if sc = true then [60, 32] else [60, 61, 32]) ++ itoa bd := by simp [numsB, numB]
        rw [e2, e] at hh
        cases hh
theorem lit_not {s : ByteArray} {r : List UInt8} (e : bl' s = [110, 111, 116, 32] ++ r) : litRd s = litOf true (atomRd (mkB r)) := by
  unfold litOf
  split
  · rename_i h
    obtain ⟨h1, h2⟩ := rd_ok h
    refine rd_yes litB_inj' h1 ?_
    have h2 : atomB (atomRd (mkB r)).1 = r := h2
    unfold litB
    rw [if_pos rfl, e]
    show [110, 111, 116, 32] ++ atomB (atomRd (mkB r)).1 = _
    rw [h2]
  · rename_i h
    refine rd_no fun l h1 h2 => h ?_
    obtain ⟨a, no⟩ := l
    cases no with
    | false => exact absurd (h2.trans e) (not_no h1)
    | true =>
      have h3 : [110, 111, 116, 32] ++ atomB a = [110, 111, 116, 32] ++ r := h2.trans e
      have h4 := List.append_cancel_left h3
      unfold atomRd
      rw [rd_yes (s := bl' (mkB r)) atomB_inj h1 h4]
theorem lit_yes {s : ByteArray} (e : ∀ r, r ≠ [] → ¬ bl' s = [110, 111, 116, 32] ++ r) : litRd s = litOf false (atomRd s) := by
  unfold litOf
  split
  · rename_i h
    obtain ⟨h1, h2⟩ := rd_ok h
    refine rd_yes litB_inj' h1 ?_
    unfold litB
    rw [if_neg (by simp)]; exact h2
  · rename_i h
    refine rd_no fun l h1 h2 => h ?_
    obtain ⟨a, no⟩ := l
    cases no with
    | true => exact absurd h2.symm (e _ (atomB_ne' h1))
    | false =>
      unfold atomRd
      rw [rd_yes (s := bl' s) atomB_inj h1 h2]
theorem litReadS_eq (s : ByteArray) : litReadS s = litRd s := by
  have hl : (bl' s).length = s.size := rfl
  unfold litReadS isNot
  split
  · rename_i h
    simp only [Bool.and_eq_true, decide_eq_true_eq] at h
    have e : bl' s = [110, 111, 116, 32] ++ (bl' s).drop 4 := by
      have h2 : (bl' s).take 4 = [110, 111, 116, 32] := congrArg bl' h.2
      rw [← h2, List.take_append_drop]
    rw [lit_not e, atomReadS_eq]
  · rename_i h
    rw [lit_yes fun r hr e => h ?_, atomReadS_eq]
    simp only [Bool.and_eq_true, decide_eq_true_eq]
    have h4 : 0 < r.length := List.length_pos_iff.2 hr
    refine ⟨by rw [← hl, e]; simp; omega, by rw [e]; rfl⟩
theorem litReadI_eq (s : ByteArray) : litReadI s = litRd s := by
  unfold litReadI
  have hn : bl' notSgn = [110, 111, 116, 32] := rfl
  cases hp : Go.Lib.hasPrefix (bl' s) (bl' notSgn) with
  | true =>
    obtain ⟨r, e⟩ : ∃ r, bl' s = [110, 111, 116, 32] ++ r := by
      unfold Go.Lib.hasPrefix at hp
      obtain ⟨r, e⟩ := List.isPrefixOf_iff_prefix.1 hp
      exact ⟨r, e.symm⟩
    have e2 : Go.Lib.trimPrefix (bl' s) (bl' notSgn) = r := by
      unfold Go.Lib.trimPrefix
      rw [hp, if_pos rfl, e, hn]; rfl
    rw [lit_not e, atomReadI_eq, e2]
  | false =>
    have e2 : Go.Lib.trimPrefix (bl' s) (bl' notSgn) = bl' s := by
      unfold Go.Lib.trimPrefix
      rw [hp, if_neg (by simp)]
    rw [lit_yes fun r hr e => ?_, atomReadI_eq, e2]
    · rfl
    · have : Go.Lib.hasPrefix (bl' s) (bl' notSgn) = true := by
        unfold Go.Lib.hasPrefix
        exact List.isPrefixOf_iff_prefix.2 ⟨r, e.symm⟩
      rw [hp] at this; cases this
end Pl

/-
  The codes' contracts: terms, atoms and literals that are read. No condition.
-/
set_option linter.unusedVariables false
set_option linter.unusedSimpArgs false
set_option maxRecDepth 100000
namespace Pl
open Go Cg
theorem rdT_bad {sp : Bool} {d : Nat} {l : List UInt8} (h : badW sp (wname l) = true ∨ d = 0) : rdT sp d l = failT sp (wname l, []) := by
  cases d with
  | zero => rfl
  | succ d => rw [rdT, if_pos (h.resolve_right (by omega))]
theorem rdT_open {sp : Bool} {d : Nat} {l : List UInt8} (hd : 0 < d) (hb : badW sp (wname l) = false) (ho : openT (l.drop (wl l)) = true) : rdT sp d l = kidsR (rdT sp (d - 1)) sp (wname l) (if sp = true then 3 else 2) [] (l.drop (wl l)) := by
  cases d with
  | zero => omega
  | succ d => rw [rdT, if_neg (by rw [hb]; simp), if_pos ho]; rfl
theorem rdT_plain {sp : Bool} {d : Nat} {l : List UInt8} (hd : 0 < d) (hb : badW sp (wname l) = false) (ho : openT (l.drop (wl l)) = false) : rdT sp d l = ((wname l, []), some (l.drop (wl l))) := by
  cases d with
  | zero => omega
  | succ d => rw [rdT, if_neg (by rw [hb]; simp), if_neg (by rw [ho]; simp)]
theorem openT_yes {l : List UInt8} {i : Nat} (h : i < l.length) (hc : l.getD i 0 = 40) : openT (l.drop i) = true := by
  rw [drop_cons l h, hc]; rfl
theorem openT_no {l : List UInt8} {i : Nat} (h : i < l.length) (hc : ¬ l.getD i 0 = 40) : openT (l.drop i) = false := by
  rw [drop_cons l h]
  unfold openT
  rw [Bool.and_eq_false_iff]
  exact .inr (decide_eq_false hc)
theorem openT_end {l : List UInt8} {i : Nat} (h : l.length ≤ i) : openT (l.drop i) = false := by rw [List.drop_of_length_le h]; rfl
section
variable {f : List UInt8 → TP × Option (List UInt8)} {sp : Bool} {v : ByteArray} {ks : List Tm} {c : UInt8} {r b : List UInt8}
theorem kidsR_nil : ∀ k, kidsR f sp v k ks [] = failT sp (v, ks)
  | 0 => by rw [kidsR]; rfl
  | k + 1 => by rw [kidsR]; rfl
theorem kidsR_close : ∀ k, kidsR f sp v k ks (41 :: r) = ((v, ks), some r)
  | 0 => by rw [kidsR]; rfl
  | k + 1 => by rw [kidsR, if_pos rfl]; rfl
theorem kidsR_zero {k : Nat} (hk : k = 0) (hc : c ≠ 41) : kidsR f sp v k ks (c :: r) = failT sp (v, ks) := by
  subst hk
  rw [kidsR, closeT, if_neg hc]
theorem kidsR_none {k : Nat} (hk : 0 < k) (hc : c ≠ 41) (h : (f r).2 = none) : kidsR f sp v k ks (c :: r) = failT sp (v, ks) := by
  cases k with
  | zero => omega
  | succ k =>
    rw [kidsR, if_neg hc]
    match hq : f r with
    | (x, none) => rfl
    | (x, some b) => rw [hq] at h; cases h
theorem kidsR_some {k : Nat} (hk : 0 < k) (hc : c ≠ 41) (h : (f r).2 = some b) : kidsR f sp v k ks (c :: r) = if sepOk sp b = true then kidsR f sp v (k - 1) (ks ++ [tmT (f r).1]) b else failT sp (v, ks) := by
  cases k with
  | zero => omega
  | succ k =>
    rw [kidsR, if_neg hc]
    match hq : f r with
    | (x, none) => rw [hq] at h; cases h
    | (x, some b') => rw [hq] at h; cases h; rfl
end
theorem b40 {c : UInt8} : ((c.toNat : Nat) : Int) = 40 ↔ c = 40 := ⟨fun h => UInt8.toNat_inj.1 (by show c.toNat = 40; omega), fun h => by rw [h]; rfl⟩
theorem b41 {c : UInt8} : ((c.toNat : Nat) : Int) = 41 ↔ c = 41 := ⟨fun h => UInt8.toNat_inj.1 (by show c.toNat = 41; omega), fun h => by rw [h]; rfl⟩
theorem b44 {c : UInt8} : ((c.toNat : Nat) : Int) = 44 ↔ c = 44 := ⟨fun h => UInt8.toNat_inj.1 (by show c.toNat = 44; omega), fun h => by rw [h]; rfl⟩
theorem low_yes {c : UInt8} (h1 : (97 : Int) ≤ ((c.toNat : Nat) : Int)) (h2 : ((c.toNat : Nat) : Int) ≤ 122) : lower c = true := by
  unfold lower; rw [decide_eq_false (by omega), decide_eq_false (by omega)]; rfl
theorem low_no1 {c : UInt8} (h1 : ((c.toNat : Nat) : Int) < 97) : lower c = false := by
  unfold lower; rw [decide_eq_true h1]; rfl
theorem low_no2 {c : UInt8} (h1 : (122 : Int) < ((c.toNat : Nat) : Int)) : lower c = false := by
  unfold lower; rw [decide_eq_true (show ((c.toNat : Nat) : Int) > 122 from h1), Bool.or_true]; rfl
theorem ext_wname (s : ByteArray) (a : Nat) : s.extract a (a + wl ((bl' s).drop a)) = wname ((bl' s).drop a) := by
  rw [ext_mk, Nat.add_sub_cancel_left]; rfl
theorem ext_rest (s : ByteArray) (a : Nat) : s.extract a s.size = mkB ((bl' s).drop a) := by
  have hl : (bl' s).length = s.size := rfl
  rw [ext_mk, ← hl, List.take_of_length_le (by rw [List.length_drop]; omega)]
theorem pre_one (l : List UInt8) (c : UInt8) : Go.Lib.hasPrefix (bl' (mkB l)) (bl' { data := #[c] }) = (decide (0 < l.length) && decide (l.getD 0 0 = c)) := by
  show Go.Lib.hasPrefix l [c] = _
  unfold Go.Lib.hasPrefix
  cases l with
  | nil => rfl
  | cons x l =>
    simp only [List.isPrefixOf, Bool.and_true, List.length_cons, List.getD_cons_zero]
    rw [decide_eq_true (by omega), Bool.true_and, Bool.eq_iff_iff, beq_iff_eq, decide_eq_true_eq]
    exact ⟨fun h => h.symm, fun h => h.symm⟩
theorem exits {n x : Nat} {t : Int} {A C : Prop} (E : Prop) (h1 : x < n → 97 ≤ t → t ≤ 122 → A) (h2 : x < n → 122 < t → E) (h3 : x < n → t < 97 → E) (h4 : n ≤ x → E) (hC : E → C) :
    (x < n → x < n ∧ (97 ≤ t → x < n ∧ (t ≤ 122 → A) ∧ (122 < t → C)) ∧ (t < 97 → C)) ∧ (n ≤ x → C) :=
  ⟨fun h => ⟨h, fun a => ⟨h, h1 h a, fun b => hC (h2 h b)⟩, fun b => hC (h3 h b)⟩, fun h => hC (h4 h)⟩
theorem exits2 {p n l : Nat} {t B X : Prop} (hB : l ≤ 2 → p < n → ¬ t → B) (hX : (l ≤ 2 → p < n → t) → X) :
    ((l : Int) ≤ 2 → (p < n → p < n ∧ (¬ t → B) ∧ (t → X)) ∧ (n ≤ p → X)) ∧ (2 < (l : Int) → X) :=
  ⟨fun h => ⟨fun g => ⟨g, hB (by omega) g, fun q => hX fun _ _ => q⟩, fun g => hX fun _ k => by omega⟩, fun h => hX fun k _ => by omega⟩
theorem exits3 {n l : Nat} {q t B X : Prop} (hq : ¬ q → 0 < n) (hB : l < 2 → ¬ q → ¬ t → B) (hX : (l < 2 → ¬ q → t) → X) :
    (¬ q → 0 < n ∧ (¬ t → ((l : Int) < 2 → B) ∧ (2 ≤ (l : Int) → X)) ∧ (t → X)) ∧ (q → X) :=
  ⟨fun h => ⟨hq h, fun g => ⟨fun k => hB (by omega) h g, fun k => hX fun m _ => by omega⟩, fun g => hX fun _ _ => g⟩, fun h => hX fun _ g => absurd h g⟩
theorem shape_cost : ∀ (n : Nat) (t : Tm), shape n t = true → costT t ≤ 4 * manyD n t
  | 0, t, h => by cases h
  | n + 1, t, h => by
    obtain ⟨h1, h2, h3⟩ := shape_eq h
    have hsz : t.val.size ≤ 2 := by simp only [nameOk, Bool.and_eq_true, decide_eq_true_eq] at h1; exact h1.1.2
    have key : ∀ l : List Tm, l.all (shape n) = true → costTs l ≤ 4 * sumN (manyD n) l := by
      intro l
      induction l with
      | nil => intro _; exact Nat.le_refl _
      | cons u r ih =>
        intro hl
        simp only [List.all_cons, Bool.and_eq_true] at hl
        have := shape_cost n u hl.1
        have := ih hl.2
        simp only [costTs, sumN]; omega
    have := key t.kids h3
    rw [costT_eq]
    show _ ≤ 4 * (1 + sumN (manyD n) t.kids)
    omega
theorem right_cost {t : Tm} (h : right t = true) : costT t ≤ 48 := by
  simp only [right, Bool.and_eq_true, decide_eq_true_eq] at h
  have := shape_cost 4 t h.1
  omega
theorem tmRd_cost (s : ByteArray) : costT (tmT (tmRd s).1) ≤ 48 := by
  cases h : (tmRd s).2 with
  | true => exact right_cost (tmRd_ok h).1
  | false =>
    have e : (tmRd s).1 = zT := by rw [tmRd_rd] at h ⊢; exact rd_zero' h
    rw [e]; decide
theorem costTs_map {α : Type} (f : α → Tm) (h : ∀ x, costT (f x) ≤ 48) : ∀ l : List α, costTs (l.map f) ≤ 48 * l.length
  | [] => Nat.le_refl _
  | x :: l => by have := h x; have := costTs_map f h l; simp only [List.map_cons, costTs, List.length_cons]; omega
theorem scanT_cost (p : ByteArray) : costT (tmT (scanT p)) ≤ 48 := by
  unfold scanT
  split
  · exact tmRd_cost _
  · decide
theorem sum_cost {k : Int} {a b : TP} {ts : List Tm} {ns : List Int} {bd : Int} {sc : Bool} (ha : costT (tmT a) ≤ 48) (hb : costT (tmT b) ≤ 48) (h1 : ts.length ≤ 10) (h2 : costTs ts ≤ 480) (h3 : ns.length ≤ 10) : costA (k, a, b, ts, ns, bd, sc) ≤ 1048576 := by
  have ha : costT (.mk a.1 a.2) ≤ 48 := ha
  have hb : costT (.mk b.1 b.2) ≤ 48 := hb
  unfold costA
  dsimp only
  omega
theorem cutA_le (s sep : ByteArray) : (cutA s sep).size ≤ s.size := by
  show (Go.Lib.cut (bl' s) (bl' sep)).1.length ≤ (bl' s).length
  unfold Go.Lib.cut
  split
  · rw [List.length_take]; omega
  · exact Nat.le_refl _
theorem cutR_le (s sep : ByteArray) : (cutR s sep).size ≤ s.size := by
  show (Go.Lib.cut (bl' s) (bl' sep)).2.1.length ≤ (bl' s).length
  unfold Go.Lib.cut
  split
  · simp only [List.length_drop]; omega
  · exact Nat.zero_le _
theorem trim_le (l p : List UInt8) : (Go.Lib.trimPrefix l p).length ≤ l.length := by
  unfold Go.Lib.trimPrefix
  split
  · rw [List.length_drop]; omega
  · exact Nat.le_refl _
theorem pq_le {c : UInt8} {s : ByteArray} (i : Nat) : ((cut c s).getD i ByteArray.empty).size ≤ s.size := by
  by_cases h : i < (cut c s).length
  · exact cut_le (getD_mem _ h)
  · rw [List.getD_eq_getElem?_getD, List.getElem?_eq_none (by omega)]
    exact Nat.zero_le _
theorem exits4 {a b x : Int} {B X : Prop} (hB : a < b → x ≤ 4 → B) (hX : ¬ (a < b ∧ x ≤ 4) → X) : (a < b → (x ≤ 4 → B) ∧ (4 < x → X)) ∧ (b ≤ a → X) :=
  ⟨fun h => ⟨hB h, fun g => hX (by omega)⟩, fun h => hX (by omega)⟩
theorem tl60 {s : ByteArray} : s.toList = [60] ↔ s = mkB [60] := by
  have h0 : (mkB [60]).toList = [60] := by rw [ByteArray.toList_eq]; rfl
  exact ⟨fun h => tl_inj.1 (h.trans h0.symm), fun h => by rw [h, h0]⟩
theorem numsS_len (w : List ByteArray) : (numsS w).length = w.length := List.length_map ..
theorem timesS_len (w : List ByteArray) : (timesS w).length = w.length := List.length_map ..
theorem numsI_len (w : List ByteArray) : (numsI w).length = w.length := List.length_map ..
theorem timesI_len (w : List ByteArray) : (timesI w).length = w.length := List.length_map ..
theorem z_atom {q : Atm × Bool} (h : q = (zA, false)) : 0 = q.1.1 ∧ { data := #[] } = q.1.2.1.1 ∧ q.1.2.1.2 = [] ∧ { data := #[] } = q.1.2.2.1.1 ∧ q.1.2.2.1.2 = [] ∧ q.1.2.2.2.1 = [] ∧ q.1.2.2.2.2.1 = [] ∧ 0 = q.1.2.2.2.2.2.1 ∧ q.1.2.2.2.2.2.2 = false ∧ q.2 = false := by
  subst h; exact ⟨rfl, rfl, rfl, rfl, rfl, rfl, rfl, rfl, rfl, rfl⟩
theorem z_lit {q : Ltr × Bool} (h : q = ((zA, false), false)) : 0 = q.1.1.1 ∧ { data := #[] } = q.1.1.2.1.1 ∧ q.1.1.2.1.2 = [] ∧ { data := #[] } = q.1.1.2.2.1.1 ∧ q.1.1.2.2.1.2 = [] ∧ q.1.1.2.2.2.1 = [] ∧ q.1.1.2.2.2.2.1 = [] ∧ 0 = q.1.1.2.2.2.2.2.1 ∧ q.1.1.2.2.2.2.2.2 = false ∧ q.1.2 = false ∧ q.2 = false := by
  subst h; exact ⟨rfl, rfl, rfl, rfl, rfl, rfl, rfl, rfl, rfl, rfl, rfl⟩
theorem nilT' : Is (AV.sl 0 2 fun i j => eT (Tree.mk ByteArray.empty []) j) (terms []) := (Enc.terms [] []).2 rfl
theorem nilI' : Is (AV.sl 0 1 fun i j => i64 0) (ints []) := (Enc.ints [] []).2 rfl
theorem pushN {l m : List Tm} {x : Nat} {t : TP} (hl : l.length = x) (hm : m = l ++ [tmT t]) : IsO (.arr (x + 1) 2 (joinC x (cT l) (rowsCell [[st t.1, terms t.2]]))) (arT m) := by
  subst hl; subst hm; exact terms_push
theorem pushN0 {l m : List Tm} {x : Nat} {c : Nat → Nat → AV} (hl : l.length = x) (hm : m = l ++ [tmT zT]) : IsO (.arr (x + 1) 2 (joinC x (cT l) (rowsCell [[st { data := #[] }, AV.lit 0 1 c]]))) (arT m) := by
  subst hl; subst hm
  exact IsO_join EncN.eT (IsR_row EncN.eT (Is_rowT (terms_nil.2 rfl)))
theorem pushI {l m : List Int} {x : Nat} {v : Int} (hl : l.length = x) (hm : m = l ++ [v]) : IsO (.arr (x + 1) 1 (joinC x (cI l) (rowsCell [[i64 v]]))) (arI m) := by
  subst hl; subst hm; exact ints_push
theorem allN {l m : List Tm} {x : Nat} (hl : l.length = x) (hm : l = m) : Is (.sl x 2 (cT l)) (terms m) := by
  subst hl; subst hm; exact (terms_take (Nat.le_refl _)).2 List.take_length
theorem allIn {l m : List Int} {x : Nat} (hl : l.length = x) (hm : l = m) : Is (.sl x 1 (cI l)) (ints m) := by
  subst hl; subst hm; exact (ints_take (Nat.le_refl _)).2 List.take_length
end Pl
namespace Cg
open Go Go.Proofs Pl
set_option maxHeartbeats 8000000 in
theorem g_l4Word (s : ByteArray) (a : Nat) (h1 : SzA s ∧ a ≤ s.size) : GoalW Tryz.prog [] (A_l4Word s a) K_l4Word.1 K_l4Word.2 ((s, a)) := GoalW.of (vc_l4Word s a) (by
  simp (maxSteps := 2000000) [-List.getD_eq_getElem?_getD, -List.mem_cons, -Bool.forall_bool, -Bool.exists_bool, and_assoc, peta, tl_inj, ex_1, ex_2, ex_3, ex_4, ex_5, ex_6, ex_7, ex_8, ex_9, ey_2, ey_3, ey_4, ey_5, ey_6, ey_7, ey_8, ey_9]
  simp only [byte_at]
  obtain ⟨hs, ha⟩ := h1
  have hs : s.size ≤ 1048576 := hs
  have hl : (bl' s).length = s.size := rfl
  refine ⟨⟨a, ha, rfl, rfl⟩, fun x hx he => exits (wl ((bl' s).drop x) = 0) (fun g a b => ⟨x + 1, by omega, by rw [← wl_step (by omega) (low_yes a b)]; exact he, by omega, wrap_small (by omega) (by omega)⟩) (fun g b => wl_stop (by omega) (low_no2 b)) (fun g b => wl_stop (by omega) (low_no1 b)) (fun g => wl_end (by omega)) fun h => by omega⟩)
theorem k_l4Word : SoundC Tryz.prog K_l4Word.1 K_l4Word.2 := sound_ofW hm CtxOK.nil (fun ((s, a) : ByteArray × Nat) => A_l4Word s a) (by kernel_rfl) fun ((s, a) : ByteArray × Nat) hb => g_l4Word s a hb
set_option maxHeartbeats 8000000 in
theorem g_l4Read (n : Nat) (s : ByteArray) (a d : Nat) (h1 : (SzA s ∧ a ≤ s.size ∧ d ≤ 4) ∧ d < n + 1) : GoalW Tryz.prog [K_l4Word, K_l4Read n] (A_l4Read s a d) (K_l4Read (n + 1)).1 (K_l4Read (n + 1)).2 ((s, a, d)) := GoalW.of (vc_l4Read n s a d) (by
  simp (maxSteps := 2000000) [-List.getD_eq_getElem?_getD, -List.mem_cons, -Bool.forall_bool, -Bool.exists_bool, and_assoc, peta, tl_inj, ex_1, ex_2, ex_3, ex_4, ex_5, ex_6, ex_7, ex_8, ex_9, ey_2, ey_3, ey_4, ey_5, ey_6, ey_7, ey_8, ey_9]
  simp only [byte_at, b40, b41, b44]
  obtain ⟨⟨hs, ha, h4⟩, hn⟩ := h1
  have hs : s.size ≤ 1048576 := hs
  have hl : (bl' s).length = s.size := rfl
  have hw := wl_le ((bl' s).drop a)
  rw [List.length_drop, hl] at hw
  have hwn := wname_size ((bl' s).drop a)
  have hx := ext_wname s a
  refine ⟨a, rfl, hs, ha, by omega, by omega, fun h0 => ?_, fun h0 => ?_⟩
  · rw [rdT_bad (.inl (by unfold badW; rw [if_pos rfl]; exact decide_eq_true (by omega)))]
    exact ⟨hx, rfl, rfl⟩
  have hb : badW true (wname ((bl' s).drop a)) = false := by unfold badW; rw [if_pos rfl]; exact decide_eq_false (by omega)
  refine ⟨fun hd => ?_, fun hd => ?_⟩
  · rw [rdT_bad (.inr (by omega))]
    exact ⟨hx, rfl, rfl⟩
  have hdd := List.drop_drop (l := bl' s) (i := wl ((bl' s).drop a)) (j := a)
  have po : ∀ q : Nat, q ≤ s.size → posn s (some ((bl' s).drop q)) = (q : Int) := fun q hq => by
    show ((s.size - ((bl' s).drop q).length : Nat) : Int) = _
    rw [List.length_drop, hl]
    omega
  refine ⟨fun hge => ?_, fun hlt => ⟨by omega, by omega, fun h40 => ?_, fun h40 => ⟨⟨a + wl ((bl' s).drop a), by omega, [], by simp, by omega, ?_, by omega, rfl, hx, rfl⟩, fun p ks hp hk hd0 hR => ?_⟩⟩⟩
  · rw [rdT_plain (by omega) hb (by rw [hdd]; exact openT_end (by omega))]
    exact ⟨hx, rfl, by rw [hdd, po _ (by omega)]; omega⟩
  · rw [rdT_plain (by omega) hb (by rw [hdd]; exact openT_no (by omega) h40)]
    exact ⟨hx, rfl, by rw [hdd, po _ (by omega)]; omega⟩
  · rw [rdT_open (by omega) hb (by rw [hdd]; exact openT_yes (by omega) h40), hdd]; rfl
  generalize rdT true d ((bl' s).drop a) = R at *
  generalize wname ((bl' s).drop a) = v at *
  have fail : R = failT true (v, ks) → v = R.1.1 ∧ ks = R.1.2 ∧ -1 = posn s R.2 := fun h => by rw [h]; exact ⟨rfl, rfl, rfl⟩
  refine exits2 (fun k1 k2 k3 => ?_) fun k => ⟨fun g => ?_, fun g => ⟨g, fun c => ?_, fun c => ?_⟩⟩
  · have hc := drop_cons (bl' s) (x := p) (by omega)
    rw [hc] at hR
    refine ⟨p + 1, wrap_small (by omega) (by omega), d - 1, by rw [wrap_small (by omega) (by omega)]; omega, hs, by omega, by omega, by omega, ?_⟩
    rcases posn_cases s true (d - 1) (p + 1) (by omega) with ⟨e1, e2⟩ | ⟨q, q1, q2, q3, q4, q5⟩
    · rw [e2]
      refine ⟨fun _ => fail (by rw [← hR, kidsR_none (by omega) k3 e1]), fun h => by omega⟩
    · rw [q4, Int.toNat_natCast]
      rw [kidsR_some (by omega) k3 q3] at hR
      have adv : sepOk true ((bl' s).drop q) = true → (ks.length + 1) * 40 ≤ 70368744177664 ∧ ∃ a, a ≤ s.size ∧ ∃ x : List Tm, x.length ≤ 3 ∧ 0 < d ∧ kidsR (rdT true (d - 1)) true v (3 - x.length) x (List.drop a (bl' s)) = R ∧ 3 - x.length < 3 - ks.length ∧ (q : Int) = (a : Int) ∧ ks.length + 1 = x.length ∧
          IsO (AObj.arr (ks.length + 1) 2 (joinC ks.length (cT ks) (rowsCell [[st (rdT true (d - 1) (List.drop (p + 1) (bl' s))).fst.fst, terms (rdT true (d - 1) (List.drop (p + 1) (bl' s))).fst.snd]]))) (arT x) := fun h => by
        rw [if_pos h] at hR
        refine ⟨by omega, q, q2, ks ++ [tmT (rdT true (d - 1) (List.drop (p + 1) (bl' s))).1], by rw [List.length_append]; simp; omega, hd0, ?_, by rw [List.length_append]; simp; omega, rfl, by simp, terms_push⟩
        rw [← hR, List.length_append]; rfl
      refine ⟨fun h => by omega, fun _ => ⟨fun h => ?_, fun h => ⟨by omega, by omega, fun n44 => ⟨by omega, by omega, fun n41 => ?_, fun y41 => adv ?_⟩, fun y44 => adv ?_⟩⟩⟩
      · rw [List.drop_of_length_le (show (bl' s).length ≤ q by omega), if_neg (by decide)] at hR
        exact fail hR.symm
      · have e := drop_cons (bl' s) (x := q) (by omega)
        rw [if_neg (by rw [e]; show ¬ (!true || decide ((bl' s).getD q 0 = 44) || decide ((bl' s).getD q 0 = 41)) = true; rw [decide_eq_false n44, decide_eq_false n41]; simp)] at hR
        exact fail hR.symm
      · rw [drop_cons (bl' s) (x := q) (by omega), y41]; exact sep41 _ _
      · rw [drop_cons (bl' s) (x := q) (by omega), y44]; exact sep44 _ _
  · rw [List.drop_of_length_le (by omega), kidsR_nil] at hR
    exact fail hR.symm
  · rw [drop_cons (bl' s) (x := p) (by omega)] at hR
    rw [kidsR_zero (by have : ¬ ks.length ≤ 2 := fun h => c (k h g)
                       omega) c] at hR
    exact fail hR.symm
  · rw [drop_cons (bl' s) (x := p) (by omega), c, kidsR_close] at hR
    rw [← hR, po _ (by omega), wrap_small (by omega) (by omega)]
    exact ⟨rfl, rfl, by omega⟩)
theorem k_l4Read (n : Nat) : SoundC Tryz.prog (K_l4Read n).1 (K_l4Read n).2 := by
  induction n with
  | zero => exact sound_of hm CtxOK.nil (fun _ => []) (by kernel_rfl) fun x h => absurd h.2 (Nat.not_lt_zero _)
  | succ n ih => exact sound_ofW hm ((CtxOK.nil.and (K := K_l4Read n) ih).and k_l4Word) (fun ((s, a, d) : ByteArray × Nat × Nat) => A_l4Read s a d) (by kernel_rfl) fun ((s, a, d) : ByteArray × Nat × Nat) hb => g_l4Read n s a d hb
theorem k_lRead : SoundC Tryz.prog K_lRead.1 K_lRead.2 := SoundC.famI (fun x : ByteArray × Nat × Nat => x.2.2) fun n => k_l4Read n
set_option maxHeartbeats 8000000 in
theorem g_sTermText (x : TP) (h1 : SmT (.mk x.1 x.2)) : GoalW Tryz.prog [K_l4Right, K_lText] ([]) K_sTermText.1 K_sTermText.2 (x) := GoalW.of (vc_sTermText x) (by
  simp (maxSteps := 2000000) [-List.getD_eq_getElem?_getD, -List.mem_cons, -Bool.forall_bool, -Bool.exists_bool, and_assoc, peta, tl_inj, ex_1, ex_2, ex_3, ex_4, ex_5, ex_6, ex_7, ex_8, ex_9, ey_2, ey_3, ey_4, ey_5, ey_6, ey_7, ey_8, ey_9]
  refine ⟨h1, fun h => ?_, fun h => ⟨h1, ?_⟩⟩
  · rw [h]; rfl
  · rw [h, tx_yes rfl]; rfl)
theorem k_sTermText : SoundC Tryz.prog K_sTermText.1 K_sTermText.2 := sound_ofW hm ((CtxOK.nil.and k_lText).and k_l4Right) (fun (x : TP) => []) (by kernel_rfl) fun (x : TP) hb => g_sTermText x hb
set_option maxHeartbeats 8000000 in
theorem g_sTermRead (s : ByteArray) (h1 : SzA s) : GoalW Tryz.prog [K_lRead, K_sTermText] ([]) K_sTermRead.1 K_sTermRead.2 (s) := GoalW.of (vc_sTermRead s) (by
  simp (maxSteps := 2000000) [-List.getD_eq_getElem?_getD, -List.mem_cons, -Bool.forall_bool, -Bool.exists_bool, and_assoc, peta, tl_inj, ex_1, ex_2, ex_3, ex_4, ex_5, ex_6, ex_7, ex_8, ex_9, ey_2, ey_3, ey_4, ey_5, ey_6, ey_7, ey_8, ey_9]
  have hs : s.size ≤ 1048576 := h1
  refine ⟨0, rfl, 4, rfl, hs, Nat.zero_le _, by omega, ?_⟩
  rw [List.drop_zero]
  have hz : ∀ y, tmRd s = (zT, y) → y = false → { data := #[] } = (tmRd s).fst.fst ∧ (tmRd s).fst.snd = [] ∧ (tmRd s).snd = false := fun y e hy => by rw [e]; exact ⟨rfl, rfl, hy⟩
  have e := tmRd_S (s := s) rfl
  refine ⟨fun h => hz _ (by rw [e, if_neg fun g => h g.1]) rfl, fun h => ⟨fun g => hz _ (by rw [e, if_neg fun q => q.2.1 ((tl_inj).1 (by rw [g, ByteArray.toList_eq]; rfl))]) rfl, fun g => ?_⟩⟩
  have hc : costT (.mk (rdT true 4 (bl' s)).1.1 (rdT true 4 (bl' s)).1.2) ≤ s.size := by
    rcases posn_cases s true 4 0 (Nat.zero_le _) with ⟨_, e2⟩ | ⟨q, _, q2, _, _, q5⟩
    · rw [List.drop_zero] at e2; omega
    · rw [List.drop_zero] at q5
      have : costT (tmT (rdT true 4 (bl' s)).1) ≤ s.size := by omega
      exact this
  refine ⟨by omega, fun q => hz _ (by rw [e, if_neg fun r => q r.2.2]) rfl, fun q => ?_⟩
  rw [e, if_pos ⟨h, fun e0 => g (by rw [e0, ByteArray.toList_eq]; rfl), q⟩]
  exact ⟨rfl, rfl, rfl⟩)
theorem k_sTermRead : SoundC Tryz.prog K_sTermRead.1 K_sTermRead.2 := sound_ofW hm ((CtxOK.nil.and k_sTermText).and k_lRead) (fun (s : ByteArray) => []) (by kernel_rfl) fun (s : ByteArray) hb => g_sTermRead s hb
set_option maxHeartbeats 8000000 in
theorem g_l6Scan (s : ByteArray) (h1 : SzA s) : GoalW Tryz.prog [K_l16Cut, K_l16Num, K_sTermRead] (A_l6Scan s) K_l6Scan.1 K_l6Scan.2 (s) := GoalW.of (vc_l6Scan s) (by
  simp (maxSteps := 2000000) [-List.getD_eq_getElem?_getD, -List.mem_cons, -Bool.forall_bool, -Bool.exists_bool, and_assoc, peta, tl_inj, ex_1, ex_2, ex_3, ex_4, ex_5, ex_6, ex_7, ex_8, ex_9, ey_2, ey_3, ey_4, ey_5, ey_6, ey_7, ey_8, ey_9]
  have hs : s.size ≤ 1048576 := h1
  have hp := cut_ne 32 s
  refine ⟨32, rfl, by omega, ⟨0, by omega, rfl, rfl, rfl, rfl, rfl, rfl, rfl⟩, fun x hx => ?_⟩
  have hlen : (cut 32 s).length ≤ s.size + 1 := cut_len 32 s
  rw [wrap_small (x := (x : Int) + 2) (by omega) (by omega)]
  have hl1 : (numsS ((cut 32 s).take x)).length = x := by rw [numsS_len, List.length_take]; omega
  have hl2 : (timesS ((cut 32 s).take x)).length = x := by rw [timesS_len, List.length_take]; omega
  refine exits4 (fun k1 k2 => ?_) fun k => ?_
  · have q1 := pq_le (c := 32) (s := s) x
    have q2 := fun i => pq_le (c := 42) (s := (cut 32 s).getD x ByteArray.empty) i
    have q3 := cut_ne 42 ((cut 32 s).getD x ByteArray.empty)
    have hsn := take_snoc ByteArray.empty (l := cut 32 s) (i := x) (by omega)
    have hm2 : timesS ((cut 32 s).take (x + 1)) = timesS ((cut 32 s).take x) ++ [(num ((cut 42 ((cut 32 s).getD x ByteArray.empty)).getD 0 ByteArray.empty)).1] := by
      unfold timesS; rw [hsn, List.map_append]; rfl
    refine ⟨by omega, 42, rfl, by omega, q3, by have := q2 0; omega, fun h1 => ⟨by omega, by omega, by have := q2 1; omega, by omega, by omega, by omega, by omega, by omega, by omega, wrap_small (by omega) (by omega), pushN hl1 ?_, pushI hl2 hm2⟩, fun h1 => ⟨by omega, by omega, by omega, by omega, by omega, by omega, wrap_small (by omega) (by omega), pushN0 hl1 ?_, pushI hl2 hm2⟩⟩
    · unfold numsS; rw [hsn, List.map_append]
      show _ ++ [tmT (scanT _)] = _
      unfold scanT
      rw [if_pos (by omega)]; rfl
    · unfold numsS; rw [hsn, List.map_append]
      show _ ++ [tmT (scanT _)] = _
      unfold scanT
      rw [if_neg (by omega)]
  · have hxm : x = min ((cut 32 s).length - 2) 5 := by omega
    refine ⟨fun h2 => ?_, fun h2 => ⟨by omega, by omega, rfl, allN hl1 (by rw [hxm]), allIn hl2 (by rw [hxm]), ?_, ?_⟩⟩
    · have e2 : IntKind.i64.wrap (((cut 32 s).length : Int) - 2) = (((cut 32 s).length - 2 : Nat) : Int) := by rw [wrap_small (by omega) (by omega)]; omega
      have e1 : IntKind.i64.wrap (((cut 32 s).length : Int) - 1) = (((cut 32 s).length - 1 : Nat) : Int) := by rw [wrap_small (by omega) (by omega)]; omega
      rw [e1, e2]
      simp only [Int.toNat_natCast]
      have := pq_le (c := 32) (s := s) ((cut 32 s).length - 1)
      refine ⟨by omega, by omega, by omega, by omega, by omega, by omega, by omega, by omega, by omega, rfl, allN hl1 (by rw [hxm]), allIn hl2 (by rw [hxm]), ?_, ?_⟩
      · unfold boundS; rw [if_pos (by omega)]; rfl
      · unfold strictS
        rw [decide_eq_true (by omega), Bool.true_and, Bool.eq_iff_iff, beq_iff_eq, decide_eq_true_eq, tl60]; rfl
    · unfold boundS; rw [if_neg (by omega)]
    · unfold strictS; rw [decide_eq_false (by omega)]; rfl)
set_option maxHeartbeats 8000000 in
theorem g_sAtomRead (s : ByteArray) (h1 : SzA s) : GoalW Tryz.prog [K_l16Cut, K_l6Scan, K_sTermRead, K_sAtomText] ([]) K_sAtomRead.1 K_sAtomRead.2 (s) := GoalW.of (vc_sAtomRead s) (by
  simp (maxSteps := 2000000) [-List.getD_eq_getElem?_getD, -List.mem_cons, -Bool.forall_bool, -Bool.exists_bool, and_assoc, peta, tl_inj, ex_1, ex_2, ex_3, ex_4, ex_5, ex_6, ex_7, ex_8, ex_9, ey_2, ey_3, ey_4, ey_5, ey_6, ey_7, ey_8, ey_9]
  have hs : s.size ≤ 1048576 := h1
  have hem : s.toList = [] ↔ s = ByteArray.empty := ⟨fun h => tl_inj.1 (by rw [h, ByteArray.toList_eq]; rfl), fun h => by rw [h, ByteArray.toList_eq]; rfl⟩
  rw [hem]
  have e : atomReadS s = if ¬ s = ByteArray.empty ∧ tx (atomRight (atomScan s)) (atomB (atomScan s)) = s then (atomScan s, true) else (zA, false) := rfl
  have q := fun i => pq_le (c := 61) (s := s) i
  have c0 : costA (sumScan s) ≤ 1048576 := sum_cost (by decide) (by decide) (by rw [numsS_len, List.length_take]; omega) (by have := costTs_map _ scanT_cost ((cut 32 s).take (min ((cut 32 s).length - 2) 5)); rw [List.length_take] at this; unfold numsS; omega) (by rw [timesS_len, List.length_take]; omega)
  have c1 : costA (eqScan s) ≤ 1048576 := sum_cost (tmRd_cost _) (tmRd_cost _) (Nat.zero_le _) (Nat.zero_le _) (Nat.zero_le _)
  refine ⟨61, rfl, by omega, hs, fun h2 => ⟨32, rfl, by omega, fun h3 => ?_, fun h3 => ?_⟩, fun h2 => ?_⟩
  · have ea : atomScan s = eqScan s := by unfold atomScan; rw [if_pos ⟨by omega, by omega⟩]
    refine ⟨by omega, by have := q 0; omega, by omega, by omega, by have := q 1; omega, fun h => z_atom (by rw [e, if_neg fun g => g.1 h]), fun h => ⟨c1, fun g => z_atom (by rw [e, if_neg fun k => g (by have := k.2; rw [ea] at this; exact this)]), fun g => ?_⟩⟩
    rw [e, if_pos ⟨h, by rw [ea]; exact g⟩, ea]
    exact ⟨rfl, rfl, rfl, rfl, rfl, rfl, rfl, rfl, rfl, rfl⟩
  all_goals
    have ea : atomScan s = sumScan s := by unfold atomScan; rw [if_neg (by omega)]
    refine ⟨fun h => z_atom (by rw [e, if_neg fun g => g.1 h]), fun h => ⟨[], nilT', [], nilT', c0, fun g => z_atom (by rw [e, if_neg fun k => g (by have := k.2; rw [ea] at this; exact this)]), fun g => ?_⟩⟩
    rw [e, if_pos ⟨h, by rw [ea]; exact g⟩, ea]
    exact ⟨rfl, rfl, nilT', rfl, nilT', rfl, rfl, rfl, rfl, rfl⟩)
set_option maxHeartbeats 8000000 in
theorem g_sLitRead (s : ByteArray) (h1 : SzA s) : GoalW Tryz.prog [K_sAtomRead] ([]) K_sLitRead.1 K_sLitRead.2 (s) := GoalW.of (vc_sLitRead s) (by
  simp (maxSteps := 2000000) [-List.getD_eq_getElem?_getD, -List.mem_cons, -Bool.forall_bool, -Bool.exists_bool, and_assoc, peta, tl_inj, ex_1, ex_2, ex_3, ex_4, ex_5, ex_6, ex_7, ex_8, ex_9, ey_2, ey_3, ey_4, ey_5, ey_6, ey_7, ey_8, ey_9]
  have hs : s.size ≤ 1048576 := h1
  have hn : (s.extract 0 4).toList = [110, 111, 116, 32] ↔ mkB ((bl' s).take 4) = notSgn := by
    have h0 : notSgn.toList = [110, 111, 116, 32] := by rw [ByteArray.toList_eq]; rfl
    have h1 : s.extract 0 4 = mkB ((bl' s).take 4) := ext_mk s 0 4
    rw [h1, ← h0, tl_inj]
  rw [hn, ext_rest]
  have yes : isNot s = true → litReadS s = litOf true (atomReadS (mkB ((bl' s).drop 4))) := fun h => by unfold litReadS; rw [if_pos h]
  have no : ¬ isNot s = true → litReadS s = litOf false (atomReadS s) := fun h => by unfold litReadS; rw [if_neg h]
  refine ⟨fun h4 => ⟨by omega, fun g => ?_, fun g => ?_⟩, fun h4 => ?_⟩
  · have e := yes (by unfold isNot; rw [decide_eq_true (by omega), decide_eq_true g]; rfl)
    refine ⟨by omega, by omega, fun h => z_lit ?_, fun h => ?_⟩
    · rw [e]; unfold litOf; rw [if_neg (by rw [h]; simp)]
    · rw [e]; unfold litOf; rw [if_pos h]
      exact ⟨rfl, rfl, rfl, rfl, rfl, rfl, rfl, rfl, rfl, rfl, rfl⟩
  · have e := no (by unfold isNot; rw [decide_eq_false g, Bool.and_false]; simp)
    refine ⟨hs, fun h => z_lit ?_, fun h => ?_⟩
    · rw [e]; unfold litOf; rw [if_neg (by rw [h]; simp)]
    · rw [e]; unfold litOf; rw [if_pos h]
      exact ⟨rfl, rfl, rfl, rfl, rfl, rfl, rfl, rfl, rfl, rfl, rfl⟩
  · have e := no (by unfold isNot; rw [decide_eq_false (by omega), Bool.false_and]; simp)
    refine ⟨hs, fun h => z_lit ?_, fun h => ?_⟩
    · rw [e]; unfold litOf; rw [if_neg (by rw [h]; simp)]
    · rw [e]; unfold litOf; rw [if_pos h]
      exact ⟨rfl, rfl, rfl, rfl, rfl, rfl, rfl, rfl, rfl, rfl, rfl⟩)
theorem k_l6Scan : SoundC Tryz.prog K_l6Scan.1 K_l6Scan.2 := sound_ofW hm (((CtxOK.nil.and k_sTermRead).and k_l16Num).and k_l16Cut) (fun (s : ByteArray) => A_l6Scan s) (by kernel_rfl) fun (s : ByteArray) hb => g_l6Scan s hb
theorem k_sAtomRead : SoundC Tryz.prog K_sAtomRead.1 K_sAtomRead.2 := sound_ofW hm ((((CtxOK.nil.and k_sAtomText).and k_sTermRead).and k_l6Scan).and k_l16Cut) (fun (s : ByteArray) => []) (by kernel_rfl) fun (s : ByteArray) hb => g_sAtomRead s hb
theorem k_sLitRead : SoundC Tryz.prog K_sLitRead.1 K_sLitRead.2 := sound_ofW hm (CtxOK.nil.and k_sAtomRead) (fun (s : ByteArray) => []) (by kernel_rfl) fun (s : ByteArray) hb => g_sLitRead s hb
end Cg

/-
  The codes' contracts: terms, atoms and literals that are read, and whose memory they lie in. No condition.
-/
set_option linter.unusedVariables false
set_option linter.unusedSimpArgs false
set_option maxRecDepth 100000
namespace Pl
open Go Cg
theorem subT_get {t : Tm} {i j : Nat} (hi : i < t.kids.length) (hj : j < 2) : subT t i j = eT (t.kids.getD i dT) j := by
  rw [eT_tr _ j hj]; exact subTr_get dT t i hi j
theorem IsX_eTn : ∀ (n : Nat) (t : Tm), t.many ≤ n → ∀ j, j < 2 → IsX (eT t j) (eT t j)
  | 0, t, h, _, _ => absurd t.many_pos (by omega)
  | n + 1, t, h, j, hj => by
    match j, hj with
    | 0, _ => exact (rfl : Value.string t.val = Value.string t.val)
    | 1, _ =>
      refine ⟨rfl, rfl, fun i hi j hj => ?_⟩
      rw [subT_get hi hj]
      exact IsX_eTn n _ (by have := Tree.many_kid (t := t) (getD_mem dT hi); omega) j hj
theorem IsX_eT (t : Tm) (j : Nat) (hj : j < 2) : IsX (eT t j) (eT t j) := IsX_eTn t.many t (Nat.le_refl _) j hj
theorem IsX_slT {n m : Nat} {c c' : Nat → Nat → AV} (ks : List Tm) (hn : n = ks.length) (hm : m = ks.length) (hc : ∀ i, i < ks.length → ∀ j, j < 2 → c i j = eT (ks.getD i dT) j) (hc' : ∀ i, i < ks.length → ∀ j, j < 2 → c' i j = eT (ks.getD i dT) j) : IsX (.sl n 2 c) (.sl m 2 c') := by
  subst hn; subst hm
  exact ⟨rfl, rfl, fun i hi j hj => by rw [hc i hi j hj, hc' i hi j hj]; exact IsX_eT _ j hj⟩
@[simp] theorem xrT_self {l : List Tm} : IsO (xrT l) (xrT l) := ⟨rfl, rfl, fun i hi j hj => IsX_eT _ j hj⟩
theorem xrT_eq {l m : List Tm} (h : l = m) : IsO (xrT l) (xrT m) := by rw [h]; exact xrT_self
theorem xrT_push {l m : List Tm} {x : Nat} {v : ByteArray} {ks : List Tm} {a : AV} (hl : l.length = x) (hm : m = l ++ [Tree.mk v ks]) (ha : IsX a (terms ks)) : IsO (.xarr (x + 1) 2 (joinC x (cT l) (rowsCell [[st v, a]]))) (xrT m) := by
  subst hl; subst hm
  refine ⟨rfl, by simp, fun i hi j hj => ?_⟩
  show IsX (joinC l.length (cT l) (rowsCell [[st v, a]]) i j) (eT ((l ++ [Tree.mk v ks]).getD i dT) j)
  unfold joinC
  by_cases h' : i < l.length
  · have e1 : (l ++ [Tree.mk v ks]).getD i dT = l.getD i dT := by simp only [List.getD_eq_getElem?_getD, List.getElem?_append_left h']
    rw [blt_true h', e1]
    exact IsX_eT _ j hj
  · have hi' : i = l.length := by omega
    subst hi'
    have e1 : (l ++ [Tree.mk v ks]).getD l.length dT = .mk v ks := by simp
    rw [blt_false h', e1, Nat.sub_self]
    match j, hj with
    | 0, _ => exact (rfl : Value.string v = Value.string v)
    | 1, _ =>
      cases a <;> first | exact ha.elim | skip
      obtain ⟨rfl, rfl, h⟩ := ha
      exact ⟨rfl, rfl, fun i hi j hj => by
        have := h i hi j hj
        rw [show subT (Tree.mk v ks) i j = eT (ks.getD i dT) j from subT_get (t := .mk v ks) hi hj]
        exact this⟩
theorem IsX_terms {ks : List Tm} : IsX (terms ks) (terms ks) := IsX_slT ks rfl rfl (fun _ _ _ _ => rfl) fun _ _ _ _ => rfl
end Pl
namespace Cg
open Go Go.Proofs Pl
set_option maxHeartbeats 8000000 in
theorem g_readTermO (n : Nat) (s : ByteArray) (d : Nat) (h1 : (SzA s ∧ d ≤ 4) ∧ d < n + 1) : GoalW Tryz.prog [K_iNameOk, K_HasPrefix, K_readTermO n] (A_readTermO s d) (K_readTermO (n + 1)).1 (K_readTermO (n + 1)).2 ((s, d)) := GoalW.of (vc_readTermO n s d) (by
  simp (maxSteps := 2000000) [-List.getD_eq_getElem?_getD, -List.mem_cons, -Bool.forall_bool, -Bool.exists_bool, and_assoc, peta, tl_inj, ex_1, ex_2, ex_3, ex_4, ex_5, ex_6, ex_7, ex_8, ex_9, ey_2, ey_3, ey_4, ey_5, ey_6, ey_7, ey_8, ey_9]
  simp only [byte_at, b40, b41, b44, pre_one]
  obtain ⟨⟨hs, h4⟩, hn⟩ := h1
  have hs : s.size ≤ 1048576 := hs
  have hl : (bl' s).length = s.size := rfl
  have hw := wl_le (bl' s)
  rw [hl] at hw
  have hwn := wname_size (bl' s)
  have hx : s.extract 0 (wl (bl' s)) = wname (bl' s) := by rw [ext_mk]; rfl
  refine ⟨⟨0, Nat.zero_le _, by rw [List.drop_zero]; omega, rfl, rfl⟩, fun x hx1 he => exits (wl ((bl' s).drop x) = 0) (fun g a b => ⟨x + 1, by omega, by rw [← wl_step (by omega) (low_yes a b)]; exact he, by omega, wrap_small (by omega) (by omega)⟩) (fun g b => wl_stop (by omega) (low_no2 b)) (fun g b => wl_stop (by omega) (low_no1 b)) (fun g => wl_end (by omega)) fun h0 => ?_⟩
  rw [h0, Nat.add_zero] at he
  subst he
  rw [hx, ext_rest]
  have fail0 : (badW false (wname (bl' s)) = true ∨ d = 0) → { data := #[] } = (rdT false d (bl' s)).1.1 ∧ (rdT false d (bl' s)).1.2 = [] ∧ { data := #[] } = restB (rdT false d (bl' s)).2 ∧ (rdT false d (bl' s)).2 = none ∧ (rdT false d (bl' s)).1.2 = [] := fun h => by
    rw [rdT_bad h]; exact ⟨rfl, rfl, rfl, rfl, rfl⟩
  refine ⟨hx1, fun h => fail0 (.inr (by omega)), fun h => ⟨by omega, fun hb => fail0 (.inl (by unfold badW; rw [if_neg (by simp), hb]; rfl)), fun hb => ?_⟩⟩
  have hbw : badW false (wname (bl' s)) = false := by unfold badW; rw [if_neg (by simp), hb]; rfl
  refine ⟨by omega, fun ho => ?_, fun ho => ⟨⟨(bl' s).drop (wl (bl' s)), by rw [List.length_drop]; omega, [], by simp, by omega, ?_, rfl, rfl, rfl⟩, fun r ks hp hk hd0 hR => ?_⟩⟩
  · rw [pre_one] at ho
    rw [rdT_plain (by omega) hbw ho]; exact ⟨rfl, rfl, rfl, rfl, rfl⟩
  · rw [pre_one] at ho
    rw [rdT_open (by omega) hbw ho]; rfl
  generalize rdT false d (bl' s) = R at *
  generalize wname (bl' s) = v at *
  have fail : R = failT false (v, ks) → { data := #[] } = R.1.1 ∧ R.1.2 = [] ∧ { data := #[] } = restB R.2 ∧ R.2 = none ∧ R.1.2 = [] := fun h => by rw [h]; exact ⟨rfl, rfl, rfl, rfl, rfl⟩
  refine exits3 (fun k => ?_) (fun k1 k2 k3 => ?_) fun k => ⟨by omega, fun g => ?_, fun g => ?_⟩
  · cases r with
    | nil => exact absurd (by rw [ByteArray.toList_eq]; rfl) k
    | cons c r => simp
  · have hr : ∃ c r', r = c :: r' := by
      cases r with
      | nil => exact absurd (by rw [ByteArray.toList_eq]; rfl) k2
      | cons c r => exact ⟨c, r, rfl⟩
    obtain ⟨c, r, rfl⟩ := hr
    have k3 : ¬ c = 41 := k3
    have hex : (mkB (c :: r)).extract 1 (c :: r).length = mkB r := by rw [ext_mk]; simp [bl_mk]
    simp only [List.length_cons] at hp ⊢
    simp only [List.length_cons] at hex
    rw [hex]
    refine ⟨by omega, mkB r, by show r.length ≤ 1048576; omega, d - 1, by omega, by omega, rfl, by rw [wrap_small (by omega) (by omega)]; omega, ?_⟩
    simp only [bl_mk]
    refine ⟨fun h => ?_, fun h => ?_⟩
    · rw [kidsR_none (by omega) k3 h] at hR; exact fail hR.symm
    · obtain ⟨b, hb⟩ := Option.isSome_iff_exists.1 h
      rw [kidsR_some (by omega) k3 hb, if_pos (by unfold sepOk; split <;> rfl)] at hR
      obtain ⟨j, j1, j2, j3⟩ := rdT_good false _ _ _ hb
      refine ⟨by omega, b, by rw [j2, List.length_drop]; omega, ks ++ [tmT (rdT false (d - 1) r).1], by rw [List.length_append]; simp; omega, hd0, ?_, by rw [List.length_append]; simp; omega, by rw [hb]; rfl, by simp, xrT_push rfl rfl IsX_terms⟩
      rw [← hR, List.length_append]; rfl
  · refine fail ?_
    rw [← hR]
    cases r with
    | nil => exact kidsR_nil _
    | cons c r =>
      have hc : ¬ c = 41 := fun e => by subst e; cases g
      refine kidsR_zero ?_ hc
      have : ¬ ks.length < 2 := fun h => hc (k h (by rw [ByteArray.toList_eq]; intro h; cases h))
      omega
  · cases r with
    | nil => cases g
    | cons c r =>
      have hc : c = 41 := by simpa using g
      subst hc
      rw [kidsR_close] at hR
      rw [← hR]
      have hex : (mkB (41 :: r)).extract 1 (41 :: r).length = mkB r := by rw [ext_mk]; simp [bl_mk]
      exact ⟨by simp; omega, rfl, rfl, hex, rfl, xrT_self⟩)
theorem k_readTermO (n : Nat) : SoundC Tryz.prog (K_readTermO n).1 (K_readTermO n).2 := by
  induction n with
  | zero => exact sound_of hm CtxOK.nil (fun _ => []) (by kernel_rfl) fun x h => absurd h.2 (Nat.not_lt_zero _)
  | succ n ih => exact sound_ofW hm (((CtxOK.nil.and (K := K_readTermO n) ih).and k_HasPrefix).and k_iNameOk) (fun ((s, d) : ByteArray × Nat) => A_readTermO s d) (by kernel_rfl) fun ((s, d) : ByteArray × Nat) hb => g_readTermO n s d hb
theorem k_rTermO : SoundC Tryz.prog K_rTermO.1 K_rTermO.2 := SoundC.famE (fun x : ByteArray × Nat => x.2) fun n => k_readTermO n
theorem z_atomO {q : Atm × Bool} (h : q = (zA, false)) : 0 = q.1.1 ∧ { data := #[] } = q.1.2.1.1 ∧ q.1.2.1.2 = [] ∧ { data := #[] } = q.1.2.2.1.1 ∧ q.1.2.2.1.2 = [] ∧ q.1.2.2.2.1 = [] ∧ q.1.2.2.2.2.1 = [] ∧ 0 = q.1.2.2.2.2.2.1 ∧ q.1.2.2.2.2.2.2 = false ∧ q.2 = false ∧ q.1.2.1.2 = [] ∧ q.1.2.2.1.2 = [] ∧ q.1.2.2.2.1 = [] ∧ q.1.2.2.2.2.1 = [] := by
  subst h; exact ⟨rfl, rfl, rfl, rfl, rfl, rfl, rfl, rfl, rfl, rfl, rfl, rfl, rfl, rfl⟩
theorem z_litO {q : Ltr × Bool} (h : q = ((zA, false), false)) : 0 = q.1.1.1 ∧ { data := #[] } = q.1.1.2.1.1 ∧ q.1.1.2.1.2 = [] ∧ { data := #[] } = q.1.1.2.2.1.1 ∧ q.1.1.2.2.1.2 = [] ∧ q.1.1.2.2.2.1 = [] ∧ q.1.1.2.2.2.2.1 = [] ∧ 0 = q.1.1.2.2.2.2.2.1 ∧ q.1.1.2.2.2.2.2.2 = false ∧ q.1.2 = false ∧ q.2 = false ∧ q.1.1.2.1.2 = [] ∧ q.1.1.2.2.1.2 = [] ∧ q.1.1.2.2.2.1 = [] ∧ q.1.1.2.2.2.2.1 = [] := by
  subst h; exact ⟨rfl, rfl, rfl, rfl, rfl, rfl, rfl, rfl, rfl, rfl, rfl, rfl, rfl, rfl, rfl⟩
set_option maxHeartbeats 8000000 in
theorem g_iTermReadO (s : ByteArray) (h1 : SzA s) : GoalW Tryz.prog [K_rTermO, K_isTerm, K_tText] ([]) K_iTermReadO.1 K_iTermReadO.2 (s) := GoalW.of (vc_iTermReadO s) (by
  simp (maxSteps := 2000000) [-List.getD_eq_getElem?_getD, -List.mem_cons, -Bool.forall_bool, -Bool.exists_bool, and_assoc, peta, tl_inj, ex_1, ex_2, ex_3, ex_4, ex_5, ex_6, ex_7, ex_8, ex_9, ey_2, ey_3, ey_4, ey_5, ey_6, ey_7, ey_8, ey_9]
  have hs : s.size ≤ 1048576 := h1
  refine ⟨s, hs, 4, by omega, rfl, rfl, ?_⟩
  have hz : ∀ y, tmRd s = (zT, y) → y = false → { data := #[] } = (tmRd s).fst.fst ∧ (tmRd s).fst.snd = [] ∧ (tmRd s).snd = false ∧ (tmRd s).fst.snd = [] := fun y e hy => by rw [e]; exact ⟨rfl, rfl, hy, rfl⟩
  have e := tmRd_I (s := s) rfl
  refine ⟨fun h => hz _ (by rw [e, if_neg fun g => by rw [h] at g; cases g.1]) rfl, fun h => ?_⟩
  obtain ⟨r, hr⟩ := Option.isSome_iff_exists.1 h
  obtain ⟨j, j1, j2, j3⟩ := rdT_good false _ _ _ hr
  have hl : (bl' s).length = s.size := rfl
  have hc : costT (.mk (rdT false 4 (bl' s)).1.1 (rdT false 4 (bl' s)).1.2) ≤ s.size := by
    have : costT (tmT (rdT false 4 (bl' s)).1) ≤ s.size := by omega
    exact this
  have hn : (restB (rdT false 4 (bl' s)).2).toList = [] ↔ r = [] := by
    rw [hr, ByteArray.toList_eq]; exact Iff.rfl
  rw [hn]
  refine ⟨fun g => hz _ (by rw [e, if_neg fun q => g (by rw [hr] at q; exact Option.some.inj q.1)]) rfl, fun g => ⟨by omega, fun q => hz _ (by rw [e, if_neg fun p => by rw [q] at p; cases p.2.1]) rfl, fun q => ⟨by omega, fun t => hz _ (by rw [e, if_neg fun p => t p.2.2]) rfl, fun t => ?_⟩⟩⟩
  rw [e, if_pos ⟨by rw [hr, g], q, t⟩]
  exact ⟨rfl, rfl, rfl, xrT_self⟩)
theorem k_iTermReadO : SoundC Tryz.prog K_iTermReadO.1 K_iTermReadO.2 := sound_ofW hm (((CtxOK.nil.and k_tText).and k_isTerm).and k_rTermO) (fun (s : ByteArray) => []) (by kernel_rfl) fun (s : ByteArray) hb => g_iTermReadO s hb
set_option maxHeartbeats 8000000 in
theorem g_readEqO (s : ByteArray) (h1 : SzA s) : GoalW Tryz.prog [K_Cut, K_iTermReadO] ([]) K_readEqO.1 K_readEqO.2 (s) := GoalW.of (vc_readEqO s) (by
  simp (maxSteps := 2000000) [-List.getD_eq_getElem?_getD, -List.mem_cons, -Bool.forall_bool, -Bool.exists_bool, and_assoc, peta, tl_inj, ex_1, ex_2, ex_3, ex_4, ex_5, ex_6, ex_7, ex_8, ex_9, ey_2, ey_3, ey_4, ey_5, ey_6, ey_7, ey_8, ey_9]
  have hs : s.size ≤ 1048576 := h1
  have l1 := cutA_le s eqSgn
  have l2 := cutR_le s eqSgn
  have e : eqK s = (cutK s eqSgn && (tmRd (cutA s eqSgn)).2 && (tmRd (cutR s eqSgn)).2) := rfl
  refine ⟨by omega, Nat.le_trans l1 hs, Nat.le_trans l2 hs, fun k => ⟨fun a => ⟨rfl, rfl, rfl, rfl, ?_, xrT_self, xrT_self⟩, fun a => ⟨rfl, rfl, rfl, rfl, ?_, xrT_self, xrT_self⟩⟩, fun k => ⟨rfl, rfl, rfl, rfl, ?_, xrT_self, xrT_self⟩⟩
  · rw [e, show cutK s eqSgn = true from k, show (tmRd (cutA s eqSgn)).2 = true from a]; rfl
  · rw [e, show (tmRd (cutA s eqSgn)).2 = false from a, Bool.and_false]; rfl
  · rw [e, show cutK s eqSgn = false from k]; rfl)
theorem k_readEqO : SoundC Tryz.prog K_readEqO.1 K_readEqO.2 := sound_ofW hm ((CtxOK.nil.and k_iTermReadO).and k_Cut) (fun (s : ByteArray) => []) (by kernel_rfl) fun (s : ByteArray) hb => g_readEqO s hb
set_option maxHeartbeats 8000000 in
theorem g_readSumO (s : ByteArray) (h1 : SzA s) : GoalW Tryz.prog [K_Split, K_within, K_Atoi, K_Cut, K_iTermReadO] (A_readSumO s) K_readSumO.1 K_readSumO.2 (s) := GoalW.of (vc_readSumO s) (by
  simp (maxSteps := 2000000) [-List.getD_eq_getElem?_getD, -List.mem_cons, -Bool.forall_bool, -Bool.exists_bool, and_assoc, peta, tl_inj, ex_1, ex_2, ex_3, ex_4, ex_5, ex_6, ex_7, ex_8, ex_9, ey_2, ey_3, ey_4, ey_5, ey_6, ey_7, ey_8, ey_9]
  have hs : s.size ≤ 1048576 := h1
  have hp := cut_ne 32 s
  have hlen : (cut 32 s).length ≤ s.size + 1 := cut_len 32 s
  refine ⟨32, rfl, by omega, ?_⟩
  have e1 : IntKind.i64.wrap (((cut 32 s).length : Int) - 1) = (((cut 32 s).length - 1 : Nat) : Int) := by rw [wrap_small (by omega) (by omega)]; omega
  have e2 : IntKind.i64.wrap ((((cut 32 s).length - 1 : Nat) : Int) - 1) = ((cut 32 s).length : Int) - 2 := by rw [wrap_small (by omega) (by omega)]; omega
  rw [e1, e2]
  have hw : withinI (((cut 32 s).length : Int) - 2) 1 4 = true ↔ 3 ≤ (cut 32 s).length ∧ (cut 32 s).length ≤ 6 := by
    unfold withinI
    simp
    omega
  refine ⟨fun h => z_atomO ?_, fun h => ?_⟩
  · unfold sumI
    rw [if_neg fun g => by rw [hw.2 g.1] at h; cases h]
  obtain ⟨h3, h6⟩ := hw.1 h
  have e3 : (((cut 32 s).length : Int) - 2).toNat = (cut 32 s).length - 2 := by omega
  rw [e3]
  simp only [Int.toNat_natCast]
  have hp1 := pq_le (c := 32) (s := s) ((cut 32 s).length - 1)
  refine ⟨by omega, by omega, by omega, by omega, by omega, by omega, by omega, by omega, by omega, ⟨0, by omega, h3, h6, rfl, (strs_take (by omega)).2 rfl, by omega, rfl, rfl, rfl, rfl, ?_, rfl, rfl⟩, fun x hx _ _ ha => ⟨fun hlt => ?_, fun hge => ?_⟩⟩
  · rw [Bool.eq_iff_iff, beq_iff_eq, decide_eq_true_eq, tl60]; rfl
  · have hl1 : (numsI ((cut 32 s).take x)).length = x := by rw [numsI_len, List.length_take]; omega
    have hl2 : (timesI ((cut 32 s).take x)).length = x := by rw [timesI_len, List.length_take]; omega
    have eg : ((cut 32 s).take ((cut 32 s).length - 2)).getD x ByteArray.empty = (cut 32 s).getD x ByteArray.empty := by
      simp only [List.getD_eq_getElem?_getD]
      rw [List.getElem?_take, if_pos hlt]
    rw [eg]
    have q1 := pq_le (c := 32) (s := s) x
    have q2 := cutA_le ((cut 32 s).getD x ByteArray.empty) mulSgn
    have q3 := cutR_le ((cut 32 s).getD x ByteArray.empty) mulSgn
    have hsn := take_snoc ByteArray.empty (l := cut 32 s) (i := x) (by omega)
    refine ⟨hlt, by omega, Nat.le_trans q2 (by omega), Nat.le_trans q3 (by omega), fun h => z_atomO ?_, fun h => ⟨hl1.symm, by omega, by omega, by omega, by omega, h3, h6, ?_, by omega, wrap_small (by omega) (by omega), xrT_push hl1 ?_ IsX_terms, pushI hl2 ?_⟩⟩
    · unfold sumI
      rw [if_neg fun g => ?_]
      have := List.all_eq_true.1 g.2 ((cut 32 s).getD x ByteArray.empty) (by rw [← eg]; exact getD_mem _ (by rw [List.length_take]; omega))
      rw [show (tmRd (cutR ((cut 32 s).getD x ByteArray.empty) mulSgn)).2 = false from h] at this
      cases this
    · unfold allI at ha ⊢
      rw [hsn, List.all_append, ha, Bool.true_and]
      show ((tmRd (cutR ((cut 32 s).getD x ByteArray.empty) mulSgn)).2 && true) = true
      rw [show (tmRd (cutR ((cut 32 s).getD x ByteArray.empty) mulSgn)).2 = true from h]; rfl
    · unfold numsI; rw [hsn, List.map_append]; rfl
    · unfold timesI; rw [hsn, List.map_append]; rfl
  · have hxe : x = (cut 32 s).length - 2 := by omega
    have es : sumI s = (sumW (cut 32 s), true) := by
      unfold sumI; rw [if_pos ⟨⟨h3, h6⟩, by rw [← hxe]; exact ha⟩]
    have hl1 : (numsI ((cut 32 s).take x)).length = x := by rw [numsI_len, List.length_take]; omega
    have hl2 : (timesI ((cut 32 s).take x)).length = x := by rw [timesI_len, List.length_take]; omega
    have e1 : (sumW (cut 32 s)).2.2.2.1 = numsI ((cut 32 s).take x) := by rw [hxe]; rfl
    have e2 : (sumW (cut 32 s)).2.2.2.2.1 = timesI ((cut 32 s).take x) := by rw [hxe]; rfl
    rw [es]
    exact ⟨rfl, rfl, rfl, rfl, rfl, by rw [e1, hl1], by rw [e2, hl2], rfl, rfl, rfl, rfl, rfl, xrT_eq e1.symm, .inr e2.symm⟩)
theorem k_readSumO : SoundC Tryz.prog K_readSumO.1 K_readSumO.2 := sound_ofW hm (((((CtxOK.nil.and k_iTermReadO).and k_Cut).and k_Atoi).and k_within).and k_Split) (fun (s : ByteArray) => A_readSumO s) (by kernel_rfl) fun (s : ByteArray) hb => g_readSumO s hb
set_option maxHeartbeats 8000000 in
theorem g_iAtomReadO (s : ByteArray) (h1 : SzA s) : GoalW Tryz.prog [K_readEqO, K_readSumO, K_Atomok, K_atomText] ([]) K_iAtomReadO.1 K_iAtomReadO.2 (s) := GoalW.of (vc_iAtomReadO s) (by
  simp (maxSteps := 2000000) [-List.getD_eq_getElem?_getD, -List.mem_cons, -Bool.forall_bool, -Bool.exists_bool, and_assoc, peta, tl_inj, ex_1, ex_2, ex_3, ex_4, ex_5, ex_6, ex_7, ex_8, ex_9, ey_2, ey_3, ey_4, ey_5, ey_6, ey_7, ey_8, ey_9]
  have hs : s.size ≤ 1048576 := h1
  have e : atomReadI s = if (atomI s).2 = true ∧ atomRight (atomI s).1 = true ∧ mkB (atomB (atomI s).1) = s then ((atomI s).1, true) else (zA, false) := rfl
  have c0 : costA (sumI s).1 ≤ 1048576 := by
    unfold sumI
    split
    · rename_i h
      exact sum_cost (by decide) (by decide) (by rw [numsI_len, List.length_take]; omega) (by have := costTs_map (fun p => tmT (tmRd (cutR p mulSgn)).1) (fun p => tmRd_cost _) ((cut 32 s).take ((cut 32 s).length - 2)); rw [List.length_take] at this; unfold numsI; omega) (by rw [timesI_len, List.length_take]; omega)
    · decide
  have c1 : costA (eqI s) ≤ 1048576 := sum_cost (tmRd_cost _) (tmRd_cost _) (Nat.zero_le _) (Nat.zero_le _) (Nat.zero_le _)
  refine ⟨hs, fun k => ⟨hs, fun h => ?_, fun h => ⟨c0, fun g => ?_, fun g => ⟨c0, g, fun t => ?_, fun t => ?_⟩⟩⟩, fun k => ⟨fun k' => absurd (k.symm.trans k') (by simp), fun _ => ⟨[], nilT', [], nilI', c1, fun g => ?_, fun g => ⟨[], nilT', [], nilI', c1, g, fun t => ?_, fun t => ?_⟩⟩⟩⟩
  · have ea : atomI s = sumI s := by unfold atomI; rw [if_neg (by rw [k]; simp)]
    exact z_atomO (by rw [e, if_neg fun q => by rw [ea, h] at q; cases q.1])
  · have ea : atomI s = sumI s := by unfold atomI; rw [if_neg (by rw [k]; simp)]
    exact z_atomO (by rw [e, if_neg fun q => by rw [ea, g] at q; cases q.2.1])
  · have ea : atomI s = sumI s := by unfold atomI; rw [if_neg (by rw [k]; simp)]
    exact z_atomO (by rw [e, if_neg fun q => by rw [ea] at q; exact t q.2.2])
  · have ea : atomI s = sumI s := by unfold atomI; rw [if_neg (by rw [k]; simp)]
    rw [e, if_pos (by rw [ea]; exact ⟨h, g, t⟩), ea]
    exact ⟨rfl, rfl, rfl, rfl, rfl, rfl, rfl, rfl, rfl, rfl, xrT_self, xrT_self, xrT_self, .inr rfl⟩
  · have ea : atomI s = (eqI s, true) := by unfold atomI; rw [if_pos k]
    exact z_atomO (by rw [e, if_neg fun q => by rw [ea] at q; rw [show atomRight (eqI s) = false from g] at q; cases q.2.1])
  · have ea : atomI s = (eqI s, true) := by unfold atomI; rw [if_pos k]
    exact z_atomO (by rw [e, if_neg fun q => by rw [ea] at q; exact t q.2.2])
  · have ea : atomI s = (eqI s, true) := by unfold atomI; rw [if_pos k]
    rw [e, if_pos (by rw [ea]; exact ⟨rfl, g, t⟩), ea]
    exact ⟨rfl, rfl, rfl, rfl, rfl, rfl, rfl, rfl, rfl, rfl, xrT_self, xrT_self, ⟨rfl, rfl, fun i hi => absurd hi (Nat.not_lt_zero _)⟩, ⟨rfl, .inl rfl⟩⟩)
theorem k_iAtomReadO : SoundC Tryz.prog K_iAtomReadO.1 K_iAtomReadO.2 := sound_ofW hm ((((CtxOK.nil.and k_atomText).and k_Atomok).and k_readSumO).and k_readEqO) (fun (s : ByteArray) => []) (by kernel_rfl) fun (s : ByteArray) hb => g_iAtomReadO s hb
set_option maxHeartbeats 8000000 in
theorem g_iLitReadO (s : ByteArray) (h1 : SzA s) : GoalW Tryz.prog [K_CutPrefix, K_iAtomReadO] ([]) K_iLitReadO.1 K_iLitReadO.2 (s) := GoalW.of (vc_iLitReadO s) (by
  simp (maxSteps := 2000000) [-List.getD_eq_getElem?_getD, -List.mem_cons, -Bool.forall_bool, -Bool.exists_bool, and_assoc, peta, tl_inj, ex_1, ex_2, ex_3, ex_4, ex_5, ex_6, ex_7, ex_8, ex_9, ey_2, ey_3, ey_4, ey_5, ey_6, ey_7, ey_8, ey_9]
  have hs : s.size ≤ 1048576 := h1
  have e : litReadI s = litOf (Go.Lib.hasPrefix (bl' s) (bl' notSgn)) (atomReadI (mkB (Go.Lib.trimPrefix (bl' s) (bl' notSgn)))) := rfl
  have hl := trim_le (bl' s) (bl' notSgn)
  refine ⟨by omega, Nat.le_trans hl hs, fun h => z_litO ?_, fun h => ?_⟩
  · rw [e]; unfold litOf; rw [if_neg (by show ¬ (atomReadI (mkB (Go.Lib.trimPrefix (bl' s) (bl' { data := #[110, 111, 116, 32] })))).2 = true; rw [h]; simp)]
  · have e2 : litReadI s = (((atomReadI (mkB (Go.Lib.trimPrefix (bl' s) (bl' { data := #[110, 111, 116, 32] })))).1, Go.Lib.hasPrefix (bl' s) (bl' { data := #[110, 111, 116, 32] })), true) := by
      rw [e]; unfold litOf; exact if_pos h
    rw [e2]
    exact ⟨rfl, rfl, rfl, rfl, rfl, rfl, rfl, rfl, rfl, rfl, rfl, xrT_self, xrT_self, xrT_self, .inr rfl⟩)
theorem k_iLitReadO : SoundC Tryz.prog K_iLitReadO.1 K_iLitReadO.2 := sound_ofW hm ((CtxOK.nil.and k_iAtomReadO).and k_CutPrefix) (fun (s : ByteArray) => []) (by kernel_rfl) fun (s : ByteArray) hb => g_iLitReadO s hb
end Cg

/-
  Plain facts: what is read from a text is small. No condition.
-/
set_option linter.unusedVariables false
set_option linter.unusedSimpArgs false
set_option maxRecDepth 100000
namespace Pl
open Go Cg
theorem atomRight_cost {x : Atm} (h : atomRight x = true) : costA x ≤ 1048576 := by
  obtain ⟨k, a, b, ts, ns, bd, sc⟩ := x
  by_cases h0 : k = 1
  · obtain ⟨e1, e2, _, _, ha, hb⟩ := atom_one h0 h
    subst e1; subst e2
    exact sum_cost (right_cost ha) (right_cost hb) (Nat.zero_le _) (Nat.zero_le _) (Nat.zero_le _)
  · obtain ⟨_, e2, e3, h1, h2, h3, _, _, hr, _⟩ := atom_two h0 h
    subst e2; subst e3
    have hc : costTs ts ≤ 48 * ts.length := by
      have := costTs_map (fun t : {t : Tm // right t = true} => t.1) (fun t => right_cost t.2) (ts.attachWith _ hr)
      simpa using this
    exact sum_cost (by decide) (by decide) (by omega) (by omega) (by omega)
theorem litRd_cost (t : ByteArray) : costA (litRd t).1.1 ≤ 1048576 := by
  cases h : (litRd t).2 with
  | false =>
    have e : (litRd t).1 = (zA, false) := rd_zero' h
    rw [e]; decide
  | true => exact atomRight_cost (rd_ok h).1
end Pl

/-
  The codes' contracts: terms, atoms and literals that are marked, and the laws that reading them is exact. No condition.
-/
set_option linter.unusedVariables false
set_option linter.unusedSimpArgs false
set_option maxRecDepth 100000
namespace Cg
open Go Go.Proofs Pl
theorem k_markAtT (n : Nat) (h : SoundC Tryz.prog (K_markTermS n).1 (K_markTermS n).2) : SoundC Tryz.prog (K_markAtT n).1 (K_markAtT n).2 := by
  have base : SoundE Tryz.prog Nm.laws_markTermS MtX (fun x => ⟨.osl 0 0 x.1.length :: [i64 x.2], [.xarr x.1.length 2 (cT x.1)]⟩) (fun x => MtOk x.1 x.2 ∧ manyL x.1 < n) Unit (fun _ _ => True)
      fun x _ => (i64 (x.2 + manyL x.1), [.xarr x.1.length 2 (cT (mkTs x.2 x.1))]) := fun x hp S μ w vals hok hrel => by
    refine (h.2 x hp S μ w vals hok hrel).mono fun e w' ⟨v, y, S', μ', h1, h2, h3, h4⟩ => ⟨v, y, S', μ', h1, h2, ?_, h4⟩
    have h3' : Evo S μ [xrT x.1] w S' μ' [xrT (mkTs x.2 x.1)] w' := h3
    have e : xrT (mkTs x.2 x.1) = AObj.xarr x.1.length 2 (cT (mkTs x.2 x.1)) := by
      show AObj.xarr (mkTs x.2 x.1).length 2 _ = _
      rw [mkTs_len]
      rfl
    rw [e] at h3'
    exact h3'
  have at' := SoundE.atX base (fun _ => rfl) (fun _ _ => rfl) (X' := MtA) (fun x => ((x.1.getD x.2.1 dT).kids, x.2.2)) (fun x => x.1.length) (fun _ => 2) (fun x => x.2.1) (fun _ => 1) (fun x => cT x.1)
  refine ⟨h.1, fun x hp S μ w vals hok hrel => ?_⟩
  have hx : IsX (cT x.1 x.2.1 1) (.sl (x.1.getD x.2.1 dT).kids.length 2 (cT (x.1.getD x.2.1 dT).kids)) := IsX_slT (x.1.getD x.2.1 dT).kids rfl rfl (fun i hi j hj => subT_get hi hj) fun i hi j hj => rfl
  refine (at' x ⟨hp.1, hp.2, by omega, hx⟩ S μ w vals hok hrel).mono fun e w' ⟨v, y, S', μ', h1, h2, h3, h4⟩ => ⟨v, y, S', μ', h1, trivial, ?_, h4⟩
  obtain ⟨l, i, k⟩ := x
  have hi : i < l.length := hp.2
  have q := Evo.xarrX (c' := cT (l.set i (.mk (l.getD i dT).val (mkTs k (l.getD i dT).kids)))) h3 fun i' hi' j hj => by
    show IsX (fillX (cT l) i 1 (.sl (l.getD i dT).kids.length 2 (cT (mkTs k (l.getD i dT).kids))) i' j) (eT ((l.set i (.mk (l.getD i dT).val (mkTs k (l.getD i dT).kids))).getD i' dT) j)
    by_cases e : i' = i
    · subst e
      rw [get_setT hi]
      match j, hj with
      | 0, _ => rw [fillX_ne (fun h => by cases h.2)]; exact (rfl : Value.string (l.getD i' dT).val = Value.string (l.getD i' dT).val)
      | 1, _ =>
        rw [fillX_at]
        exact IsX_slT (mkTs k (l.getD i' dT).kids) (mkTs_len _ _).symm rfl (fun _ _ _ _ => rfl) fun a ha b hb => subT_get (t := .mk (l.getD i' dT).val (mkTs k (l.getD i' dT).kids)) ha hb
    · rw [fillX_ne (fun h => e h.1), get_setT_ne e]
      exact IsX_eT _ j hj
  have e : xrT (l.set i (.mk (l.getD i dT).val (mkTs k (l.getD i dT).kids))) = .xarr l.length 2 (cT (l.set i (.mk (l.getD i dT).val (mkTs k (l.getD i dT).kids)))) := by
    show AObj.xarr (l.set i _).length 2 _ = _
    rw [List.length_set]
    rfl
  show Evo S μ [xrT l] w S' μ' [xrT (l.set i (.mk (l.getD i dT).val (mkTs k (l.getD i dT).kids)))] w'
  rw [e]
  exact q
theorem putT0 {m : List Tm} {x n : Nat} {t : ByteArray} (hx : x < m.length) (hn : n = m.length) : IsO (AObj.xarr n 2 fun (i' j' : Nat) => bif j'.blt 1 && i'.beq x then [st t].getD j' AV.any else eT (m.getD i' dT) j') (xrT (m.set x (.mk t (m.getD x dT).kids))) := by
  subst hn
  refine ⟨rfl, by rw [List.length_set], fun i hi j hj => ?_⟩
  show IsX _ (eT ((m.set x (.mk t (m.getD x dT).kids)).getD i dT) j)
  by_cases hix : i = x
  · subst hix
    rw [get_setT hx]
    match j, hj with
    | 0, _ => simp only [beq_iff.2 rfl]; exact (rfl : Value.string t = Value.string t)
    | 1, _ => exact IsX_slT (m.getD i dT).kids rfl rfl (fun a ha b hb => subT_get ha hb) fun a ha b hb => subT_get (t := .mk t (m.getD i dT).kids) ha hb
  · rw [get_setT_ne hix]
    have e : Nat.beq i x = false := by cases h : Nat.beq i x with | false => rfl | true => exact absurd (beq_iff.1 h) hix
    match j, hj with
    | 0, _ => simp only [e]; exact IsX_eT _ 0 (by decide)
    | 1, _ => exact IsX_eT _ 1 (by decide)
theorem sumA_le (a : Atm) : sumA a ≤ costA a := by
  have one : ∀ x : TP, manyL x.2 ≤ costT (.mk x.1 x.2) := fun x => by
    have := many_cost _ (Tree.mk x.1 x.2) (Nat.le_refl _)
    rw [Tree.many_eq] at this
    simp only [Tree.kids_mk] at this
    omega
  have all : ∀ l : List Tm, manyL l ≤ l.length + costTs l := fun l => by
    induction l with
    | nil => exact Nat.le_refl _
    | cons u r ih =>
      have := many_cost _ u (Nat.le_refl _)
      simp only [manyL, costTs, List.length_cons]; omega
  have h1 := one a.2.1
  have h2 := one a.2.2.1
  have h3 := all a.2.2.2.1
  unfold sumA costA
  omega
theorem terms_mk (k : Int) (l : List Tm) : Is (AV.sl l.length 2 (cT (mkTs k l))) (terms (mkTs k l)) :=
  (terms_take (l := mkTs k l) (m := mkTs k l) (n := l.length) (by simp)).2 (List.take_of_length_le (by simp))
theorem ints_seq (k : Int) (n : Nat) : Is (AV.sl n 1 (cI (seqI k n))) (ints (seqI k n)) :=
  (ints_take (l := seqI k n) (m := seqI k n) (n := n) (by simp)).2 (List.take_of_length_le (by simp))
set_option maxHeartbeats 8000000 in
theorem g_markTermS (n : Nat) (l : List Tm) (k : Int) (h1 : MtOk l k) (h2 : manyL l < n + 1) : GoalW Tryz.prog [K_markText, K_markAtT n] (A_markTermS l k) (K_markTermS (n + 1)).1 (K_markTermS (n + 1)).2 ((l, k)) := GoalW.of (vc_markTermS n l k) (by
  simp (maxSteps := 2000000) [-List.getD_eq_getElem?_getD, -List.mem_cons, -Bool.forall_bool, -Bool.exists_bool, and_assoc, peta, tl_inj, ex_1, ex_2, ex_3, ex_4, ex_5, ex_6, ex_7, ex_8, ex_9, ey_2, ey_3, ey_4, ey_5, ey_6, ey_7, ey_8, ey_9]
  obtain ⟨m1, k1, k2⟩ := h1
  have hml := many_len l
  refine ⟨⟨0, Nat.zero_le _, by simp [manyL], rfl, xrT_eq (by simp [mkTs])⟩, fun x hx => ⟨fun hlt => ?_, fun hge => ?_⟩⟩
  · have e1 := midT_get k hlt
    have e3 := manyT_take hlt
    have e4 := manyT_le (l := l) (x + 1)
    have e5 := (l.getD x dT).many_eq
    have hM := midT_len k (Nat.le_of_lt hlt)
    have eS := midT_set k hlt
    rw [wrap_small (x := k + (manyL (l.take x) : Int) + 1) (by omega) (by omega)]
    generalize mkTs k (l.take x) ++ l.drop x = M at *
    generalize hkx : k + (manyL (l.take x) : Int) = kx at *
    have hxM : x < M.length := by omega
    refine ⟨by omega, by omega, hlt, by omega, hlt, by omega, M.set x (.mk (mtext kx) (M.getD x dT).kids), ?_⟩
    rw [get_setT hxM]
    simp only [Tree.kids_mk, Tree.val_mk]
    rw [e1]
    refine ⟨by omega, by omega, by omega, by omega, by rw [List.length_set]; omega, trivial, by rw [← e1]; exact putT0 hxM (by omega), x + 1, hlt, by omega, by omega, by rw [wrap_small (by omega) (by omega)]; omega, xrT_eq ?_⟩
    rw [eS, List.set_set, mkT_eq]
  · rw [List.take_of_length_le hge, List.drop_eq_nil_of_le hge, List.append_nil]
    exact ⟨rfl, xrT_self⟩)
theorem k_markTermS (n : Nat) : SoundC Tryz.prog (K_markTermS n).1 (K_markTermS n).2 := by
  induction n with
  | zero => exact sound_of hm CtxOK.nil (fun _ => []) (by kernel_rfl) fun x h => absurd h.2 (Nat.not_lt_zero _)
  | succ n ih => exact sound_ofW hm ((CtxOK.nil.and (K := K_markAtT n) (k_markAtT n ih)).and k_markText) (fun ((l, k) : MtX) => A_markTermS l k) (by kernel_rfl) fun ((l, k) : MtX) hb => g_markTermS n l k hb.1 hb.2
theorem k_markTs : SoundC Tryz.prog K_markTs.1 K_markTs.2 := SoundC.famE (fun x : MtX => manyL x.1) fun n => k_markTermS n
set_option maxHeartbeats 8000000 in
theorem g_heldTermS (n : Nat) (l : List Tm) (k : Int) (h1 : MtOk l k) (h2 : manyL l < n + 1) : GoalW Tryz.prog [K_markText, K_heldTermS n] (A_heldTermS l k) (K_heldTermS (n + 1)).1 (K_heldTermS (n + 1)).2 ((l, k)) := GoalW.of (vc_heldTermS n l k) (by
  simp (maxSteps := 2000000) [-List.getD_eq_getElem?_getD, -List.mem_cons, -Bool.forall_bool, -Bool.exists_bool, and_assoc, peta, tl_inj, ex_1, ex_2, ex_3, ex_4, ex_5, ex_6, ex_7, ex_8, ex_9, ey_2, ey_3, ey_4, ey_5, ey_6, ey_7, ey_8, ey_9]
  obtain ⟨m1, k1, k2⟩ := h1
  have hml := many_len l
  refine ⟨⟨0, Nat.zero_le _, by simp [mkTs], by simp [manyL], rfl⟩, fun x hx he => ⟨fun hlt => ?_, fun hge => ?_⟩⟩
  · have e3 := manyT_take hlt
    have e4 := manyT_le (l := l) (x + 1)
    have e5 := (l.getD x dT).many_eq
    rw [wrap_small (x := k + (manyL (l.take x) : Int) + 1) (by omega) (by omega)]
    have no : ¬ (l.getD x dT = mkT (k + manyL (l.take x)) (l.getD x dT)) → -1 = heldTs l k := fun h => (heldTs_no fun g => h (mkTs_at g hlt)).symm
    have yes := mkTs_take k hlt
    generalize hkx : k + (manyL (l.take x) : Int) = kx at *
    have hif : l.getD x dT = mkT kx (l.getD x dT) ↔ (l.getD x dT).val = mtext kx ∧ (l.getD x dT).kids = mkTs (kx + 1) (l.getD x dT).kids := by
      rw [mkT_eq]
      exact ⟨fun h => ⟨congrArg Tree.val h, congrArg Tree.kids h⟩, fun h => Tree.ext h.1 h.2⟩
    refine ⟨hlt, by omega, by omega, fun hne => no fun h => hne (hif.1 h).1, fun hnm => ⟨hlt, by omega, by omega, by omega, by omega, fun hneg => no fun h => ?_, fun hpos => ?_⟩⟩
    · rw [heldTs_yes (hif.1 h).2] at hneg; omega
    · have hk : (l.getD x dT).kids = mkTs (kx + 1) (l.getD x dT).kids := Classical.byContradiction fun g => by rw [heldTs_no g] at hpos; omega
      rw [heldTs_yes hk]
      refine ⟨x + 1, hlt, ?_, by omega, by omega, by rw [wrap_small (by omega) (by omega)]; omega⟩
      rw [yes, take_more dT hlt, ← he]
      congr 2
      exact hif.2 ⟨hnm, hk⟩
  · rw [List.take_of_length_le hge] at he ⊢
    exact (heldTs_yes he).symm)
theorem k_heldTermS (n : Nat) : SoundC Tryz.prog (K_heldTermS n).1 (K_heldTermS n).2 := by
  induction n with
  | zero => exact sound_of hm CtxOK.nil (fun _ => []) (by kernel_rfl) fun x h => absurd h.2 (Nat.not_lt_zero _)
  | succ n ih => exact sound_ofW hm ((CtxOK.nil.and (K := K_heldTermS n) ih).and k_markText) (fun ((l, k) : MtX) => A_heldTermS l k) (by kernel_rfl) fun ((l, k) : MtX) hb => g_heldTermS n l k hb.1 hb.2
theorem k_heldTs : SoundC Tryz.prog K_heldTs.1 K_heldTs.2 := SoundC.fam (fun x : MtX => manyL x.1) fun n => k_heldTermS n
set_option maxHeartbeats 8000000 in
theorem g_markTerm (x : TP) (k : Int) (h1 : MtOk x.2 k) : GoalW Tryz.prog [K_markTs] ([]) K_markTerm.1 K_markTerm.2 ((x, k)) := GoalW.of (vc_markTerm x k) (by
  simp (maxSteps := 2000000) [-List.getD_eq_getElem?_getD, -List.mem_cons, -Bool.forall_bool, -Bool.exists_bool, and_assoc, peta, tl_inj, ex_1, ex_2, ex_3, ex_4, ex_5, ex_6, ex_7, ex_8, ex_9, ey_2, ey_3, ey_4, ey_5, ey_6, ey_7, ey_8, ey_9]
  obtain ⟨m1, k1, k2⟩ := h1
  exact ⟨x.2, m1, k1, k2, rfl, xrT_self, rfl, xrT_self⟩)
theorem k_markTerm : SoundC Tryz.prog K_markTerm.1 K_markTerm.2 := sound_ofW hm (CtxOK.nil.and k_markTs) (fun ((x, k) : TP × Int) => []) (by kernel_rfl) fun ((x, k) : TP × Int) hb => g_markTerm x k hb
set_option maxHeartbeats 8000000 in
theorem g_heldTerm (x : TP) (k : Int) (h1 : MtOk x.2 k) : GoalW Tryz.prog [K_heldTs] ([]) K_heldTerm.1 K_heldTerm.2 ((x, k)) := GoalW.of (vc_heldTerm x k) (by
  simp (maxSteps := 2000000) [-List.getD_eq_getElem?_getD, -List.mem_cons, -Bool.forall_bool, -Bool.exists_bool, and_assoc, peta, tl_inj, ex_1, ex_2, ex_3, ex_4, ex_5, ex_6, ex_7, ex_8, ex_9, ey_2, ey_3, ey_4, ey_5, ey_6, ey_7, ey_8, ey_9]
  obtain ⟨m1, k1, k2⟩ := h1
  refine ⟨m1, k1, k2, fun h => ?_⟩
  by_cases e : x.2 = mkTs k x.2
  · rw [heldTs_yes e] at h; omega
  · exact (heldTs_no e).symm)
theorem k_heldTerm : SoundC Tryz.prog K_heldTerm.1 K_heldTerm.2 := sound_ofW hm (CtxOK.nil.and k_heldTs) (fun ((x, k) : TP × Int) => []) (by kernel_rfl) fun ((x, k) : TP × Int) hb => g_heldTerm x k hb
set_option maxHeartbeats 8000000 in
theorem g_markAtom (a : Atm) (k : Int) (h1 : MaOk a k) : GoalW Tryz.prog [K_markTerm, K_markTs, K_markIntS] ([]) K_markAtom.1 K_markAtom.2 ((a, k)) := GoalW.of (vc_markAtom a k) (by
  simp (maxSteps := 2000000) [-List.getD_eq_getElem?_getD, -List.mem_cons, -Bool.forall_bool, -Bool.exists_bool, and_assoc, peta, tl_inj, ex_1, ex_2, ex_3, ex_4, ex_5, ex_6, ex_7, ex_8, ex_9, ey_2, ey_3, ey_4, ey_5, ey_6, ey_7, ey_8, ey_9]
  obtain ⟨m1, k1, k2⟩ := h1
  unfold sumA at m1 k2
  exact ⟨_, a.2.1.2, by omega, k1, by omega, rfl, rfl, xrT_self, _, a.2.2.1.2, by omega, by omega, by omega, rfl, rfl, xrT_self, a.2.2.2.1, by omega, by omega, by omega, rfl, xrT_self, a.2.2.2.2.1, by omega, by omega, by omega, rfl, [], .inr (List.append_nil _).symm, by unfold sumA; push_cast; omega, xrT_self, xrT_self, xrT_self, .inr (List.append_nil _)⟩)
theorem k_markAtom : SoundC Tryz.prog K_markAtom.1 K_markAtom.2 := sound_ofW hm (((CtxOK.nil.and k_markIntS).and k_markTs).and k_markTerm) (fun ((a, k) : MtaX) => []) (by kernel_rfl) fun ((a, k) : MtaX) hb => g_markAtom a k hb
set_option maxHeartbeats 8000000 in
theorem g_heldAtom (a : Atm) (k : Int) (h1 : MaOk a k) : GoalW Tryz.prog [K_heldTerm, K_heldTs, K_heldIntS] ([]) K_heldAtom.1 K_heldAtom.2 ((a, k)) := GoalW.of (vc_heldAtom a k) (by
  simp (maxSteps := 2000000) [-List.getD_eq_getElem?_getD, -List.mem_cons, -Bool.forall_bool, -Bool.exists_bool, and_assoc, peta, tl_inj, ex_1, ex_2, ex_3, ex_4, ex_5, ex_6, ex_7, ex_8, ex_9, ey_2, ey_3, ey_4, ey_5, ey_6, ey_7, ey_8, ey_9]
  obtain ⟨m1, k1, k2⟩ := h1
  unfold sumA at m1 k2
  have no : ¬ a = mkA k a → -1 = heldAt a k := fun h => (heldAt_no h).symm
  by_cases eA : a.2.1.2 = mkTs k a.2.1.2
  rotate_left
  · rw [heldTs_no eA]; exact ⟨by omega, k1, by omega, fun _ => no fun h => eA (mkA_iff.1 h).1, fun h => by omega⟩
  rw [heldTs_yes eA]
  refine ⟨by omega, k1, by omega, fun h => by omega, fun _ => ⟨by omega, by omega, by omega, ?_⟩⟩
  by_cases eB : a.2.2.1.2 = mkTs (k + manyL a.2.1.2) a.2.2.1.2
  rotate_left
  · rw [heldTs_no eB]; exact ⟨fun _ => no fun h => eB (mkA_iff.1 h).2.1, fun h => by omega⟩
  rw [heldTs_yes eB]
  refine ⟨fun h => by omega, fun _ => ⟨by omega, by omega, by omega, ?_⟩⟩
  by_cases eN : a.2.2.2.1 = mkTs (k + manyL a.2.1.2 + manyL a.2.2.1.2) a.2.2.2.1
  rotate_left
  · rw [heldTs_no eN]; exact ⟨fun _ => no fun h => eN (mkA_iff.1 h).2.2.1, fun h => by omega⟩
  rw [heldTs_yes eN]
  refine ⟨fun h => by omega, fun _ => ⟨by omega, by omega, by omega, ?_⟩⟩
  by_cases eT : a.2.2.2.2.1 = seqI (k + manyL a.2.1.2 + manyL a.2.2.1.2 + manyL a.2.2.2.1) a.2.2.2.2.1.length
  rotate_left
  · have hI : heldI a.2.2.2.2.1 (k + manyL a.2.1.2 + manyL a.2.2.1.2 + manyL a.2.2.2.1) = -1 := by unfold heldI; rw [if_neg eT]
    rw [hI]; exact ⟨fun _ => no fun h => eT (mkA_iff.1 h).2.2.2, fun h => by omega⟩
  have hI : heldI a.2.2.2.2.1 (k + manyL a.2.1.2 + manyL a.2.2.1.2 + manyL a.2.2.2.1) = k + manyL a.2.1.2 + manyL a.2.2.1.2 + manyL a.2.2.2.1 + a.2.2.2.2.1.length := by unfold heldI; rw [if_pos eT]
  rw [hI, heldAt_yes (mkA_iff.2 ⟨eA, eB, eN, eT⟩)]
  exact ⟨fun h => by omega, fun _ => by unfold sumA; push_cast; omega⟩)
theorem k_heldAtom : SoundC Tryz.prog K_heldAtom.1 K_heldAtom.2 := sound_ofW hm (((CtxOK.nil.and k_heldIntS).and k_heldTs).and k_heldTerm) (fun ((a, k) : MtaX) => []) (by kernel_rfl) fun ((a, k) : MtaX) hb => g_heldAtom a k hb
set_option maxHeartbeats 8000000 in
theorem g_markLit (a : Ltr) (k : Int) (h1 : MaOk a.1 k) : GoalW Tryz.prog [K_markAtom] ([]) K_markLit.1 K_markLit.2 ((a, k)) := GoalW.of (vc_markLit a k) (by
  simp (maxSteps := 2000000) [-List.getD_eq_getElem?_getD, -List.mem_cons, -Bool.forall_bool, -Bool.exists_bool, and_assoc, peta, tl_inj, ex_1, ex_2, ex_3, ex_4, ex_5, ex_6, ex_7, ex_8, ex_9, ey_2, ey_3, ey_4, ey_5, ey_6, ey_7, ey_8, ey_9]
  obtain ⟨m1, k1, k2⟩ := h1
  exact ⟨_, _, a.1.2.1.2, _, a.1.2.2.1.2, a.1.2.2.2.1, a.1.2.2.2.2.1, _, _, m1, k, k1, k2, rfl, rfl, rfl, rfl, rfl, rfl, rfl, rfl, rfl, rfl, xrT_self, xrT_self, xrT_self, .inr rfl, rfl, xrT_self, xrT_self, xrT_self, .inr rfl⟩)
theorem k_markLit : SoundC Tryz.prog K_markLit.1 K_markLit.2 := sound_ofW hm (CtxOK.nil.and k_markAtom) (fun ((a, k) : MtlX) => []) (by kernel_rfl) fun ((a, k) : MtlX) hb => g_markLit a k hb
set_option maxHeartbeats 8000000 in
theorem g_heldLit (a : Ltr) (k : Int) (h1 : MaOk a.1 k) : GoalW Tryz.prog [K_heldAtom] ([]) K_heldLit.1 K_heldLit.2 ((a, k)) := GoalW.of (vc_heldLit a k) (by
  simp (maxSteps := 2000000) [-List.getD_eq_getElem?_getD, -List.mem_cons, -Bool.forall_bool, -Bool.exists_bool, and_assoc, peta, tl_inj, ex_1, ex_2, ex_3, ex_4, ex_5, ex_6, ex_7, ex_8, ex_9, ey_2, ey_3, ey_4, ey_5, ey_6, ey_7, ey_8, ey_9]
  obtain ⟨m1, k1, k2⟩ := h1
  refine ⟨m1, k1, k2, fun h => ?_⟩
  by_cases e : a.1 = mkA k a.1
  · rw [heldAt_yes e] at h; omega
  · exact (heldAt_no e).symm)
theorem k_heldLit : SoundC Tryz.prog K_heldLit.1 K_heldLit.2 := sound_ofW hm (CtxOK.nil.and k_heldAtom) (fun ((a, k) : MtlX) => []) (by kernel_rfl) fun ((a, k) : MtlX) hb => g_heldLit a k hb
set_option maxHeartbeats 8000000 in
theorem g_xLitRead (s : ByteArray) : GoalW Tryz.prog [K_sLitRead, K_iLitReadO, K_eqLit, K_markLit, K_heldLit] ([]) K_xLitRead.1 K_xLitRead.2 (s) := GoalW.of (vc_xLitRead s) (by
  simp (maxSteps := 2000000) [-List.getD_eq_getElem?_getD, -List.mem_cons, -Bool.forall_bool, -Bool.exists_bool, and_assoc, peta, tl_inj, ex_1, ex_2, ex_3, ex_4, ex_5, ex_6, ex_7, ex_8, ex_9, ey_2, ey_3, ey_4, ey_5, ey_6, ey_7, ey_8, ey_9]
  intro hs
  have hs' : s.size ≤ 1048576 := by omega
  have hcost : costA (litReadI s).1.1 ≤ 1048576 := by rw [litReadI_eq]; exact litRd_cost s
  have hsame : litReadI s = litReadS s := (litReadI_eq s).trans (litReadS_eq s).symm
  rw [← hsame]
  have hsum := sumA_le (litReadI s).1.1
  generalize litReadI s = R at *
  obtain ⟨⟨a, no⟩, ok⟩ := R
  dsimp only at *
  have q1 : sumA a ≤ 1048576 := by omega
  have q2 : 1 + (sumA a : Int) ≤ 1099511627776 := by omega
  have q3 : sumA (mkA 1 a) ≤ 1048576 := by rw [sumA_mk]; exact q1
  have q4 : 1 + (sumA (mkA 1 a) : Int) ≤ 1099511627776 := by rw [sumA_mk]; exact q2
  have q5 : heldAt (mkA 1 a) 1 = 1 + (sumA a : Int) := by rw [heldAt_yes (mkA_idem 1 a).symm, sumA_mk]
  have q6 : 0 ≤ heldAt (mkA 1 a) 1 := by omega
  refine ⟨hs', hcost, rfl, fun _ => ⟨rfl, fun _ => ⟨_, _, a.2.1.2, _, a.2.2.1.2, a.2.2.2.1, a.2.2.2.2.1, _, _, q1, no, 1, Int.le_refl _, q2, rfl, rfl, rfl, rfl, rfl, rfl, rfl, rfl, rfl, rfl, rfl, xrT_self, xrT_self, xrT_self, .inr rfl, Nat.le_refl _, Nat.le_refl _, Nat.le_refl _, Nat.le_refl _, _, terms_mk _ _, _, terms_mk _ _, _, terms_mk _ _, _, ints_seq _ _, q3, q4, q6, fun _ => ⟨q5, fun _ => ⟨hs', hcost, rfl, fun _ => ⟨rfl, fun _ => ⟨Nat.le_refl _, Nat.le_refl _, Nat.le_refl _, Nat.le_refl _, _, terms_mk _ _, _, terms_mk _ _, _, terms_mk _ _, _, ints_seq _ _, q3, q4, q6, fun _ => q5⟩⟩⟩⟩⟩⟩⟩)
theorem k_xLitRead : SoundC Tryz.prog K_xLitRead.1 K_xLitRead.2 := sound_ofW hm (((((CtxOK.nil.and k_heldLit).and k_markLit).and k_eqLit).and k_iLitReadO).and k_sLitRead) (fun (s : ByteArray) => []) (by kernel_rfl) fun (s : ByteArray) hb => g_xLitRead s
end Cg

/-
  The listed tables and errors, and the shape of the world: what the row's condition gives the machine. No condition.
-/
set_option linter.unusedVariables false
namespace Go.Proofs.YtfgchlkagiihnaaGreatDoor
open Go
def laidL : List (String × DataW Unit) := [("math/bits.deBruijn32tab", Rows.laid_math_bits_deBruijn32tab), ("math/bits.deBruijn64tab", Rows.laid_math_bits_deBruijn64tab), ("internal/strconv.uint64pow10", Rows.laid_internal_strconv_uint64pow10), ("unicode/utf8.acceptRanges", Rows.laid_unicode_utf8_acceptRanges), ("strconv.ErrRange", Rows.laid_strconv_ErrRange), ("strconv.ErrSyntax", Rows.laid_strconv_ErrSyntax), ("unicode/utf8.first", Rows.laid_unicode_utf8_first)]
theorem door_met (os : Os) (args : Array Value) : laidMetH Tryz.prog laidL ((World.laidAll Tryz.prog os laidL).forCall (fun _ _ => 0) ⟨#[], args, []⟩).memory := by
  rw [MakeChecks.laidMetH_plain _ _ _ (by kernel_rfl)]
  exact laidMet_laidAll _ (by kernel_rfl) (by kernel_rfl)
theorem plain_laid {W : World} (h : laidMetH Tryz.prog laidL W) : laidMet Tryz.prog laidL W := by
  rw [MakeChecks.laidMetH_plain _ _ _ (by kernel_rfl)] at h
  exact h
theorem tab_laid {W : World} (h : laidMetH Tryz.prog laidL W) : Go.Lib.TabIs Tryz.prog W "internal/strconv.uint64pow10" .u64 Go.Lib.pow10Tab := by
  have h2 := laidMet.filter (fun x => x.1 == "internal/strconv.uint64pow10") (plain_laid h)
  have h3 : laidMet Tryz.prog (("internal/strconv.uint64pow10", Go.Lib.tabData .u64 Go.Lib.pow10Tab) :: []) W := by
    have e : (laidL.filter fun x => x.1 == "internal/strconv.uint64pow10") = ("internal/strconv.uint64pow10", Go.Lib.tabData .u64 Go.Lib.pow10Tab) :: [] := by rfl
    rw [e] at h2
    exact h2
  exact Go.Lib.tabIs_of_head (show Tryz.prog.globalNamed "internal/strconv.uint64pow10" = some 3 by kernel_rfl) (t := 124) (by kernel_rfl) Tryz.underlying124 Tryz.underlying100 (by kernel_rfl) (by kernel_rfl) h3
theorem star : "*" ++ "errors.errorString" = "*errors.errorString" := by decide
theorem rowES (u : TypeId) (h : Tryz.prog.typeName? 3 u = some "*errors.errorString") : u = 117 :=
  typeName_ptr_named (nm := "errors.errorString") (by rw [star]; kernel_rfl) (by kernel_rfl) (by decide) u (by rw [star]; exact h)
theorem err_var {W : World} (n : String) (g : Nat) (text : List UInt8) (h : laidMet Tryz.prog ((n, .iface "*errors.errorString" (.ptr (.agg [.lit (.string text)]))) :: []) W) (hg : Tryz.prog.globalNamed n = some g) (ht : (Tryz.prog.globals[g]?).map (·.type) = some 66) :
    ∃ c T fr, W.heap[g]? = some (.cells c T fr) ∧ ∃ ev, c[0]? = some ev ∧ (ev = .nilIface ∨ ∃ te pe, ev = .iface te pe) := by
  obtain ⟨a, s, h1, -, -, -⟩ := laid_sentinel h hg ht Tryz.underlying66 rowES Tryz.underlying117 Tryz.underlying119 rfl rfl Tryz.underlying9 (by kernel_rfl) (by kernel_rfl)
  unfold World.var? at h1
  rw [hg, Option.bind_some] at h1
  split at h1
  · rename_i c T fr hc
    have e := Option.some.inj h1
    subst e
    exact ⟨_, T, fr, hc, _, rfl, .inr ⟨_, _, rfl⟩⟩
  · cases h1
theorem gl_laid {W : World} (h : laidMetH Tryz.prog laidL W) (hsh : W.ShapedOpen Tryz.prog) : Cg.Gl (fun b => b < W.heap.size) W := fun g hg => by
  have lt : ∀ {g : Nat} {c : Array Value} {T : TypeId} {fr : Nat × Nat}, W.heap[g]? = some (.cells c T fr) → g < W.heap.size := fun h => (Array.getElem?_eq_some_iff.1 h).1
  unfold Cg.globs at hg
  rcases List.mem_cons.1 hg with rfl | hg
  · have ht := tab_laid h
    unfold Go.Lib.TabIs World.var? at ht
    rw [show Tryz.prog.globalNamed "internal/strconv.uint64pow10" = some 3 by kernel_rfl, Option.bind_some] at ht
    dsimp only
    split at ht
    · rename_i c T fr hc
      refine ⟨lt hc, c, T, fr, hc, ?_⟩
      rw [Option.some.inj ht]
      unfold Go.Lib.pow10Tab
      rw [List.map_map]
      rfl
    · cases ht
  rcases List.mem_cons.1 hg with rfl | hg
  · obtain ⟨m, hm⟩ := cell_of_shapedOpen_int (g := 0) (t := 3) (zero := #[.int .i64 0]) hsh (of_decide_eq_true (by kernel_rfl)) (by kernel_rfl) rfl (by kernel_rfl) (by kernel_rfl) Tryz.underlying3
    dsimp only
    unfold World.cell? at hm
    split at hm
    · rename_i c T fr hc
      refine ⟨lt hc, c, T, fr, hc, m, ?_⟩
      simpa using hm
    · cases hm
  rcases List.mem_cons.1 hg with rfl | hg
  · have h2 := laidMet.filter (fun x => x.1 == "strconv.ErrSyntax") (plain_laid h)
    have e : (laidL.filter fun x => x.1 == "strconv.ErrSyntax") = ("strconv.ErrSyntax", Rows.laid_strconv_ErrSyntax) :: [] := by rfl
    rw [e] at h2
    obtain ⟨c, T, fr, hc, h4⟩ := err_var "strconv.ErrSyntax" 1 _ h2 (by kernel_rfl) (by kernel_rfl)
    exact ⟨lt hc, c, T, fr, hc, h4⟩
  rcases List.mem_cons.1 hg with rfl | hg
  · have h2 := laidMet.filter (fun x => x.1 == "strconv.ErrRange") (plain_laid h)
    have e : (laidL.filter fun x => x.1 == "strconv.ErrRange") = ("strconv.ErrRange", Rows.laid_strconv_ErrRange) :: [] := by rfl
    rw [e] at h2
    obtain ⟨c, T, fr, hc, h4⟩ := err_var "strconv.ErrRange" 2 _ h2 (by kernel_rfl) (by kernel_rfl)
    exact ⟨lt hc, c, T, fr, hc, h4⟩
  · cases hg
/-- The wrap with a condition on the world, that hands on the world's shape. -/
theorem handed_and_shaped {H : Type} {enc : TypeId × Value → H} {a : Assume} {C : Checked} {os : Os} {f : FuncId} {fn : Func} {s : ChangeSpec} {conds : List PathCond} {apart fresh handsOn again : Bool} {X : World → Array Value → Prop}
    (hX : ∀ (w w' : World) (args : Array Value), w.heap = w'.heap → X w args → X w' args)
    (own : ownKnob C.prog.godebug = none) (started : os.Started) (noInit : C.prog.inits.idxOf? f = none) (hfn : C.prog.funcs[f]? = some fn)
    (witness : ∃ (w : World) (tape : Tape) (i : Input), w.os = os ∧ (w.forCall tape i).Shaped C.prog ∧ i.vars = [] ∧ Input.okWide C.prog (w.forCall tape i) .any w.heap.size f i ∧
      ((s.pre enc C.prog fn conds apart (w.forCall tape i).memory i.args ∧ X (w.forCall tape i).memory i.args) ∧ sizedMet enc C.prog fn (OpenSpec.ofChange s) apart (w.forCall tape i).memory i.args) ∧ a.holds C.prog (lone (Frame.enter C.prog f i.args .normal) [] (w.forCall tape i)))
    (contract : ∀ (W : World) (base : Nat) (args : Array Value) (ds gs : List (DataW H)) (before : List MemPlace),
      (∀ (j : Nat) t v, fn.params[j]? = some t → args[j]? = some v → Value.okWide C.prog W .any base t v) →
      DataW.Whole enc C.prog fn.params.toList s.vars apart W args.toList ds gs before →
      conds.all (PathCond.test C.prog ⟨fn.params.toList, ds, s.plain.varTypes C.prog, gs⟩) = true → X W args → W.ShapedOpen C.prog →
      Calls C.prog f args W fun e W' => ∃ v, e = .returned v ∧ s.post enc C.prog fn apart fresh handsOn again W args v W') :
    ReturnsInHanded a C os f .any (fun w args => (s.pre enc C.prog fn conds apart w args ∧ X w args) ∧ sizedMet enc C.prog fn (OpenSpec.ofChange s) apart w args) (s.post enc C.prog fn apart fresh handsOn again) := by
  refine returnsInHanded_of_calls own started noInit witness ?_
  intro w tape i _ hsh _ hok hpre hholds
  obtain ⟨_, _, _, fn', hfn', _, _, _, _, hval⟩ := hok
  have e : fn' = fn := Option.some.inj (hfn'.symm.trans hfn)
  subst e
  obtain ⟨⟨⟨ds, gs, before, hw, hc⟩, hx⟩, hz⟩ := hpre
  have hw' := DataW.Whole.of_heap (w' := w.forCall tape i) (by rfl) hw
  refine (contract (w.forCall tape i) w.heap.size i.args ds gs before hval hw' hc (hX _ _ _ (by rfl) hx) hsh).mono fun e W' ⟨v, he, hp⟩ => ?_
  subst he
  exact ChangeSpec.post_blind hp
end Go.Proofs.YtfgchlkagiihnaaGreatDoor
