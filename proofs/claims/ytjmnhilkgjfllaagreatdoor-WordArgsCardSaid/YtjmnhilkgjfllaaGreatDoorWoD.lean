/-
  WordArgs, all of it.
-/
import Derived.Test.YtjmnhilkgjfllaaGreatDoorWoC0
import Derived.Test.YtjmnhilkgjfllaaGreatDoorWoC1
import Derived.Test.YtjmnhilkgjfllaaGreatDoorWoC2
import Derived.Test.YtjmnhilkgjfllaaGreatDoorWoC3
namespace Wo
open Go Go.Proofs Ev
set_option maxRecDepth 1000000
theorem gn (n : Nat) : runA (Int.ofNat (n + 106)) = true := by kernel_rfl
theorem gm (n : Nat) : runA (Int.negSucc n) = true := by kernel_rfl
theorem gAll (a : Int) : runA a = true := match a with
  | .ofNat 0 => g0
  | .ofNat 1 => g1
  | .ofNat 2 => g2
  | .ofNat 3 => g3
  | .ofNat 4 => g4
  | .ofNat 5 => g5
  | .ofNat 6 => g6
  | .ofNat 7 => g7
  | .ofNat 8 => g8
  | .ofNat 9 => g9
  | .ofNat 10 => g10
  | .ofNat 11 => g11
  | .ofNat 12 => g12
  | .ofNat 13 => g13
  | .ofNat 14 => g14
  | .ofNat 15 => g15
  | .ofNat 16 => g16
  | .ofNat 17 => g17
  | .ofNat 18 => g18
  | .ofNat 19 => g19
  | .ofNat 20 => g20
  | .ofNat 21 => g21
  | .ofNat 22 => g22
  | .ofNat 23 => g23
  | .ofNat 24 => g24
  | .ofNat 25 => g25
  | .ofNat 26 => g26
  | .ofNat 27 => g27
  | .ofNat 28 => g28
  | .ofNat 29 => g29
  | .ofNat 30 => g30
  | .ofNat 31 => g31
  | .ofNat 32 => g32
  | .ofNat 33 => g33
  | .ofNat 34 => g34
  | .ofNat 35 => g35
  | .ofNat 36 => g36
  | .ofNat 37 => g37
  | .ofNat 38 => g38
  | .ofNat 39 => g39
  | .ofNat 40 => g40
  | .ofNat 41 => g41
  | .ofNat 42 => g42
  | .ofNat 43 => g43
  | .ofNat 44 => g44
  | .ofNat 45 => g45
  | .ofNat 46 => g46
  | .ofNat 47 => g47
  | .ofNat 48 => g48
  | .ofNat 49 => g49
  | .ofNat 50 => g50
  | .ofNat 51 => g51
  | .ofNat 52 => g52
  | .ofNat 53 => g53
  | .ofNat 54 => g54
  | .ofNat 55 => g55
  | .ofNat 56 => g56
  | .ofNat 57 => g57
  | .ofNat 58 => g58
  | .ofNat 59 => g59
  | .ofNat 60 => g60
  | .ofNat 61 => g61
  | .ofNat 62 => g62
  | .ofNat 63 => g63
  | .ofNat 64 => g64
  | .ofNat 65 => g65
  | .ofNat 66 => g66
  | .ofNat 67 => g67
  | .ofNat 68 => g68
  | .ofNat 69 => g69
  | .ofNat 70 => g70
  | .ofNat 71 => g71
  | .ofNat 72 => g72
  | .ofNat 73 => g73
  | .ofNat 74 => g74
  | .ofNat 75 => g75
  | .ofNat 76 => g76
  | .ofNat 77 => g77
  | .ofNat 78 => g78
  | .ofNat 79 => g79
  | .ofNat 80 => g80
  | .ofNat 81 => g81
  | .ofNat 82 => g82
  | .ofNat 83 => g83
  | .ofNat 84 => g84
  | .ofNat 85 => g85
  | .ofNat 86 => g86
  | .ofNat 87 => g87
  | .ofNat 88 => g88
  | .ofNat 89 => g89
  | .ofNat 90 => g90
  | .ofNat 91 => g91
  | .ofNat 92 => g92
  | .ofNat 93 => g93
  | .ofNat 94 => g94
  | .ofNat 95 => g95
  | .ofNat 96 => g96
  | .ofNat 97 => g97
  | .ofNat 98 => g98
  | .ofNat 99 => g99
  | .ofNat 100 => g100
  | .ofNat 101 => g101
  | .ofNat 102 => g102
  | .ofNat 103 => g103
  | .ofNat 104 => g104
  | .ofNat 105 => g105
  | .ofNat (n + 106) => gn n
  | .negSucc n => gm n
theorem walkA (a : Int) (w : World) (hw : HoldsRows gs w.heap) : Yes 4 #[.int .i64 a] w :=
  law_true_g any_ok types_ok fns_ok extsK_ok gs gs_ok (by kernel_rfl) (gAll a) (fun _ => .cons rfl .nil) w hw
end Wo
