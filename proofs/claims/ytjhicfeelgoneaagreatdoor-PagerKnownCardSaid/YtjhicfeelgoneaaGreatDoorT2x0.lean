/- Tables of closed calls, 2, 0: what each comes to, run once by the mirror. No condition. -/
import Derived.Test.YtjhicfeelgoneaaGreatDoorT1
import Derived.Test.YtjhicfeelgoneaaGreatDoorMir8
import Derived.KernelRfl
namespace Go.Proofs.YtjhicfeelgoneaaGreatDoor
open Go Go.Mir
set_option maxRecDepth 100000
section
noncomputable def tb2x0 : List EntC := [⟨100, [.str [97, 10], .int .i64 (3), .agg [.int .i64 (0), .bool false, .int .i8 (0), .bool false, .bool false]], .ptr 34 0, [⟨33, .cells 28 false 0 [.int .i8 (0), .int .i8 (2)]⟩, ⟨34, .cells 159 false 0 [.str [97], .sl 33 0 2 2 1 false, .bool true, .int .i64 (3), .int .i64 (0), .bool false, .int .i8 (0), .bool false, .bool false]⟩], 43⟩,
  ⟨131, [.str [97]], .bool false, [], 10⟩,
  ⟨132, [.str [97], .int .i64 (0), .agg [.int .i64 (0), .bool false, .int .i8 (0), .bool false, .bool false]], .tup [.str [97], .int .i64 (1)], [], 17⟩,
  ⟨75, [.str [97, 10]], .sl 31 0 2 2 1 false, [⟨31, .cells 28 false 0 [.int .i8 (0), .int .i8 (2)]⟩], 32⟩,
  ⟨100, [.str [98, 10], .int .i64 (3), .agg [.int .i64 (0), .bool false, .int .i8 (0), .bool false, .bool false]], .ptr 34 0, [⟨33, .cells 28 false 0 [.int .i8 (0), .int .i8 (2)]⟩, ⟨34, .cells 159 false 0 [.str [98], .sl 33 0 2 2 1 false, .bool true, .int .i64 (3), .int .i64 (0), .bool false, .int .i8 (0), .bool false, .bool false]⟩], 43⟩,
  ⟨131, [.str [98]], .bool false, [], 10⟩,
  ⟨132, [.str [98], .int .i64 (0), .agg [.int .i64 (0), .bool false, .int .i8 (0), .bool false, .bool false]], .tup [.str [98], .int .i64 (1)], [], 17⟩,
  ⟨75, [.str [98, 10]], .sl 31 0 2 2 1 false, [⟨31, .cells 28 false 0 [.int .i8 (0), .int .i8 (2)]⟩], 32⟩,
  ⟨100, [.str [99, 10], .int .i64 (3), .agg [.int .i64 (0), .bool false, .int .i8 (0), .bool false, .bool false]], .ptr 34 0, [⟨33, .cells 28 false 0 [.int .i8 (0), .int .i8 (2)]⟩, ⟨34, .cells 159 false 0 [.str [99], .sl 33 0 2 2 1 false, .bool true, .int .i64 (3), .int .i64 (0), .bool false, .int .i8 (0), .bool false, .bool false]⟩], 43⟩,
  ⟨131, [.str [99]], .bool false, [], 10⟩,
  ⟨132, [.str [99], .int .i64 (0), .agg [.int .i64 (0), .bool false, .int .i8 (0), .bool false, .bool false]], .tup [.str [99], .int .i64 (1)], [], 17⟩,
  ⟨75, [.str [99, 10]], .sl 31 0 2 2 1 false, [⟨31, .cells 28 false 0 [.int .i8 (0), .int .i8 (2)]⟩], 32⟩,
  ⟨100, [.str [100], .int .i64 (3), .agg [.int .i64 (0), .bool false, .int .i8 (0), .bool false, .bool false]], .ptr 24 0, [⟨23, .cells 28 false 0 [.int .i8 (0)]⟩, ⟨24, .cells 159 false 0 [.str [100], .sl 23 0 1 1 1 false, .bool false, .int .i64 (3), .int .i64 (0), .bool false, .int .i8 (0), .bool false, .bool false]⟩], 31⟩,
  ⟨131, [.str [100]], .bool false, [], 10⟩,
  ⟨132, [.str [100], .int .i64 (0), .agg [.int .i64 (0), .bool false, .int .i8 (0), .bool false, .bool false]], .tup [.str [100], .int .i64 (1)], [], 17⟩,
  ⟨75, [.str [100]], .sl 21 0 1 1 1 false, [⟨21, .cells 28 false 0 [.int .i8 (0)]⟩], 22⟩,
  ⟨100, [.str [100, 10], .int .i64 (3), .agg [.int .i64 (0), .bool false, .int .i8 (0), .bool false, .bool false]], .ptr 34 0, [⟨33, .cells 28 false 0 [.int .i8 (0), .int .i8 (2)]⟩, ⟨34, .cells 159 false 0 [.str [100], .sl 33 0 2 2 1 false, .bool true, .int .i64 (3), .int .i64 (0), .bool false, .int .i8 (0), .bool false, .bool false]⟩], 43⟩,
  ⟨75, [.str [100, 10]], .sl 31 0 2 2 1 false, [⟨31, .cells 28 false 0 [.int .i8 (0), .int .i8 (2)]⟩], 32⟩,
  ⟨100, [.str [101], .int .i64 (3), .agg [.int .i64 (0), .bool false, .int .i8 (0), .bool false, .bool false]], .ptr 24 0, [⟨23, .cells 28 false 0 [.int .i8 (0)]⟩, ⟨24, .cells 159 false 0 [.str [101], .sl 23 0 1 1 1 false, .bool false, .int .i64 (3), .int .i64 (0), .bool false, .int .i8 (0), .bool false, .bool false]⟩], 31⟩,
  ⟨131, [.str [101]], .bool false, [], 10⟩,
  ⟨132, [.str [101], .int .i64 (0), .agg [.int .i64 (0), .bool false, .int .i8 (0), .bool false, .bool false]], .tup [.str [101], .int .i64 (1)], [], 17⟩,
  ⟨75, [.str [101]], .sl 21 0 1 1 1 false, [⟨21, .cells 28 false 0 [.int .i8 (0)]⟩], 22⟩,
  ⟨100, [.str [50, 45, 51, 47, 52, 32, 53, 48, 37], .int .i64 (3), .agg [.int .i64 (0), .bool false, .int .i8 (0), .bool false, .bool false]], .ptr 217 0, [⟨216, .cells 28 false 0 [.int .i8 (0), .int .i8 (0), .int .i8 (0), .int .i8 (0), .int .i8 (0), .int .i8 (1), .int .i8 (0), .int .i8 (0), .int .i8 (0)]⟩, ⟨217, .cells 159 false 0 [.str [50, 45, 51, 47, 52, 32, 53, 48, 37], .sl 216 0 9 9 1 false, .bool false, .int .i64 (3), .int .i64 (0), .bool false, .int .i8 (0), .bool false, .bool false]⟩], 240⟩,
  ⟨131, [.str [50]], .bool false, [], 10⟩,
  ⟨132, [.str [50], .int .i64 (0), .agg [.int .i64 (0), .bool false, .int .i8 (0), .bool false, .bool false]], .tup [.str [50], .int .i64 (1)], [], 17⟩,
  ⟨131, [.str [45]], .bool false, [], 10⟩,
  ⟨132, [.str [45], .int .i64 (1), .agg [.int .i64 (0), .bool false, .int .i8 (0), .bool false, .bool false]], .tup [.str [45], .int .i64 (1)], [], 17⟩,
  ⟨131, [.str [51]], .bool false, [], 10⟩,
  ⟨132, [.str [51], .int .i64 (2), .agg [.int .i64 (0), .bool false, .int .i8 (0), .bool false, .bool false]], .tup [.str [51], .int .i64 (1)], [], 17⟩,
  ⟨131, [.str [47]], .bool false, [], 10⟩,
  ⟨132, [.str [47], .int .i64 (3), .agg [.int .i64 (0), .bool false, .int .i8 (0), .bool false, .bool false]], .tup [.str [47], .int .i64 (1)], [], 17⟩,
  ⟨132, [.str [47], .int .i64 (0), .agg [.int .i64 (0), .bool false, .int .i8 (0), .bool false, .bool false]], .tup [.str [47], .int .i64 (1)], [], 17⟩,
  ⟨131, [.str [52]], .bool false, [], 10⟩,
  ⟨132, [.str [52], .int .i64 (1), .agg [.int .i64 (0), .bool false, .int .i8 (0), .bool false, .bool false]], .tup [.str [52], .int .i64 (1)], [], 17⟩,
  ⟨131, [.str [32]], .bool true, [], 10⟩,
  ⟨132, [.str [32], .int .i64 (2), .agg [.int .i64 (0), .bool false, .int .i8 (0), .bool false, .bool false]], .tup [.str [32], .int .i64 (1)], [], 17⟩,
  ⟨131, [.str [53]], .bool false, [], 10⟩,
  ⟨132, [.str [53], .int .i64 (3), .agg [.int .i64 (0), .bool false, .int .i8 (0), .bool false, .bool false]], .tup [.str [53], .int .i64 (1)], [], 17⟩,
  ⟨132, [.str [53], .int .i64 (0), .agg [.int .i64 (0), .bool false, .int .i8 (0), .bool false, .bool false]], .tup [.str [53], .int .i64 (1)], [], 17⟩,
  ⟨131, [.str [48]], .bool false, [], 10⟩,
  ⟨132, [.str [48], .int .i64 (1), .agg [.int .i64 (0), .bool false, .int .i8 (0), .bool false, .bool false]], .tup [.str [48], .int .i64 (1)], [], 17⟩,
  ⟨131, [.str [37]], .bool false, [], 10⟩,
  ⟨132, [.str [37], .int .i64 (2), .agg [.int .i64 (0), .bool false, .int .i8 (0), .bool false, .bool false]], .tup [.str [37], .int .i64 (1)], [], 17⟩,
  ⟨75, [.str [50, 45, 51, 47, 52, 32, 53, 48, 37]], .sl 214 0 9 9 1 false, [⟨214, .cells 28 false 0 [.int .i8 (0), .int .i8 (0), .int .i8 (0), .int .i8 (0), .int .i8 (0), .int .i8 (1), .int .i8 (0), .int .i8 (0), .int .i8 (0)]⟩], 215⟩]
theorem tb2x0_form : formC Tryz.prog 8 tb2x0 = true := by kernel_rfl
theorem tb2x0_run : runsC Tryz.prog (hook1) K 1000000 8 gs tb2x0 = true := by kernel_rfl
end
end Go.Proofs.YtjhicfeelgoneaaGreatDoor
