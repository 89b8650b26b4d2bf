import Derived.Test.YtmechjnfeidnkaaA3
import Derived.Test.YtmechjnfeidnkaaProg
import Derived.KernelRfl
set_option linter.unusedVariables false
namespace Go.Proofs.Ytmechjnfeidnkaa.V
open Go Go.RowKit
def T : List (Nat × TI) := [
  (2, ⟨(.int .i64), false, 8, 0, [], false⟩),
  (3, ⟨(.int .i64), false, 8, 0, [], false⟩),
  (4, ⟨.bool, false, 1, 0, [], false⟩),
  (5, ⟨(.int .u8), false, 1, 0, [], false⟩),
  (6, ⟨(.int .u8), false, 1, 0, [], false⟩),
  (7, ⟨(.pr (.int .i64) (.pr (.int .i64) (.pr .bool (.int .u8)))), true, 24, 4, [(false, (.int .i64)), (false, (.int .i64)), (false, .bool), (false, (.int .u8))], true⟩),
  (8, ⟨(.pr (.int .i64) (.pr (.int .i64) (.pr .bool (.int .u8)))), true, 24, 4, [(false, (.int .i64)), (false, (.int .i64)), (false, .bool), (false, (.int .u8))], true⟩),
  (9, ⟨.str, false, 16, 0, [], false⟩),
  (10, ⟨.str, false, 16, 0, [], false⟩),
  (11, ⟨.str, false, 16, 0, [], false⟩),
  (12, ⟨(.int .u64), false, 8, 0, [], false⟩),
  (21, ⟨(.int .i32), false, 4, 0, [], false⟩),
  (22, ⟨(.sl 5 (.int .u8)), false, 24, 0, [], false⟩),
  (24, ⟨(.sl 71 (.pr (.int .i64) (.pr (.int .i64) (.int .i64)))), false, 24, 0, [], false⟩),
  (25, ⟨(.sl 3 (.int .i64)), false, 24, 0, [], false⟩),
  (26, ⟨(.sl 75 (.pr (.int .i64) (.int .i64))), false, 24, 0, [], false⟩),
  (27, ⟨(.sl 25 (.sl 3 (.int .i64))), false, 24, 0, [], false⟩),
  (28, ⟨(.sl 4 .bool), false, 24, 0, [], false⟩),
  (29, ⟨(.sl 4 .bool), true, 24, 1, [(false, (.sl 4 .bool))], false⟩),
  (30, ⟨(.sl 4 .bool), true, 24, 1, [(false, (.sl 4 .bool))], false⟩),
  (31, ⟨(.pr (.sl 71 (.pr (.int .i64) (.pr (.int .i64) (.int .i64)))) (.pr (.sl 3 (.int .i64)) (.pr (.sl 75 (.pr (.int .i64) (.int .i64))) (.pr (.sl 25 (.sl 3 (.int .i64))) (.sl 4 .bool))))), true, 120, 5, [(false, (.sl 71 (.pr (.int .i64) (.pr (.int .i64) (.int .i64))))), (false, (.sl 3 (.int .i64))), (false, (.sl 75 (.pr (.int .i64) (.int .i64)))), (false, (.sl 25 (.sl 3 (.int .i64)))), (true, (.sl 4 .bool))], false⟩),
  (32, ⟨(.pr (.sl 71 (.pr (.int .i64) (.pr (.int .i64) (.int .i64)))) (.pr (.sl 3 (.int .i64)) (.pr (.sl 75 (.pr (.int .i64) (.int .i64))) (.pr (.sl 25 (.sl 3 (.int .i64))) (.sl 4 .bool))))), true, 120, 5, [(false, (.sl 71 (.pr (.int .i64) (.pr (.int .i64) (.int .i64))))), (false, (.sl 3 (.int .i64))), (false, (.sl 75 (.pr (.int .i64) (.int .i64)))), (false, (.sl 25 (.sl 3 (.int .i64)))), (true, (.sl 4 .bool))], false⟩),
  (40, ⟨(.sl 80 (.pr (.int .i64) (.pr (.int .i64) (.int .i64)))), false, 24, 0, [], false⟩),
  (50, ⟨(.sl 115 (.pr (.int .i64) (.int .i64))), false, 24, 0, [], false⟩),
  (51, ⟨(.sl 4 .bool), true, 24, 1, [(false, (.sl 4 .bool))], false⟩),
  (52, ⟨(.pr (.sl 80 (.pr (.int .i64) (.pr (.int .i64) (.int .i64)))) (.pr (.sl 3 (.int .i64)) (.pr (.sl 115 (.pr (.int .i64) (.int .i64))) (.pr (.sl 25 (.sl 3 (.int .i64))) (.sl 4 .bool))))), true, 120, 5, [(false, (.sl 80 (.pr (.int .i64) (.pr (.int .i64) (.int .i64))))), (false, (.sl 3 (.int .i64))), (false, (.sl 115 (.pr (.int .i64) (.int .i64)))), (false, (.sl 25 (.sl 3 (.int .i64)))), (true, (.sl 4 .bool))], false⟩),
  (53, ⟨(.pr (.sl 80 (.pr (.int .i64) (.pr (.int .i64) (.int .i64)))) (.pr (.sl 3 (.int .i64)) (.pr (.sl 115 (.pr (.int .i64) (.int .i64))) (.pr (.sl 25 (.sl 3 (.int .i64))) (.sl 4 .bool))))), true, 120, 5, [(false, (.sl 80 (.pr (.int .i64) (.pr (.int .i64) (.int .i64))))), (false, (.sl 3 (.int .i64))), (false, (.sl 115 (.pr (.int .i64) (.int .i64)))), (false, (.sl 25 (.sl 3 (.int .i64)))), (true, (.sl 4 .bool))], false⟩),
  (63, ⟨(.pr (.sl 3 (.int .i64)) (.pr (.sl 3 (.int .i64)) (.sl 3 (.int .i64)))), true, 72, 3, [(false, (.sl 3 (.int .i64))), (false, (.sl 3 (.int .i64))), (false, (.sl 3 (.int .i64)))], false⟩),
  (64, ⟨(.pr (.sl 3 (.int .i64)) (.pr (.sl 3 (.int .i64)) (.sl 3 (.int .i64)))), true, 72, 3, [(false, (.sl 3 (.int .i64))), (false, (.sl 3 (.int .i64))), (false, (.sl 3 (.int .i64)))], false⟩),
  (70, ⟨(.pr (.int .i64) (.pr (.int .i64) (.int .i64))), true, 24, 3, [(false, (.int .i64)), (false, (.int .i64)), (false, (.int .i64))], true⟩),
  (71, ⟨(.pr (.int .i64) (.pr (.int .i64) (.int .i64))), true, 24, 3, [(false, (.int .i64)), (false, (.int .i64)), (false, (.int .i64))], true⟩),
  (74, ⟨(.pr (.int .i64) (.int .i64)), true, 16, 2, [(false, (.int .i64)), (false, (.int .i64))], true⟩),
  (75, ⟨(.pr (.int .i64) (.int .i64)), true, 16, 2, [(false, (.int .i64)), (false, (.int .i64))], true⟩),
  (80, ⟨(.pr (.int .i64) (.pr (.int .i64) (.int .i64))), true, 24, 3, [(false, (.int .i64)), (false, (.int .i64)), (false, (.int .i64))], true⟩),
  (97, ⟨(.pr (.sl 5 (.int .u8)) (.pr (.int .i64) (.int .i64))), true, 40, 3, [(false, (.sl 5 (.int .u8))), (false, (.int .i64)), (false, (.int .i64))], false⟩),
  (98, ⟨(.pr (.sl 5 (.int .u8)) (.pr (.int .i64) (.int .i64))), true, 40, 3, [(false, (.sl 5 (.int .u8))), (false, (.int .i64)), (false, (.int .i64))], false⟩),
  (105, ⟨(.pr (.sl 71 (.pr (.int .i64) (.pr (.int .i64) (.int .i64)))) (.pr (.pr (.sl 3 (.int .i64)) (.pr (.sl 3 (.int .i64)) (.sl 3 (.int .i64)))) (.int .i64))), true, 104, 3, [(false, (.sl 71 (.pr (.int .i64) (.pr (.int .i64) (.int .i64))))), (true, (.pr (.sl 3 (.int .i64)) (.pr (.sl 3 (.int .i64)) (.sl 3 (.int .i64))))), (false, (.int .i64))], false⟩),
  (106, ⟨(.pr (.sl 71 (.pr (.int .i64) (.pr (.int .i64) (.int .i64)))) (.pr (.pr (.sl 3 (.int .i64)) (.pr (.sl 3 (.int .i64)) (.sl 3 (.int .i64)))) (.int .i64))), true, 104, 3, [(false, (.sl 71 (.pr (.int .i64) (.pr (.int .i64) (.int .i64))))), (true, (.pr (.sl 3 (.int .i64)) (.pr (.sl 3 (.int .i64)) (.sl 3 (.int .i64))))), (false, (.int .i64))], false⟩),
  (115, ⟨(.pr (.int .i64) (.int .i64)), true, 16, 2, [(false, (.int .i64)), (false, (.int .i64))], true⟩),
  (121, ⟨(.int .u64), false, 8, 0, [], false⟩),
  (132, ⟨(.int .u32), false, 4, 0, [], false⟩),
  (134, ⟨(.int .u64), false, 8, 0, [], false⟩),
  (143, ⟨(.int .i64), false, 8, 0, [], false⟩),
  (151, ⟨(.int .u64), false, 8, 0, [], false⟩),
  (166, ⟨(.int .u8), false, 1, 0, [], false⟩),
  (167, ⟨(.int .u8), false, 1, 0, [], false⟩),
  (170, ⟨(.int .i32), false, 4, 0, [], false⟩),
  (171, ⟨(.int .i32), false, 4, 0, [], false⟩)]
theorem tg2 : tget T 2 = some ⟨(.int .i64), false, 8, 0, [], false⟩ := by kernel_rfl
theorem tg3 : tget T 3 = some ⟨(.int .i64), false, 8, 0, [], false⟩ := by kernel_rfl
theorem tg4 : tget T 4 = some ⟨.bool, false, 1, 0, [], false⟩ := by kernel_rfl
theorem tg5 : tget T 5 = some ⟨(.int .u8), false, 1, 0, [], false⟩ := by kernel_rfl
theorem tg6 : tget T 6 = some ⟨(.int .u8), false, 1, 0, [], false⟩ := by kernel_rfl
theorem tg7 : tget T 7 = some ⟨(.pr (.int .i64) (.pr (.int .i64) (.pr .bool (.int .u8)))), true, 24, 4, [(false, (.int .i64)), (false, (.int .i64)), (false, .bool), (false, (.int .u8))], true⟩ := by kernel_rfl
theorem tg8 : tget T 8 = some ⟨(.pr (.int .i64) (.pr (.int .i64) (.pr .bool (.int .u8)))), true, 24, 4, [(false, (.int .i64)), (false, (.int .i64)), (false, .bool), (false, (.int .u8))], true⟩ := by kernel_rfl
theorem tg9 : tget T 9 = some ⟨.str, false, 16, 0, [], false⟩ := by kernel_rfl
theorem tg10 : tget T 10 = some ⟨.str, false, 16, 0, [], false⟩ := by kernel_rfl
theorem tg11 : tget T 11 = some ⟨.str, false, 16, 0, [], false⟩ := by kernel_rfl
theorem tg12 : tget T 12 = some ⟨(.int .u64), false, 8, 0, [], false⟩ := by kernel_rfl
theorem tg21 : tget T 21 = some ⟨(.int .i32), false, 4, 0, [], false⟩ := by kernel_rfl
theorem tg22 : tget T 22 = some ⟨(.sl 5 (.int .u8)), false, 24, 0, [], false⟩ := by kernel_rfl
theorem tg24 : tget T 24 = some ⟨(.sl 71 (.pr (.int .i64) (.pr (.int .i64) (.int .i64)))), false, 24, 0, [], false⟩ := by kernel_rfl
theorem tg25 : tget T 25 = some ⟨(.sl 3 (.int .i64)), false, 24, 0, [], false⟩ := by kernel_rfl
theorem tg26 : tget T 26 = some ⟨(.sl 75 (.pr (.int .i64) (.int .i64))), false, 24, 0, [], false⟩ := by kernel_rfl
theorem tg27 : tget T 27 = some ⟨(.sl 25 (.sl 3 (.int .i64))), false, 24, 0, [], false⟩ := by kernel_rfl
theorem tg28 : tget T 28 = some ⟨(.sl 4 .bool), false, 24, 0, [], false⟩ := by kernel_rfl
theorem tg29 : tget T 29 = some ⟨(.sl 4 .bool), true, 24, 1, [(false, (.sl 4 .bool))], false⟩ := by kernel_rfl
theorem tg30 : tget T 30 = some ⟨(.sl 4 .bool), true, 24, 1, [(false, (.sl 4 .bool))], false⟩ := by kernel_rfl
theorem tg31 : tget T 31 = some ⟨(.pr (.sl 71 (.pr (.int .i64) (.pr (.int .i64) (.int .i64)))) (.pr (.sl 3 (.int .i64)) (.pr (.sl 75 (.pr (.int .i64) (.int .i64))) (.pr (.sl 25 (.sl 3 (.int .i64))) (.sl 4 .bool))))), true, 120, 5, [(false, (.sl 71 (.pr (.int .i64) (.pr (.int .i64) (.int .i64))))), (false, (.sl 3 (.int .i64))), (false, (.sl 75 (.pr (.int .i64) (.int .i64)))), (false, (.sl 25 (.sl 3 (.int .i64)))), (true, (.sl 4 .bool))], false⟩ := by kernel_rfl
theorem tg32 : tget T 32 = some ⟨(.pr (.sl 71 (.pr (.int .i64) (.pr (.int .i64) (.int .i64)))) (.pr (.sl 3 (.int .i64)) (.pr (.sl 75 (.pr (.int .i64) (.int .i64))) (.pr (.sl 25 (.sl 3 (.int .i64))) (.sl 4 .bool))))), true, 120, 5, [(false, (.sl 71 (.pr (.int .i64) (.pr (.int .i64) (.int .i64))))), (false, (.sl 3 (.int .i64))), (false, (.sl 75 (.pr (.int .i64) (.int .i64)))), (false, (.sl 25 (.sl 3 (.int .i64)))), (true, (.sl 4 .bool))], false⟩ := by kernel_rfl
theorem tg40 : tget T 40 = some ⟨(.sl 80 (.pr (.int .i64) (.pr (.int .i64) (.int .i64)))), false, 24, 0, [], false⟩ := by kernel_rfl
theorem tg50 : tget T 50 = some ⟨(.sl 115 (.pr (.int .i64) (.int .i64))), false, 24, 0, [], false⟩ := by kernel_rfl
theorem tg51 : tget T 51 = some ⟨(.sl 4 .bool), true, 24, 1, [(false, (.sl 4 .bool))], false⟩ := by kernel_rfl
theorem tg52 : tget T 52 = some ⟨(.pr (.sl 80 (.pr (.int .i64) (.pr (.int .i64) (.int .i64)))) (.pr (.sl 3 (.int .i64)) (.pr (.sl 115 (.pr (.int .i64) (.int .i64))) (.pr (.sl 25 (.sl 3 (.int .i64))) (.sl 4 .bool))))), true, 120, 5, [(false, (.sl 80 (.pr (.int .i64) (.pr (.int .i64) (.int .i64))))), (false, (.sl 3 (.int .i64))), (false, (.sl 115 (.pr (.int .i64) (.int .i64)))), (false, (.sl 25 (.sl 3 (.int .i64)))), (true, (.sl 4 .bool))], false⟩ := by kernel_rfl
theorem tg53 : tget T 53 = some ⟨(.pr (.sl 80 (.pr (.int .i64) (.pr (.int .i64) (.int .i64)))) (.pr (.sl 3 (.int .i64)) (.pr (.sl 115 (.pr (.int .i64) (.int .i64))) (.pr (.sl 25 (.sl 3 (.int .i64))) (.sl 4 .bool))))), true, 120, 5, [(false, (.sl 80 (.pr (.int .i64) (.pr (.int .i64) (.int .i64))))), (false, (.sl 3 (.int .i64))), (false, (.sl 115 (.pr (.int .i64) (.int .i64)))), (false, (.sl 25 (.sl 3 (.int .i64)))), (true, (.sl 4 .bool))], false⟩ := by kernel_rfl
theorem tg63 : tget T 63 = some ⟨(.pr (.sl 3 (.int .i64)) (.pr (.sl 3 (.int .i64)) (.sl 3 (.int .i64)))), true, 72, 3, [(false, (.sl 3 (.int .i64))), (false, (.sl 3 (.int .i64))), (false, (.sl 3 (.int .i64)))], false⟩ := by kernel_rfl
theorem tg64 : tget T 64 = some ⟨(.pr (.sl 3 (.int .i64)) (.pr (.sl 3 (.int .i64)) (.sl 3 (.int .i64)))), true, 72, 3, [(false, (.sl 3 (.int .i64))), (false, (.sl 3 (.int .i64))), (false, (.sl 3 (.int .i64)))], false⟩ := by kernel_rfl
theorem tg70 : tget T 70 = some ⟨(.pr (.int .i64) (.pr (.int .i64) (.int .i64))), true, 24, 3, [(false, (.int .i64)), (false, (.int .i64)), (false, (.int .i64))], true⟩ := by kernel_rfl
theorem tg71 : tget T 71 = some ⟨(.pr (.int .i64) (.pr (.int .i64) (.int .i64))), true, 24, 3, [(false, (.int .i64)), (false, (.int .i64)), (false, (.int .i64))], true⟩ := by kernel_rfl
theorem tg74 : tget T 74 = some ⟨(.pr (.int .i64) (.int .i64)), true, 16, 2, [(false, (.int .i64)), (false, (.int .i64))], true⟩ := by kernel_rfl
theorem tg75 : tget T 75 = some ⟨(.pr (.int .i64) (.int .i64)), true, 16, 2, [(false, (.int .i64)), (false, (.int .i64))], true⟩ := by kernel_rfl
theorem tg80 : tget T 80 = some ⟨(.pr (.int .i64) (.pr (.int .i64) (.int .i64))), true, 24, 3, [(false, (.int .i64)), (false, (.int .i64)), (false, (.int .i64))], true⟩ := by kernel_rfl
theorem tg97 : tget T 97 = some ⟨(.pr (.sl 5 (.int .u8)) (.pr (.int .i64) (.int .i64))), true, 40, 3, [(false, (.sl 5 (.int .u8))), (false, (.int .i64)), (false, (.int .i64))], false⟩ := by kernel_rfl
theorem tg98 : tget T 98 = some ⟨(.pr (.sl 5 (.int .u8)) (.pr (.int .i64) (.int .i64))), true, 40, 3, [(false, (.sl 5 (.int .u8))), (false, (.int .i64)), (false, (.int .i64))], false⟩ := by kernel_rfl
theorem tg105 : tget T 105 = some ⟨(.pr (.sl 71 (.pr (.int .i64) (.pr (.int .i64) (.int .i64)))) (.pr (.pr (.sl 3 (.int .i64)) (.pr (.sl 3 (.int .i64)) (.sl 3 (.int .i64)))) (.int .i64))), true, 104, 3, [(false, (.sl 71 (.pr (.int .i64) (.pr (.int .i64) (.int .i64))))), (true, (.pr (.sl 3 (.int .i64)) (.pr (.sl 3 (.int .i64)) (.sl 3 (.int .i64))))), (false, (.int .i64))], false⟩ := by kernel_rfl
theorem tg106 : tget T 106 = some ⟨(.pr (.sl 71 (.pr (.int .i64) (.pr (.int .i64) (.int .i64)))) (.pr (.pr (.sl 3 (.int .i64)) (.pr (.sl 3 (.int .i64)) (.sl 3 (.int .i64)))) (.int .i64))), true, 104, 3, [(false, (.sl 71 (.pr (.int .i64) (.pr (.int .i64) (.int .i64))))), (true, (.pr (.sl 3 (.int .i64)) (.pr (.sl 3 (.int .i64)) (.sl 3 (.int .i64))))), (false, (.int .i64))], false⟩ := by kernel_rfl
theorem tg115 : tget T 115 = some ⟨(.pr (.int .i64) (.int .i64)), true, 16, 2, [(false, (.int .i64)), (false, (.int .i64))], true⟩ := by kernel_rfl
theorem tg121 : tget T 121 = some ⟨(.int .u64), false, 8, 0, [], false⟩ := by kernel_rfl
theorem tg132 : tget T 132 = some ⟨(.int .u32), false, 4, 0, [], false⟩ := by kernel_rfl
theorem tg134 : tget T 134 = some ⟨(.int .u64), false, 8, 0, [], false⟩ := by kernel_rfl
theorem tg143 : tget T 143 = some ⟨(.int .i64), false, 8, 0, [], false⟩ := by kernel_rfl
theorem tg151 : tget T 151 = some ⟨(.int .u64), false, 8, 0, [], false⟩ := by kernel_rfl
theorem tg166 : tget T 166 = some ⟨(.int .u8), false, 1, 0, [], false⟩ := by kernel_rfl
theorem tg167 : tget T 167 = some ⟨(.int .u8), false, 1, 0, [], false⟩ := by kernel_rfl
theorem tg170 : tget T 170 = some ⟨(.int .i32), false, 4, 0, [], false⟩ := by kernel_rfl
theorem tg171 : tget T 171 = some ⟨(.int .i32), false, 4, 0, [], false⟩ := by kernel_rfl

theorem tgs : (tget T 2 = some ⟨(.int .i64), false, 8, 0, [], false⟩) ∧ (tget T 3 = some ⟨(.int .i64), false, 8, 0, [], false⟩) ∧ (tget T 4 = some ⟨.bool, false, 1, 0, [], false⟩) ∧ (tget T 5 = some ⟨(.int .u8), false, 1, 0, [], false⟩) ∧ (tget T 6 = some ⟨(.int .u8), false, 1, 0, [], false⟩) ∧ (tget T 7 = some ⟨(.pr (.int .i64) (.pr (.int .i64) (.pr .bool (.int .u8)))), true, 24, 4, [(false, (.int .i64)), (false, (.int .i64)), (false, .bool), (false, (.int .u8))], true⟩) ∧ (tget T 8 = some ⟨(.pr (.int .i64) (.pr (.int .i64) (.pr .bool (.int .u8)))), true, 24, 4, [(false, (.int .i64)), (false, (.int .i64)), (false, .bool), (false, (.int .u8))], true⟩) ∧ (tget T 9 = some ⟨.str, false, 16, 0, [], false⟩) ∧ (tget T 10 = some ⟨.str, false, 16, 0, [], false⟩) ∧ (tget T 11 = some ⟨.str, false, 16, 0, [], false⟩) ∧ (tget T 12 = some ⟨(.int .u64), false, 8, 0, [], false⟩) ∧ (tget T 21 = some ⟨(.int .i32), false, 4, 0, [], false⟩) ∧ (tget T 22 = some ⟨(.sl 5 (.int .u8)), false, 24, 0, [], false⟩) ∧ (tget T 24 = some ⟨(.sl 71 (.pr (.int .i64) (.pr (.int .i64) (.int .i64)))), false, 24, 0, [], false⟩) ∧ (tget T 25 = some ⟨(.sl 3 (.int .i64)), false, 24, 0, [], false⟩) ∧ (tget T 26 = some ⟨(.sl 75 (.pr (.int .i64) (.int .i64))), false, 24, 0, [], false⟩) ∧ (tget T 27 = some ⟨(.sl 25 (.sl 3 (.int .i64))), false, 24, 0, [], false⟩) ∧ (tget T 28 = some ⟨(.sl 4 .bool), false, 24, 0, [], false⟩) ∧ (tget T 29 = some ⟨(.sl 4 .bool), true, 24, 1, [(false, (.sl 4 .bool))], false⟩) ∧ (tget T 30 = some ⟨(.sl 4 .bool), true, 24, 1, [(false, (.sl 4 .bool))], false⟩) ∧ (tget T 31 = some ⟨(.pr (.sl 71 (.pr (.int .i64) (.pr (.int .i64) (.int .i64)))) (.pr (.sl 3 (.int .i64)) (.pr (.sl 75 (.pr (.int .i64) (.int .i64))) (.pr (.sl 25 (.sl 3 (.int .i64))) (.sl 4 .bool))))), true, 120, 5, [(false, (.sl 71 (.pr (.int .i64) (.pr (.int .i64) (.int .i64))))), (false, (.sl 3 (.int .i64))), (false, (.sl 75 (.pr (.int .i64) (.int .i64)))), (false, (.sl 25 (.sl 3 (.int .i64)))), (true, (.sl 4 .bool))], false⟩) ∧ (tget T 32 = some ⟨(.pr (.sl 71 (.pr (.int .i64) (.pr (.int .i64) (.int .i64)))) (.pr (.sl 3 (.int .i64)) (.pr (.sl 75 (.pr (.int .i64) (.int .i64))) (.pr (.sl 25 (.sl 3 (.int .i64))) (.sl 4 .bool))))), true, 120, 5, [(false, (.sl 71 (.pr (.int .i64) (.pr (.int .i64) (.int .i64))))), (false, (.sl 3 (.int .i64))), (false, (.sl 75 (.pr (.int .i64) (.int .i64)))), (false, (.sl 25 (.sl 3 (.int .i64)))), (true, (.sl 4 .bool))], false⟩) ∧ (tget T 40 = some ⟨(.sl 80 (.pr (.int .i64) (.pr (.int .i64) (.int .i64)))), false, 24, 0, [], false⟩) ∧ (tget T 50 = some ⟨(.sl 115 (.pr (.int .i64) (.int .i64))), false, 24, 0, [], false⟩) ∧ (tget T 51 = some ⟨(.sl 4 .bool), true, 24, 1, [(false, (.sl 4 .bool))], false⟩) ∧ (tget T 52 = some ⟨(.pr (.sl 80 (.pr (.int .i64) (.pr (.int .i64) (.int .i64)))) (.pr (.sl 3 (.int .i64)) (.pr (.sl 115 (.pr (.int .i64) (.int .i64))) (.pr (.sl 25 (.sl 3 (.int .i64))) (.sl 4 .bool))))), true, 120, 5, [(false, (.sl 80 (.pr (.int .i64) (.pr (.int .i64) (.int .i64))))), (false, (.sl 3 (.int .i64))), (false, (.sl 115 (.pr (.int .i64) (.int .i64)))), (false, (.sl 25 (.sl 3 (.int .i64)))), (true, (.sl 4 .bool))], false⟩) ∧ (tget T 53 = some ⟨(.pr (.sl 80 (.pr (.int .i64) (.pr (.int .i64) (.int .i64)))) (.pr (.sl 3 (.int .i64)) (.pr (.sl 115 (.pr (.int .i64) (.int .i64))) (.pr (.sl 25 (.sl 3 (.int .i64))) (.sl 4 .bool))))), true, 120, 5, [(false, (.sl 80 (.pr (.int .i64) (.pr (.int .i64) (.int .i64))))), (false, (.sl 3 (.int .i64))), (false, (.sl 115 (.pr (.int .i64) (.int .i64)))), (false, (.sl 25 (.sl 3 (.int .i64)))), (true, (.sl 4 .bool))], false⟩) ∧ (tget T 63 = some ⟨(.pr (.sl 3 (.int .i64)) (.pr (.sl 3 (.int .i64)) (.sl 3 (.int .i64)))), true, 72, 3, [(false, (.sl 3 (.int .i64))), (false, (.sl 3 (.int .i64))), (false, (.sl 3 (.int .i64)))], false⟩) ∧ (tget T 64 = some ⟨(.pr (.sl 3 (.int .i64)) (.pr (.sl 3 (.int .i64)) (.sl 3 (.int .i64)))), true, 72, 3, [(false, (.sl 3 (.int .i64))), (false, (.sl 3 (.int .i64))), (false, (.sl 3 (.int .i64)))], false⟩) ∧ (tget T 70 = some ⟨(.pr (.int .i64) (.pr (.int .i64) (.int .i64))), true, 24, 3, [(false, (.int .i64)), (false, (.int .i64)), (false, (.int .i64))], true⟩) ∧ (tget T 71 = some ⟨(.pr (.int .i64) (.pr (.int .i64) (.int .i64))), true, 24, 3, [(false, (.int .i64)), (false, (.int .i64)), (false, (.int .i64))], true⟩) ∧ (tget T 74 = some ⟨(.pr (.int .i64) (.int .i64)), true, 16, 2, [(false, (.int .i64)), (false, (.int .i64))], true⟩) ∧ (tget T 75 = some ⟨(.pr (.int .i64) (.int .i64)), true, 16, 2, [(false, (.int .i64)), (false, (.int .i64))], true⟩) ∧ (tget T 80 = some ⟨(.pr (.int .i64) (.pr (.int .i64) (.int .i64))), true, 24, 3, [(false, (.int .i64)), (false, (.int .i64)), (false, (.int .i64))], true⟩) ∧ (tget T 97 = some ⟨(.pr (.sl 5 (.int .u8)) (.pr (.int .i64) (.int .i64))), true, 40, 3, [(false, (.sl 5 (.int .u8))), (false, (.int .i64)), (false, (.int .i64))], false⟩) ∧ (tget T 98 = some ⟨(.pr (.sl 5 (.int .u8)) (.pr (.int .i64) (.int .i64))), true, 40, 3, [(false, (.sl 5 (.int .u8))), (false, (.int .i64)), (false, (.int .i64))], false⟩) ∧ (tget T 105 = some ⟨(.pr (.sl 71 (.pr (.int .i64) (.pr (.int .i64) (.int .i64)))) (.pr (.pr (.sl 3 (.int .i64)) (.pr (.sl 3 (.int .i64)) (.sl 3 (.int .i64)))) (.int .i64))), true, 104, 3, [(false, (.sl 71 (.pr (.int .i64) (.pr (.int .i64) (.int .i64))))), (true, (.pr (.sl 3 (.int .i64)) (.pr (.sl 3 (.int .i64)) (.sl 3 (.int .i64))))), (false, (.int .i64))], false⟩) ∧ (tget T 106 = some ⟨(.pr (.sl 71 (.pr (.int .i64) (.pr (.int .i64) (.int .i64)))) (.pr (.pr (.sl 3 (.int .i64)) (.pr (.sl 3 (.int .i64)) (.sl 3 (.int .i64)))) (.int .i64))), true, 104, 3, [(false, (.sl 71 (.pr (.int .i64) (.pr (.int .i64) (.int .i64))))), (true, (.pr (.sl 3 (.int .i64)) (.pr (.sl 3 (.int .i64)) (.sl 3 (.int .i64))))), (false, (.int .i64))], false⟩) ∧ (tget T 115 = some ⟨(.pr (.int .i64) (.int .i64)), true, 16, 2, [(false, (.int .i64)), (false, (.int .i64))], true⟩) ∧ (tget T 121 = some ⟨(.int .u64), false, 8, 0, [], false⟩) ∧ (tget T 132 = some ⟨(.int .u32), false, 4, 0, [], false⟩) ∧ (tget T 134 = some ⟨(.int .u64), false, 8, 0, [], false⟩) ∧ (tget T 143 = some ⟨(.int .i64), false, 8, 0, [], false⟩) ∧ (tget T 151 = some ⟨(.int .u64), false, 8, 0, [], false⟩) ∧ (tget T 166 = some ⟨(.int .u8), false, 1, 0, [], false⟩) ∧ (tget T 167 = some ⟨(.int .u8), false, 1, 0, [], false⟩) ∧ (tget T 170 = some ⟨(.int .i32), false, 4, 0, [], false⟩) ∧ (tget T 171 = some ⟨(.int .i32), false, 4, 0, [], false⟩) := ⟨tg2, tg3, tg4, tg5, tg6, tg7, tg8, tg9, tg10, tg11, tg12, tg21, tg22, tg24, tg25, tg26, tg27, tg28, tg29, tg30, tg31, tg32, tg40, tg50, tg51, tg52, tg53, tg63, tg64, tg70, tg71, tg74, tg75, tg80, tg97, tg98, tg105, tg106, tg115, tg121, tg132, tg134, tg143, tg151, tg166, tg167, tg170, tg171⟩
theorem hT : TabOk Try.prog T := tab_ok (by kernel_rfl)
end Go.Proofs.Ytmechjnfeidnkaa.V
