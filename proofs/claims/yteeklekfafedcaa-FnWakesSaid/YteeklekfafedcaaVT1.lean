import Derived.Test.YteeklekfafedcaaV18
import Derived.Test.YteeklekfafedcaaProg
import Derived.KernelRfl
set_option linter.unusedVariables false
namespace Go.Proofs.Yteeklekfafedcaa.V
open Go Go.RowKit
def T : List (Nat × TI) := [
  (2, ⟨(.int .i64), false, 8, 0, [], false⟩),
  (3, ⟨(.int .i64), false, 8, 0, [], false⟩),
  (4, ⟨.bool, false, 1, 0, [], false⟩),
  (5, ⟨(.int .u8), false, 1, 0, [], false⟩),
  (6, ⟨(.int .u8), false, 1, 0, [], false⟩),
  (7, ⟨(.pr (.int .i64) (.pr (.int .i64) (.pr .bool (.int .u8)))), true, 24, 4, [(false, (.int .i64)), (false, (.int .i64)), (false, .bool), (false, (.int .u8))], true⟩),
  (8, ⟨(.pr (.int .i64) (.pr (.int .i64) (.pr .bool (.int .u8)))), true, 24, 4, [(false, (.int .i64)), (false, (.int .i64)), (false, .bool), (false, (.int .u8))], true⟩),
  (9, ⟨.str, false, 16, 0, [], false⟩),
  (10, ⟨.str, false, 16, 0, [], false⟩),
  (11, ⟨.str, false, 16, 0, [], false⟩),
  (12, ⟨(.int .u64), false, 8, 0, [], false⟩),
  (21, ⟨(.int .i32), false, 4, 0, [], false⟩),
  (22, ⟨(.sl 97 (.pr (.int .i64) (.pr (.int .i64) (.pr (.int .i64) .bool)))), false, 24, 0, [], false⟩),
  (25, ⟨(.sl 95 (.pr (.int .i64) (.pr (.int .i64) (.pr (.int .i64) .bool)))), false, 24, 0, [], false⟩),
  (32, ⟨(.sl 105 (.pr (.int .i64) (.pr (.int .i64) (.int .i64)))), false, 24, 0, [], false⟩),
  (34, ⟨(.sl 3 (.int .i64)), false, 24, 0, [], false⟩),
  (36, ⟨(.sl 84 (.pr (.int .i64) (.pr (.int .i64) (.int .i64)))), false, 24, 0, [], false⟩),
  (43, ⟨(.sl 140 (.pr (.int .i64) (.int .i64))), false, 24, 0, [], false⟩),
  (44, ⟨(.sl 34 (.sl 3 (.int .i64))), false, 24, 0, [], false⟩),
  (45, ⟨(.sl 4 .bool), false, 24, 0, [], false⟩),
  (46, ⟨(.sl 4 .bool), true, 24, 1, [(false, (.sl 4 .bool))], false⟩),
  (47, ⟨(.sl 4 .bool), true, 24, 1, [(false, (.sl 4 .bool))], false⟩),
  (48, ⟨(.pr (.sl 105 (.pr (.int .i64) (.pr (.int .i64) (.int .i64)))) (.pr (.sl 3 (.int .i64)) (.pr (.sl 140 (.pr (.int .i64) (.int .i64))) (.pr (.sl 34 (.sl 3 (.int .i64))) (.sl 4 .bool))))), true, 120, 5, [(false, (.sl 105 (.pr (.int .i64) (.pr (.int .i64) (.int .i64))))), (false, (.sl 3 (.int .i64))), (false, (.sl 140 (.pr (.int .i64) (.int .i64)))), (false, (.sl 34 (.sl 3 (.int .i64)))), (true, (.sl 4 .bool))], false⟩),
  (49, ⟨(.pr (.sl 105 (.pr (.int .i64) (.pr (.int .i64) (.int .i64)))) (.pr (.sl 3 (.int .i64)) (.pr (.sl 140 (.pr (.int .i64) (.int .i64))) (.pr (.sl 34 (.sl 3 (.int .i64))) (.sl 4 .bool))))), true, 120, 5, [(false, (.sl 105 (.pr (.int .i64) (.pr (.int .i64) (.int .i64))))), (false, (.sl 3 (.int .i64))), (false, (.sl 140 (.pr (.int .i64) (.int .i64)))), (false, (.sl 34 (.sl 3 (.int .i64)))), (true, (.sl 4 .bool))], false⟩),
  (52, ⟨(.sl 113 (.pr (.int .i64) (.int .i64))), false, 24, 0, [], false⟩),
  (53, ⟨(.sl 4 .bool), true, 24, 1, [(false, (.sl 4 .bool))], false⟩),
  (54, ⟨(.pr (.sl 84 (.pr (.int .i64) (.pr (.int .i64) (.int .i64)))) (.pr (.sl 3 (.int .i64)) (.pr (.sl 113 (.pr (.int .i64) (.int .i64))) (.pr (.sl 34 (.sl 3 (.int .i64))) (.sl 4 .bool))))), true, 120, 5, [(false, (.sl 84 (.pr (.int .i64) (.pr (.int .i64) (.int .i64))))), (false, (.sl 3 (.int .i64))), (false, (.sl 113 (.pr (.int .i64) (.int .i64)))), (false, (.sl 34 (.sl 3 (.int .i64)))), (true, (.sl 4 .bool))], false⟩),
  (55, ⟨(.pr (.sl 84 (.pr (.int .i64) (.pr (.int .i64) (.int .i64)))) (.pr (.sl 3 (.int .i64)) (.pr (.sl 113 (.pr (.int .i64) (.int .i64))) (.pr (.sl 34 (.sl 3 (.int .i64))) (.sl 4 .bool))))), true, 120, 5, [(false, (.sl 84 (.pr (.int .i64) (.pr (.int .i64) (.int .i64))))), (false, (.sl 3 (.int .i64))), (false, (.sl 113 (.pr (.int .i64) (.int .i64)))), (false, (.sl 34 (.sl 3 (.int .i64)))), (true, (.sl 4 .bool))], false⟩),
  (58, ⟨(.sl 5 (.int .u8)), false, 24, 0, [], false⟩),
  (66, ⟨(.pr (.int .i64) (.pr (.int .i64) (.int .i64))), true, 24, 3, [(false, (.int .i64)), (false, (.int .i64)), (false, (.int .i64))], true⟩),
  (67, ⟨(.pr (.int .i64) (.pr (.int .i64) (.int .i64))), true, 24, 3, [(false, (.int .i64)), (false, (.int .i64)), (false, (.int .i64))], true⟩),
  (83, ⟨(.pr (.int .i64) (.pr (.int .i64) (.int .i64))), true, 24, 3, [(false, (.int .i64)), (false, (.int .i64)), (false, (.int .i64))], true⟩),
  (84, ⟨(.pr (.int .i64) (.pr (.int .i64) (.int .i64))), true, 24, 3, [(false, (.int .i64)), (false, (.int .i64)), (false, (.int .i64))], true⟩),
  (94, ⟨(.pr (.int .i64) (.pr (.int .i64) (.pr (.int .i64) .bool))), true, 32, 4, [(false, (.int .i64)), (false, (.int .i64)), (false, (.int .i64)), (false, .bool)], true⟩),
  (95, ⟨(.pr (.int .i64) (.pr (.int .i64) (.pr (.int .i64) .bool))), true, 32, 4, [(false, (.int .i64)), (false, (.int .i64)), (false, (.int .i64)), (false, .bool)], true⟩),
  (97, ⟨(.pr (.int .i64) (.pr (.int .i64) (.pr (.int .i64) .bool))), true, 32, 4, [(false, (.int .i64)), (false, (.int .i64)), (false, (.int .i64)), (false, .bool)], true⟩),
  (105, ⟨(.pr (.int .i64) (.pr (.int .i64) (.int .i64))), true, 24, 3, [(false, (.int .i64)), (false, (.int .i64)), (false, (.int .i64))], true⟩),
  (112, ⟨(.pr (.int .i64) (.int .i64)), true, 16, 2, [(false, (.int .i64)), (false, (.int .i64))], true⟩),
  (113, ⟨(.pr (.int .i64) (.int .i64)), true, 16, 2, [(false, (.int .i64)), (false, (.int .i64))], true⟩),
  (140, ⟨(.pr (.int .i64) (.int .i64)), true, 16, 2, [(false, (.int .i64)), (false, (.int .i64))], true⟩),
  (144, ⟨(.pr (.sl 5 (.int .u8)) (.pr (.int .i64) (.int .i64))), true, 40, 3, [(false, (.sl 5 (.int .u8))), (false, (.int .i64)), (false, (.int .i64))], false⟩),
  (145, ⟨(.pr (.sl 5 (.int .u8)) (.pr (.int .i64) (.int .i64))), true, 40, 3, [(false, (.sl 5 (.int .u8))), (false, (.int .i64)), (false, (.int .i64))], false⟩),
  (151, ⟨(.int .u64), false, 8, 0, [], false⟩),
  (154, ⟨(.int .i64), false, 8, 0, [], false⟩),
  (162, ⟨(.int .u32), false, 4, 0, [], false⟩),
  (164, ⟨(.int .u64), false, 8, 0, [], false⟩),
  (165, ⟨(.int .u64), false, 8, 0, [], false⟩),
  (180, ⟨(.int .u8), false, 1, 0, [], false⟩),
  (181, ⟨(.int .u8), false, 1, 0, [], false⟩),
  (184, ⟨(.int .i32), false, 4, 0, [], false⟩),
  (185, ⟨(.int .i32), false, 4, 0, [], false⟩)]
theorem tg2 : tget T 2 = some ⟨(.int .i64), false, 8, 0, [], false⟩ := by kernel_rfl
theorem tg3 : tget T 3 = some ⟨(.int .i64), false, 8, 0, [], false⟩ := by kernel_rfl
theorem tg4 : tget T 4 = some ⟨.bool, false, 1, 0, [], false⟩ := by kernel_rfl
theorem tg5 : tget T 5 = some ⟨(.int .u8), false, 1, 0, [], false⟩ := by kernel_rfl
theorem tg6 : tget T 6 = some ⟨(.int .u8), false, 1, 0, [], false⟩ := by kernel_rfl
theorem tg7 : tget T 7 = some ⟨(.pr (.int .i64) (.pr (.int .i64) (.pr .bool (.int .u8)))), true, 24, 4, [(false, (.int .i64)), (false, (.int .i64)), (false, .bool), (false, (.int .u8))], true⟩ := by kernel_rfl
theorem tg8 : tget T 8 = some ⟨(.pr (.int .i64) (.pr (.int .i64) (.pr .bool (.int .u8)))), true, 24, 4, [(false, (.int .i64)), (false, (.int .i64)), (false, .bool), (false, (.int .u8))], true⟩ := by kernel_rfl
theorem tg9 : tget T 9 = some ⟨.str, false, 16, 0, [], false⟩ := by kernel_rfl
theorem tg10 : tget T 10 = some ⟨.str, false, 16, 0, [], false⟩ := by kernel_rfl
theorem tg11 : tget T 11 = some ⟨.str, false, 16, 0, [], false⟩ := by kernel_rfl
theorem tg12 : tget T 12 = some ⟨(.int .u64), false, 8, 0, [], false⟩ := by kernel_rfl
theorem tg21 : tget T 21 = some ⟨(.int .i32), false, 4, 0, [], false⟩ := by kernel_rfl
theorem tg22 : tget T 22 = some ⟨(.sl 97 (.pr (.int .i64) (.pr (.int .i64) (.pr (.int .i64) .bool)))), false, 24, 0, [], false⟩ := by kernel_rfl
theorem tg25 : tget T 25 = some ⟨(.sl 95 (.pr (.int .i64) (.pr (.int .i64) (.pr (.int .i64) .bool)))), false, 24, 0, [], false⟩ := by kernel_rfl
theorem tg32 : tget T 32 = some ⟨(.sl 105 (.pr (.int .i64) (.pr (.int .i64) (.int .i64)))), false, 24, 0, [], false⟩ := by kernel_rfl
theorem tg34 : tget T 34 = some ⟨(.sl 3 (.int .i64)), false, 24, 0, [], false⟩ := by kernel_rfl
theorem tg36 : tget T 36 = some ⟨(.sl 84 (.pr (.int .i64) (.pr (.int .i64) (.int .i64)))), false, 24, 0, [], false⟩ := by kernel_rfl
theorem tg43 : tget T 43 = some ⟨(.sl 140 (.pr (.int .i64) (.int .i64))), false, 24, 0, [], false⟩ := by kernel_rfl
theorem tg44 : tget T 44 = some ⟨(.sl 34 (.sl 3 (.int .i64))), false, 24, 0, [], false⟩ := by kernel_rfl
theorem tg45 : tget T 45 = some ⟨(.sl 4 .bool), false, 24, 0, [], false⟩ := by kernel_rfl
theorem tg46 : tget T 46 = some ⟨(.sl 4 .bool), true, 24, 1, [(false, (.sl 4 .bool))], false⟩ := by kernel_rfl
theorem tg47 : tget T 47 = some ⟨(.sl 4 .bool), true, 24, 1, [(false, (.sl 4 .bool))], false⟩ := by kernel_rfl
theorem tg48 : tget T 48 = some ⟨(.pr (.sl 105 (.pr (.int .i64) (.pr (.int .i64) (.int .i64)))) (.pr (.sl 3 (.int .i64)) (.pr (.sl 140 (.pr (.int .i64) (.int .i64))) (.pr (.sl 34 (.sl 3 (.int .i64))) (.sl 4 .bool))))), true, 120, 5, [(false, (.sl 105 (.pr (.int .i64) (.pr (.int .i64) (.int .i64))))), (false, (.sl 3 (.int .i64))), (false, (.sl 140 (.pr (.int .i64) (.int .i64)))), (false, (.sl 34 (.sl 3 (.int .i64)))), (true, (.sl 4 .bool))], false⟩ := by kernel_rfl
theorem tg49 : tget T 49 = some ⟨(.pr (.sl 105 (.pr (.int .i64) (.pr (.int .i64) (.int .i64)))) (.pr (.sl 3 (.int .i64)) (.pr (.sl 140 (.pr (.int .i64) (.int .i64))) (.pr (.sl 34 (.sl 3 (.int .i64))) (.sl 4 .bool))))), true, 120, 5, [(false, (.sl 105 (.pr (.int .i64) (.pr (.int .i64) (.int .i64))))), (false, (.sl 3 (.int .i64))), (false, (.sl 140 (.pr (.int .i64) (.int .i64)))), (false, (.sl 34 (.sl 3 (.int .i64)))), (true, (.sl 4 .bool))], false⟩ := by kernel_rfl
theorem tg52 : tget T 52 = some ⟨(.sl 113 (.pr (.int .i64) (.int .i64))), false, 24, 0, [], false⟩ := by kernel_rfl
theorem tg53 : tget T 53 = some ⟨(.sl 4 .bool), true, 24, 1, [(false, (.sl 4 .bool))], false⟩ := by kernel_rfl
theorem tg54 : tget T 54 = some ⟨(.pr (.sl 84 (.pr (.int .i64) (.pr (.int .i64) (.int .i64)))) (.pr (.sl 3 (.int .i64)) (.pr (.sl 113 (.pr (.int .i64) (.int .i64))) (.pr (.sl 34 (.sl 3 (.int .i64))) (.sl 4 .bool))))), true, 120, 5, [(false, (.sl 84 (.pr (.int .i64) (.pr (.int .i64) (.int .i64))))), (false, (.sl 3 (.int .i64))), (false, (.sl 113 (.pr (.int .i64) (.int .i64)))), (false, (.sl 34 (.sl 3 (.int .i64)))), (true, (.sl 4 .bool))], false⟩ := by kernel_rfl
theorem tg55 : tget T 55 = some ⟨(.pr (.sl 84 (.pr (.int .i64) (.pr (.int .i64) (.int .i64)))) (.pr (.sl 3 (.int .i64)) (.pr (.sl 113 (.pr (.int .i64) (.int .i64))) (.pr (.sl 34 (.sl 3 (.int .i64))) (.sl 4 .bool))))), true, 120, 5, [(false, (.sl 84 (.pr (.int .i64) (.pr (.int .i64) (.int .i64))))), (false, (.sl 3 (.int .i64))), (false, (.sl 113 (.pr (.int .i64) (.int .i64)))), (false, (.sl 34 (.sl 3 (.int .i64)))), (true, (.sl 4 .bool))], false⟩ := by kernel_rfl
theorem tg58 : tget T 58 = some ⟨(.sl 5 (.int .u8)), false, 24, 0, [], false⟩ := by kernel_rfl
theorem tg66 : tget T 66 = some ⟨(.pr (.int .i64) (.pr (.int .i64) (.int .i64))), true, 24, 3, [(false, (.int .i64)), (false, (.int .i64)), (false, (.int .i64))], true⟩ := by kernel_rfl
theorem tg67 : tget T 67 = some ⟨(.pr (.int .i64) (.pr (.int .i64) (.int .i64))), true, 24, 3, [(false, (.int .i64)), (false, (.int .i64)), (false, (.int .i64))], true⟩ := by kernel_rfl
theorem tg83 : tget T 83 = some ⟨(.pr (.int .i64) (.pr (.int .i64) (.int .i64))), true, 24, 3, [(false, (.int .i64)), (false, (.int .i64)), (false, (.int .i64))], true⟩ := by kernel_rfl
theorem tg84 : tget T 84 = some ⟨(.pr (.int .i64) (.pr (.int .i64) (.int .i64))), true, 24, 3, [(false, (.int .i64)), (false, (.int .i64)), (false, (.int .i64))], true⟩ := by kernel_rfl
theorem tg94 : tget T 94 = some ⟨(.pr (.int .i64) (.pr (.int .i64) (.pr (.int .i64) .bool))), true, 32, 4, [(false, (.int .i64)), (false, (.int .i64)), (false, (.int .i64)), (false, .bool)], true⟩ := by kernel_rfl
theorem tg95 : tget T 95 = some ⟨(.pr (.int .i64) (.pr (.int .i64) (.pr (.int .i64) .bool))), true, 32, 4, [(false, (.int .i64)), (false, (.int .i64)), (false, (.int .i64)), (false, .bool)], true⟩ := by kernel_rfl
theorem tg97 : tget T 97 = some ⟨(.pr (.int .i64) (.pr (.int .i64) (.pr (.int .i64) .bool))), true, 32, 4, [(false, (.int .i64)), (false, (.int .i64)), (false, (.int .i64)), (false, .bool)], true⟩ := by kernel_rfl
theorem tg105 : tget T 105 = some ⟨(.pr (.int .i64) (.pr (.int .i64) (.int .i64))), true, 24, 3, [(false, (.int .i64)), (false, (.int .i64)), (false, (.int .i64))], true⟩ := by kernel_rfl
theorem tg112 : tget T 112 = some ⟨(.pr (.int .i64) (.int .i64)), true, 16, 2, [(false, (.int .i64)), (false, (.int .i64))], true⟩ := by kernel_rfl
theorem tg113 : tget T 113 = some ⟨(.pr (.int .i64) (.int .i64)), true, 16, 2, [(false, (.int .i64)), (false, (.int .i64))], true⟩ := by kernel_rfl
theorem tg140 : tget T 140 = some ⟨(.pr (.int .i64) (.int .i64)), true, 16, 2, [(false, (.int .i64)), (false, (.int .i64))], true⟩ := by kernel_rfl
theorem tg144 : tget T 144 = some ⟨(.pr (.sl 5 (.int .u8)) (.pr (.int .i64) (.int .i64))), true, 40, 3, [(false, (.sl 5 (.int .u8))), (false, (.int .i64)), (false, (.int .i64))], false⟩ := by kernel_rfl
theorem tg145 : tget T 145 = some ⟨(.pr (.sl 5 (.int .u8)) (.pr (.int .i64) (.int .i64))), true, 40, 3, [(false, (.sl 5 (.int .u8))), (false, (.int .i64)), (false, (.int .i64))], false⟩ := by kernel_rfl
theorem tg151 : tget T 151 = some ⟨(.int .u64), false, 8, 0, [], false⟩ := by kernel_rfl
theorem tg154 : tget T 154 = some ⟨(.int .i64), false, 8, 0, [], false⟩ := by kernel_rfl
theorem tg162 : tget T 162 = some ⟨(.int .u32), false, 4, 0, [], false⟩ := by kernel_rfl
theorem tg164 : tget T 164 = some ⟨(.int .u64), false, 8, 0, [], false⟩ := by kernel_rfl
theorem tg165 : tget T 165 = some ⟨(.int .u64), false, 8, 0, [], false⟩ := by kernel_rfl
theorem tg180 : tget T 180 = some ⟨(.int .u8), false, 1, 0, [], false⟩ := by kernel_rfl
theorem tg181 : tget T 181 = some ⟨(.int .u8), false, 1, 0, [], false⟩ := by kernel_rfl
theorem tg184 : tget T 184 = some ⟨(.int .i32), false, 4, 0, [], false⟩ := by kernel_rfl
theorem tg185 : tget T 185 = some ⟨(.int .i32), false, 4, 0, [], false⟩ := by kernel_rfl

theorem tgs : (tget T 2 = some ⟨(.int .i64), false, 8, 0, [], false⟩) ∧ (tget T 3 = some ⟨(.int .i64), false, 8, 0, [], false⟩) ∧ (tget T 4 = some ⟨.bool, false, 1, 0, [], false⟩) ∧ (tget T 5 = some ⟨(.int .u8), false, 1, 0, [], false⟩) ∧ (tget T 6 = some ⟨(.int .u8), false, 1, 0, [], false⟩) ∧ (tget T 7 = some ⟨(.pr (.int .i64) (.pr (.int .i64) (.pr .bool (.int .u8)))), true, 24, 4, [(false, (.int .i64)), (false, (.int .i64)), (false, .bool), (false, (.int .u8))], true⟩) ∧ (tget T 8 = some ⟨(.pr (.int .i64) (.pr (.int .i64) (.pr .bool (.int .u8)))), true, 24, 4, [(false, (.int .i64)), (false, (.int .i64)), (false, .bool), (false, (.int .u8))], true⟩) ∧ (tget T 9 = some ⟨.str, false, 16, 0, [], false⟩) ∧ (tget T 10 = some ⟨.str, false, 16, 0, [], false⟩) ∧ (tget T 11 = some ⟨.str, false, 16, 0, [], false⟩) ∧ (tget T 12 = some ⟨(.int .u64), false, 8, 0, [], false⟩) ∧ (tget T 21 = some ⟨(.int .i32), false, 4, 0, [], false⟩) ∧ (tget T 22 = some ⟨(.sl 97 (.pr (.int .i64) (.pr (.int .i64) (.pr (.int .i64) .bool)))), false, 24, 0, [], false⟩) ∧ (tget T 25 = some ⟨(.sl 95 (.pr (.int .i64) (.pr (.int .i64) (.pr (.int .i64) .bool)))), false, 24, 0, [], false⟩) ∧ (tget T 32 = some ⟨(.sl 105 (.pr (.int .i64) (.pr (.int .i64) (.int .i64)))), false, 24, 0, [], false⟩) ∧ (tget T 34 = some ⟨(.sl 3 (.int .i64)), false, 24, 0, [], false⟩) ∧ (tget T 36 = some ⟨(.sl 84 (.pr (.int .i64) (.pr (.int .i64) (.int .i64)))), false, 24, 0, [], false⟩) ∧ (tget T 43 = some ⟨(.sl 140 (.pr (.int .i64) (.int .i64))), false, 24, 0, [], false⟩) ∧ (tget T 44 = some ⟨(.sl 34 (.sl 3 (.int .i64))), false, 24, 0, [], false⟩) ∧ (tget T 45 = some ⟨(.sl 4 .bool), false, 24, 0, [], false⟩) ∧ (tget T 46 = some ⟨(.sl 4 .bool), true, 24, 1, [(false, (.sl 4 .bool))], false⟩) ∧ (tget T 47 = some ⟨(.sl 4 .bool), true, 24, 1, [(false, (.sl 4 .bool))], false⟩) ∧ (tget T 48 = some ⟨(.pr (.sl 105 (.pr (.int .i64) (.pr (.int .i64) (.int .i64)))) (.pr (.sl 3 (.int .i64)) (.pr (.sl 140 (.pr (.int .i64) (.int .i64))) (.pr (.sl 34 (.sl 3 (.int .i64))) (.sl 4 .bool))))), true, 120, 5, [(false, (.sl 105 (.pr (.int .i64) (.pr (.int .i64) (.int .i64))))), (false, (.sl 3 (.int .i64))), (false, (.sl 140 (.pr (.int .i64) (.int .i64)))), (false, (.sl 34 (.sl 3 (.int .i64)))), (true, (.sl 4 .bool))], false⟩) ∧ (tget T 49 = some ⟨(.pr (.sl 105 (.pr (.int .i64) (.pr (.int .i64) (.int .i64)))) (.pr (.sl 3 (.int .i64)) (.pr (.sl 140 (.pr (.int .i64) (.int .i64))) (.pr (.sl 34 (.sl 3 (.int .i64))) (.sl 4 .bool))))), true, 120, 5, [(false, (.sl 105 (.pr (.int .i64) (.pr (.int .i64) (.int .i64))))), (false, (.sl 3 (.int .i64))), (false, (.sl 140 (.pr (.int .i64) (.int .i64)))), (false, (.sl 34 (.sl 3 (.int .i64)))), (true, (.sl 4 .bool))], false⟩) ∧ (tget T 52 = some ⟨(.sl 113 (.pr (.int .i64) (.int .i64))), false, 24, 0, [], false⟩) ∧ (tget T 53 = some ⟨(.sl 4 .bool), true, 24, 1, [(false, (.sl 4 .bool))], false⟩) ∧ (tget T 54 = some ⟨(.pr (.sl 84 (.pr (.int .i64) (.pr (.int .i64) (.int .i64)))) (.pr (.sl 3 (.int .i64)) (.pr (.sl 113 (.pr (.int .i64) (.int .i64))) (.pr (.sl 34 (.sl 3 (.int .i64))) (.sl 4 .bool))))), true, 120, 5, [(false, (.sl 84 (.pr (.int .i64) (.pr (.int .i64) (.int .i64))))), (false, (.sl 3 (.int .i64))), (false, (.sl 113 (.pr (.int .i64) (.int .i64)))), (false, (.sl 34 (.sl 3 (.int .i64)))), (true, (.sl 4 .bool))], false⟩) ∧ (tget T 55 = some ⟨(.pr (.sl 84 (.pr (.int .i64) (.pr (.int .i64) (.int .i64)))) (.pr (.sl 3 (.int .i64)) (.pr (.sl 113 (.pr (.int .i64) (.int .i64))) (.pr (.sl 34 (.sl 3 (.int .i64))) (.sl 4 .bool))))), true, 120, 5, [(false, (.sl 84 (.pr (.int .i64) (.pr (.int .i64) (.int .i64))))), (false, (.sl 3 (.int .i64))), (false, (.sl 113 (.pr (.int .i64) (.int .i64)))), (false, (.sl 34 (.sl 3 (.int .i64)))), (true, (.sl 4 .bool))], false⟩) ∧ (tget T 58 = some ⟨(.sl 5 (.int .u8)), false, 24, 0, [], false⟩) ∧ (tget T 66 = some ⟨(.pr (.int .i64) (.pr (.int .i64) (.int .i64))), true, 24, 3, [(false, (.int .i64)), (false, (.int .i64)), (false, (.int .i64))], true⟩) ∧ (tget T 67 = some ⟨(.pr (.int .i64) (.pr (.int .i64) (.int .i64))), true, 24, 3, [(false, (.int .i64)), (false, (.int .i64)), (false, (.int .i64))], true⟩) ∧ (tget T 83 = some ⟨(.pr (.int .i64) (.pr (.int .i64) (.int .i64))), true, 24, 3, [(false, (.int .i64)), (false, (.int .i64)), (false, (.int .i64))], true⟩) ∧ (tget T 84 = some ⟨(.pr (.int .i64) (.pr (.int .i64) (.int .i64))), true, 24, 3, [(false, (.int .i64)), (false, (.int .i64)), (false, (.int .i64))], true⟩) ∧ (tget T 94 = some ⟨(.pr (.int .i64) (.pr (.int .i64) (.pr (.int .i64) .bool))), true, 32, 4, [(false, (.int .i64)), (false, (.int .i64)), (false, (.int .i64)), (false, .bool)], true⟩) ∧ (tget T 95 = some ⟨(.pr (.int .i64) (.pr (.int .i64) (.pr (.int .i64) .bool))), true, 32, 4, [(false, (.int .i64)), (false, (.int .i64)), (false, (.int .i64)), (false, .bool)], true⟩) ∧ (tget T 97 = some ⟨(.pr (.int .i64) (.pr (.int .i64) (.pr (.int .i64) .bool))), true, 32, 4, [(false, (.int .i64)), (false, (.int .i64)), (false, (.int .i64)), (false, .bool)], true⟩) ∧ (tget T 105 = some ⟨(.pr (.int .i64) (.pr (.int .i64) (.int .i64))), true, 24, 3, [(false, (.int .i64)), (false, (.int .i64)), (false, (.int .i64))], true⟩) ∧ (tget T 112 = some ⟨(.pr (.int .i64) (.int .i64)), true, 16, 2, [(false, (.int .i64)), (false, (.int .i64))], true⟩) ∧ (tget T 113 = some ⟨(.pr (.int .i64) (.int .i64)), true, 16, 2, [(false, (.int .i64)), (false, (.int .i64))], true⟩) ∧ (tget T 140 = some ⟨(.pr (.int .i64) (.int .i64)), true, 16, 2, [(false, (.int .i64)), (false, (.int .i64))], true⟩) ∧ (tget T 144 = some ⟨(.pr (.sl 5 (.int .u8)) (.pr (.int .i64) (.int .i64))), true, 40, 3, [(false, (.sl 5 (.int .u8))), (false, (.int .i64)), (false, (.int .i64))], false⟩) ∧ (tget T 145 = some ⟨(.pr (.sl 5 (.int .u8)) (.pr (.int .i64) (.int .i64))), true, 40, 3, [(false, (.sl 5 (.int .u8))), (false, (.int .i64)), (false, (.int .i64))], false⟩) ∧ (tget T 151 = some ⟨(.int .u64), false, 8, 0, [], false⟩) ∧ (tget T 154 = some ⟨(.int .i64), false, 8, 0, [], false⟩) ∧ (tget T 162 = some ⟨(.int .u32), false, 4, 0, [], false⟩) ∧ (tget T 164 = some ⟨(.int .u64), false, 8, 0, [], false⟩) ∧ (tget T 165 = some ⟨(.int .u64), false, 8, 0, [], false⟩) ∧ (tget T 180 = some ⟨(.int .u8), false, 1, 0, [], false⟩) ∧ (tget T 181 = some ⟨(.int .u8), false, 1, 0, [], false⟩) ∧ (tget T 184 = some ⟨(.int .i32), false, 4, 0, [], false⟩) ∧ (tget T 185 = some ⟨(.int .i32), false, 4, 0, [], false⟩) := ⟨tg2, tg3, tg4, tg5, tg6, tg7, tg8, tg9, tg10, tg11, tg12, tg21, tg22, tg25, tg32, tg34, tg36, tg43, tg44, tg45, tg46, tg47, tg48, tg49, tg52, tg53, tg54, tg55, tg58, tg66, tg67, tg83, tg84, tg94, tg95, tg97, tg105, tg112, tg113, tg140, tg144, tg145, tg151, tg154, tg162, tg164, tg165, tg180, tg181, tg184, tg185⟩
theorem hT : TabOk Try.prog T := tab_ok (by kernel_rfl)
end Go.Proofs.Yteeklekfafedcaa.V
