/- The closed calls over complex128 that MatNames makes. -/
import Derived.Test.YtalalbhhlbeghaaMat
import Derived.WalkLawsBesides
namespace Go.Proofs.Ytalalbhhlbeghaa
open Go.RowKit

abbrev cI : Value := .complex .f64 0 4607182418800017408
abbrev cM : Value := .complex .f64 13830554455654793216 0
abbrev cN : Value := .complex .f64 9223372036854775808 13830554455654793216

theorem mul00 (w : World) : (binOp .mul 95 (.float .f64 0) (.float .f64 0)).run Try.prog w = .ok (.float .f64 0) w := by kernel_rfl
theorem mul01 (w : World) : (binOp .mul 95 (.float .f64 0) (.float .f64 4607182418800017408)).run Try.prog w = .ok (.float .f64 0) w := by kernel_rfl
theorem mul10 (w : World) : (binOp .mul 95 (.float .f64 4607182418800017408) (.float .f64 0)).run Try.prog w = .ok (.float .f64 0) w := by kernel_rfl
theorem mul11 (w : World) : (binOp .mul 95 (.float .f64 4607182418800017408) (.float .f64 4607182418800017408)).run Try.prog w = .ok (.float .f64 4607182418800017408) w := by kernel_rfl
theorem sub01 (w : World) : (binOp .sub 95 (.float .f64 0) (.float .f64 4607182418800017408)).run Try.prog w = .ok (.float .f64 13830554455654793216) w := by kernel_rfl
theorem add00 (w : World) : (binOp .add 95 (.float .f64 0) (.float .f64 0)).run Try.prog w = .ok (.float .f64 0) w := by kernel_rfl
theorem neg0 (w : World) : (Op.unary .neg (.float .f64 0)).run Try.prog w = .ok (.float .f64 9223372036854775808) w := by kernel_rfl
theorem neg1 (w : World) : (Op.unary .neg (.float .f64 4607182418800017408)).run Try.prog w = .ok (.float .f64 13830554455654793216) w := by kernel_rfl
theorem bits0 (w : World) : (callFunc 66 #[.float .f64 0]).run Try.prog w = .ok (.value (.int .u64 0)) w := by kernel_rfl
theorem bits1 (w : World) : (callFunc 66 #[.float .f64 4607182418800017408]).run Try.prog w = .ok (.value (.int .u64 4607182418800017408)) w := by kernel_rfl
theorem bitsM (w : World) : (callFunc 66 #[.float .f64 13830554455654793216]).run Try.prog w = .ok (.value (.int .u64 13830554455654793216)) w := by kernel_rfl
theorem bitsN (w : World) : (callFunc 66 #[.float .f64 9223372036854775808]).run Try.prog w = .ok (.value (.int .u64 9223372036854775808)) w := by kernel_rfl
theorem nan0 : (FloatKind.f64.format.order 0 0 != some Ordering.eq) = false := by kernel_rfl
theorem nan1 : (FloatKind.f64.format.order 4607182418800017408 4607182418800017408 != some Ordering.eq) = false := by kernel_rfl
theorem nanM : (FloatKind.f64.format.order 13830554455654793216 13830554455654793216 != some Ordering.eq) = false := by kernel_rfl
theorem nanN : (FloatKind.f64.format.order 9223372036854775808 9223372036854775808 != some Ordering.eq) = false := by kernel_rfl

set_option maxRecDepth 100000 in
theorem wave_mul (w : World) :
    Calls Try.prog 24 #[cI, cI] w fun e w' => e = .returned cM ∧ w = w' := by
  have h1 := mul00
  have h2 := mul01
  have h3 := mul10
  have h4 := mul11
  have h5 := sub01
  have h6 := add00
  go_enter Try.func24, Try.ntmps24
  go_wp2
  go_ret
  exact ⟨rfl, rfl⟩
set_option maxRecDepth 100000 in
theorem wave_same (w : World) :
    Calls Try.prog 23 #[cM, cM] w fun e w' => e = .returned (.bool true) ∧ w = w' := by
  have h1 := bits0
  have h2 := bitsM
  go_enter Try.func23, Try.ntmps23
  go_wp2
  go_ret
  exact ⟨rfl, rfl⟩
set_option maxRecDepth 100000 in
theorem wave_like (w : World) :
    Calls Try.prog 25 #[cI, cI] w fun e w' => e = .returned (.bool true) ∧ w = w' := by
  have h1 := bits0
  have h2 := bits1
  have h3 := nan0
  have h4 := nan1
  go_enter Try.func25, Try.ntmps25
  go_wp2
  go_ret
  exact ⟨rfl, rfl⟩
set_option maxRecDepth 100000 in
theorem wave_unlike (w : World) :
    Calls Try.prog 25 #[cI, cN] w fun e w' => e = .returned (.bool false) ∧ w = w' := by
  have h1 := bits0
  have h2 := bits1
  have h3 := nan0
  have h4 := nan1
  have h5 := bitsN
  have h6 := nanN
  go_enter Try.func25, Try.ntmps25
  go_wp2
  go_ret
  exact ⟨rfl, rfl⟩
set_option maxRecDepth 100000 in
theorem wave_neg (w : World) :
    Calls Try.prog 26 #[cI] w fun e w' => e = .returned cN ∧ w = w' := by
  have h1 := neg0
  have h2 := neg1
  go_enter Try.func26, Try.ntmps26
  go_wp2
  go_ret
  exact ⟨rfl, rfl⟩
end Go.Proofs.Ytalalbhhlbeghaa
