/- Exit laws for deeply nested switches. -/
import Derived.Test.YtihnjbbgfjckaaaBase
namespace Cg
open Go Go.RowKit
theorem x_in_eq {id : Nat} {Q : Exit → Act → World → Prop} {a : Act} {w : World} (h : Q .normal a w) : Exit.inBlock id Q (.exit id) a w := by
  show (if id = id then Q .normal a w else Q (.exit id) a w)
  rw [if_pos rfl]; exact h
theorem x_in_ne {id j : Nat} {Q : Exit → Act → World → Prop} {a : Act} {w : World} (hne : (j == id) = false) (h : Q (.exit j) a w) : Exit.inBlock id Q (.exit j) a w := by
  show (if j = id then Q .normal a w else Q (.exit j) a w)
  rw [if_neg (by simpa using hne)]; exact h
theorem x_in_ret {id : Nat} {Q : Exit → Act → World → Prop} {a : Act} {w : World} (h : Q .ret a w) : Exit.inBlock id Q .ret a w := h
theorem x_in_normal {id : Nat} {Q : Exit → Act → World → Prop} {a : Act} {w : World} (h : Q .normal a w) : Exit.inBlock id Q .normal a w := h
theorem x_then_exit {j : Nat} {K : Act → World → Prop} {Q : Exit → Act → World → Prop} {a : Act} {w : World} (h : Q (.exit j) a w) : Exit.then K Q (.exit j) a w := h
theorem x_then_ret {K : Act → World → Prop} {Q : Exit → Act → World → Prop} {a : Act} {w : World} (h : Q .ret a w) : Exit.then K Q .ret a w := h
theorem x_then_normal {K : Act → World → Prop} {Q : Exit → Act → World → Prop} {a : Act} {w : World} (h : K a w) : Exit.then K Q .normal a w := h
end Cg
