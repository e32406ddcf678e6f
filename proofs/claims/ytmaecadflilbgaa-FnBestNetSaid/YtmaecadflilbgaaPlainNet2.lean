/-
  Nets: the statements' plain laws.
-/
import Derived.Test.YtmaecadflilbgaaPlainNet
namespace Go.Proofs.Ytmaecadflilbgaa

theorem szN_16 : szN 16 = 1 := rfl
theorem szN_0 : szN 0 = 65536 := by decide
theorem vN_16 {b s : Int} (h : vN b s = true) : vN b 16 = true := by
  rw [vN_eq (by decide) (vN_word h), szN_16]; simp
theorem vN_17 (b : Int) : vN b 17 = false := vN_no1 (by decide)
theorem hasN_base (b s : Int) : hasN b s b = true := inR_iff.2 (by have := szN_pos s; omega)
theorem inN_base {b s : Int} (h : vN b s = true) : inN b s b = true := by simp [inN, h, vN_word h, hasN_base]
theorem vN_all : vN 0 0 = true := by decide
theorem hasN_all {a : Int} (h : inR a 0 65535 = true) : hasN 0 0 a = true := by
  have := inR_iff.1 h
  exact inR_iff.2 (by rw [szN_0]; omega)
theorem inN_all {b s : Int} (h : vN b s = true) : inN 0 0 b = true := by simp [inN, vN_all, vN_word h, hasN_all (vN_word h)]
theorem holdsN_all {b s : Int} (h : vN b s = true) : holdsN 0 0 b s = true := by
  have := inR_iff.1 (vN_word h)
  have hf := vN_fit h
  have hp := szN_pos s
  simp [holdsN, vN_all, h, hasN_all (vN_word h)]
  exact hasN_all (inR_iff.2 (by omega))
end Go.Proofs.Ytmaecadflilbgaa
