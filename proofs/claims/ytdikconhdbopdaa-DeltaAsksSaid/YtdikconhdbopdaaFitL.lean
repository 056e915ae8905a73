/-
  Bytes cut, or filled up, to a size. No condition.
-/
import Derived.Test.YtdikconhdbopdaaCopy
namespace Go.Proofs.Ytdikconhdbopdaa
open Go.RowKit
set_option linter.unusedVariables false
set_option linter.unusedSimpArgs false

/-- Bytes cut, or filled up, to a size. -/
def fitL (data : List UInt8) (n : Nat) : List UInt8 := data.take n ++ List.replicate (n - data.length) 0
theorem fitL_length (data : List UInt8) (n : Nat) : (fitL data n).length = n := by
  simp only [fitL, List.length_append, List.length_take, List.length_replicate]; omega
theorem fitL_spl (data : List UInt8) (n : Nat) : splB (List.replicate n 0) 0 data = fitL data n := by
  unfold splB fitL
  simp only [List.take_zero, List.nil_append, List.length_replicate, Nat.sub_zero, Nat.zero_add, List.drop_replicate, List.length_take]
  congr 2
  omega
end Go.Proofs.Ytdikconhdbopdaa
