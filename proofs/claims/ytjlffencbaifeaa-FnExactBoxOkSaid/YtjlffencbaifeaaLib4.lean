import Derived.Test.YtjlffencbaifeaaLib3
namespace Go.Proofs.Ytjlffencbaifeaa.Lib
open Go.RowKit Go.Proofs.YtjlffencbaifeaaW.PrintWords
set_option linter.unusedVariables false
theorem str_assoc (a b c : ByteArray) : a ++ b ++ c = a ++ (b ++ c) := by
  apply str_ext
  simp only [str_append_data, List.append_assoc]
theorem str_nil_left (a : ByteArray) : (⟨#[]⟩ : ByteArray) ++ a = a := by
  apply str_ext
  rw [str_append_data]
  rfl
end Go.Proofs.Ytjlffencbaifeaa.Lib
