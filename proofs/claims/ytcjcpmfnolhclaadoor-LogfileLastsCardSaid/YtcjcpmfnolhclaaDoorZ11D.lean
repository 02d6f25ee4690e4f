import Derived.Test.YtcjcpmfnolhclaaDoorFwArrTFwGho
import Derived.Shelf.Strings.SlTrimAscii
import Derived.Shelf.Small.Strs
import Derived.Test.YtcjcpmfnolhclaaDoorShelf
set_option linter.unusedSimpArgs false
set_option linter.unusedVariables false
namespace Go.Proofs
open Go.Fw
theorem compare_w {s : St} {a0 a1 : List UInt8} : Calls Tryd.prog 62 #[S a0, S a1] s.w (Ret s K0 (fun _ v => v = .int .i64 (Lib.compareBytes a0 a1))) := by
  refine (Tryd.strings_Compare ⟨a0.toArray⟩ ⟨a1.toArray⟩ s.w).mono ?_
  rintro e w' ⟨rfl, rfl⟩
  exact ⟨s, _, rfl, rfl, Step.refl s, by simp⟩

def nameSet : List UInt8 := ([46, 48, 49, 50, 51, 52, 53, 54, 55, 56, 57, 97, 98, 99, 100, 101, 102, 103, 104, 105, 106, 107, 108, 109, 110, 111, 112, 113, 114, 115, 116, 117, 118, 119, 120, 121, 122] : List UInt8)
theorem trim_w {s : St} {a : List UInt8} (h : a.length ≤ 9223372036854775807) : Calls Tryd.prog 64 #[S a, S ([46, 48, 49, 50, 51, 52, 53, 54, 55, 56, 57, 97, 98, 99, 100, 101, 102, 103, 104, 105, 106, 107, 108, 109, 110, 111, 112, 113, 114, 115, 116, 117, 118, 119, 120, 121, 122] : List UInt8)] s.w (Ret s K0 (fun _ v => v = S (Lib.trimS a nameSet))) := by
  refine (Any.strings_Trim_laid Tryd.strTrim (by kernel_rfl) ⟨a.toArray⟩ ⟨(nameSet).toArray⟩ s.w (show a.toArray.size ≤ _ by simpa using h) (by decide) (ascii_of_all (by decide))).mono ?_
  rintro e w' ⟨rfl, hb⟩
  refine ⟨s.to w' L0 (by simp), _, rfl, rfl, St.to_step hb.os hb.tape hb.output hb.size (fun b hb' _ => hb.block b hb') (fun _ h => h), by simp⟩

end Go.Proofs
