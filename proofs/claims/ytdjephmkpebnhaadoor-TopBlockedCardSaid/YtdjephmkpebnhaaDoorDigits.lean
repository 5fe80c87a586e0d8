/- A number of one digit. -/
import Derived.Test.YtdjephmkpebnhaaDoorKit
import Derived.Ground.NamesProg
import Derived.Shelf.Lay
import Derived.Shelf.Strings.SlTrimAscii
namespace Go.Proofs.YtdjephmkpebnhaaDoor
open Go.Shelf
shelf_lay Lays.n160 Nm 160 at Tryd as Tryd.lays160
end Go.Proofs.YtdjephmkpebnhaaDoor

namespace Go.Proofs.YtdjephmkpebnhaaDoor
open Go.RowKit Go.Shelf Go.Lib

theorem trim_one (x : UInt8) (hx : x = 49 ∨ x = 50) (w : World) : Calls Tryd.prog 49 #[.string ⟨#[x]⟩, .string ⟨#[48, 49, 50, 51, 52, 53, 54, 55, 56, 57]⟩] w fun e w' => e = .returned (.string ⟨#[]⟩) ∧ Below w.heap.size w w' := by
  have hcon := Any.strings_Trim_laid Tryd.lays160 (by kernel_rfl) ⟨#[x]⟩ ⟨#[48, 49, 50, 51, 52, 53, 54, 55, 56, 57]⟩ w (by show 1 ≤ _; decide) (by decide) (ascii_of_all (by decide))
  have he : (⟨(Lib.trimS (⟨#[x]⟩ : ByteArray).data.toList [48, 49, 50, 51, 52, 53, 54, 55, 56, 57]).toArray⟩ : ByteArray) = ⟨#[]⟩ := by
    rcases hx with rfl | rfl <;> decide
  change Calls Tryd.prog 49 _ _ (fun e w' => e = .returned (.string ⟨(Lib.trimS (⟨#[x]⟩ : ByteArray).data.toList [48, 49, 50, 51, 52, 53, 54, 55, 56, 57]).toArray⟩) ∧ Below w.heap.size w w') at hcon
  rw [he] at hcon
  exact hcon

theorem isdigits_one (x : UInt8) (hx : x = 49 ∨ x = 50) (w : World) : Calls Tryd.prog 45 #[.string ⟨#[x]⟩] w (RetBool w true) := by
  have HT := Lib.hid (trim_one x hx)
  go_enter Tryd.func45, Tryd.ntmps45
  go_wp2_with fail
  refine (HT.out w).mono ?_
  rintro e w' ⟨rfl, hb⟩
  have HB := Lib.hid hb
  clear hb
  go_wp2_with fail
  go_ret
  exact ⟨rfl, HB.out⟩

theorem number_one (x : UInt8) (hx : x = 49 ∨ x = 50) (w : World) : Calls Tryd.prog 34 #[.string ⟨#[x]⟩] w (RetBool w true) := by
  have HT := Lib.hid (isdigits_one x hx)
  go_enter Tryd.func34, Tryd.ntmps34
  go_wp2_with fail
  refine (HT.out w).mono ?_
  rintro e w' ⟨rfl, hb⟩
  have HB := Lib.hid hb
  clear hb
  go_wp2_with fail
  go_ret
  exact ⟨rfl, HB.out⟩
end Go.Proofs.YtdjephmkpebnhaaDoor
