/-
  Plain: what awake of the laws of gridstep reckons. Nothing of the program stands here.
-/
import Derived.Test.YtdkfaphclhaiaaaNPartsP
import Derived.Test.YtdkfaphclhaiaaaNGardP
import Derived.Test.YtdkfaphclhaiaaaTSPlain
namespace Go.Proofs.Ytdkfaphclhaiaaa
open Go.RowKit
set_option linter.unusedSimpArgs false
set_option linter.unusedVariables false
def awL : List Pt := [⟨-1, 0⟩, ⟨0, 0⟩]
def awT : Tre := ⟨2, awL, [⟨1, [0, 0]⟩, ⟨1, [1, 1]⟩, ⟨2, [0, 1]⟩]⟩
def awG : Grd := ⟨3, 1, 0, [1, 0, 0]⟩
def awM : Grd := ⟨3, 1, 0, [0, 1, 0]⟩
def awO : Grd := ⟨3, 1, 1, [1, 0, 0]⟩
def awF : Grd := ⟨3, 1, 2, [1, 0, 0]⟩
theorem aw_read : readR 2 awL 0 = awT ∧ readErr 2 awL 0 = 0 := ⟨(sameT_iff _ _).1 (by decide +kernel), by decide +kernel⟩
theorem aw_fits : fitsN awT awG = 0 ∧ fitsN awT awO = 0 ∧ fitsN awT awF = 0 ∧ fitsN awT awM = 0 := ⟨by decide +kernel, by decide +kernel, by decide +kernel, by decide +kernel⟩
theorem aw_step : runErr awT awG 1 = 0 ∧ runR awT awG 1 = awM := ⟨by decide +kernel, (sameG_iff _ _).1 (by decide +kernel)⟩
theorem aw_run : runErr awT awG 3 = 0 ∧ runR awT awG 3 = ⟨3, 1, 0, [0, 0, 0]⟩ := ⟨by decide +kernel, (sameG_iff _ _).1 (by decide +kernel)⟩
theorem aw_fold : runErr awT awF 1 = 0 ∧ runR awT awF 1 = ⟨3, 1, 2, [1, 1, 0]⟩ := ⟨by decide +kernel, (sameG_iff _ _).1 (by decide +kernel)⟩
theorem aw_cyc : cycErr awT awO 3 = 0 ∧ cycS awT awO 3 = 0 ∧ cycP awT awO 3 = 3 ∧ cycErr awT awO 2 = 14 := ⟨by decide +kernel, by decide +kernel, by decide +kernel, by decide +kernel⟩
theorem aw_gard : gardErr awT awG = 0 ∧ gardR awT awG = true ∧ gardErr awT awM = 0 ∧ gardR awT awM = false := ⟨by decide +kernel, by decide +kernel, by decide +kernel, by decide +kernel⟩
end Go.Proofs.Ytdkfaphclhaiaaa
