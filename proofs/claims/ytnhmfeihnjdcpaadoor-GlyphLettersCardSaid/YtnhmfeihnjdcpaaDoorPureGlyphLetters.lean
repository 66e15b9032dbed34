/- Any letter may begin a name, go on in one, or is a blank, as the document says: the printed law answers true. No conditions beyond the laid tables of the library. -/
import Derived.Test.YtnhmfeihnjdcpaaDoorQGlyphLettersx1
namespace Go.Proofs.YtnhmfeihnjdcpaaDoor.Pure
open Go.RowKit Go.Proofs.YtnhmfeihnjdcpaaDoor.QGlyphLetters Go.Proofs.YtnhmfeihnjdcpaaDoorW.PrintWords Go.Proofs.YtnhmfeihnjdcpaaDoorW.PrintLast

theorem known_at : lazaruslaw7_known.f = some true := by decide +kernel
theorem GlyphLetters : ∀ (a0 : Int), (Lit.int .i32 a0).wf = true → lazaruslaw7_GlyphLetters.f a0 = some true := by
  intro a _
  have e1 : lazarusref7_First.f a = glyph_First.f a := rfl
  have e2 : lazarusref7_More.f a = glyph_More.f a := rfl
  have e3 : lazarusref7_Blank.f a = glyph_Blank.f a := rfl
  have h1 := glyph_Name.fst_f a
  have h2 := glyph_Name.mor_f a
  obtain ⟨b, h3⟩ : ∃ b, glyph_Blank.f a = some b := by
    unfold glyph_Blank.f
    repeat' split
    all_goals exact ⟨_, rfl⟩
  rw [lazaruslaw7_GlyphLetters.f, e1, e2, e3, h1, h2, h3]
  simp [known_at]

end Go.Proofs.YtnhmfeihnjdcpaaDoor.Pure
