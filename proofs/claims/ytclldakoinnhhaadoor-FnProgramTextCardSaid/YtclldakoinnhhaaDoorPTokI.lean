import Derived.Test.YtclldakoinnhhaaDoorPTokD
namespace Go.Proofs.YtclldakoinnhhaaDoor
open Go Go.RowKit
theorem i_parseTok (s : ByteArray) (hs : s.size ≤ 1048576) (w : World) (hp : PowIs w) (hmx : MaxIs w) :
    Calls Tryd.prog 25 #[.string s] w fun e w' => e = .returned (ptV (ptF s)) ∧ Below w.heap.size w w' := by
  by_cases h1 : puB s.data.toList = true
  · exact i_ptA s hs w hp hmx h1
  · have h1' : puB s.data.toList = false := by simpa using h1
    by_cases h2 : s.size = 1 ∧ 0 ≤ opQ s
    · exact i_ptB s hs w hp hmx ⟨h1', h2⟩
    · by_cases h3 : (cutOf s).2.2 = true ∧ puB (cutOf s).2.1 = true
      · exact i_ptC s hs w hp hmx ⟨h1', h2, h3⟩
      · by_cases h4 : (cutOf s).2.2 = true
        · exact i_ptD2 s hs w hp hmx ⟨h1', h2, h3, h4, by
            cases h5 : puB (cutOf s).2.1
            · rfl
            · exact absurd ⟨h4, h5⟩ h3⟩
        · exact i_ptD1 s hs w hp hmx ⟨h1', h2, h3, by simpa using h4⟩
end Go.Proofs.YtclldakoinnhhaaDoor
