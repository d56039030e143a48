/- The fixed examples of the chapter: joined of evaluations. -/
import Derived.Test.YtchacpbmpgfblaaDoorAl
import Derived.Test.YtchacpbmpgfblaaDoorAm
import Derived.Test.YtchacpbmpgfblaaDoorAn
import Derived.Test.YtchacpbmpgfblaaDoorAo
import Derived.Test.YtchacpbmpgfblaaDoorSeav
set_option linter.unusedSimpArgs false
set_option linter.unusedVariables false
set_option linter.unusedSectionVars false
set_option maxRecDepth 100000
namespace Go.Mx.Tryd
open Go.Proofs
def eBlock : List (List I) := [[.i .i64 0, .i .i64 0, .i .i64 1], [.i .i64 1, .i .i64 0, .i .i64 1], [.i .i64 0, .i .i64 1, .i .i64 1], [.i .i64 1, .i .i64 1, .i .i64 1]]
def eCol : List (List I) := [[.i .i64 0, .i .i64 0, .i .i64 1], [.i .i64 0, .i .i64 1, .i .i64 1], [.i .i64 0, .i .i64 2, .i .i64 1]]
def eRow : List (List I) := [[.i .i64 0, .i .i64 0, .i .i64 1], [.i .i64 1, .i .i64 0, .i .i64 1], [.i .i64 2, .i .i64 0, .i .i64 1]]
def eThree : List (List I) := [[.i .i64 5, .i .i64 5, .i .i64 1], [.i .i64 7, .i .i64 5, .i .i64 2], [.i .i64 5, .i .i64 8, .i .i64 1]]
def eGlide : List (List I) := [[.i .i64 1, .i .i64 0, .i .i64 1], [.i .i64 2, .i .i64 1, .i .i64 1], [.i .i64 0, .i .i64 2, .i .i64 1], [.i .i64 1, .i .i64 2, .i .i64 1], [.i .i64 2, .i .i64 2, .i .i64 1]]
def ePair : List (List I) := [[.i .i64 0, .i .i64 0, .i .i64 1], [.i .i64 1, .i .i64 0, .i .i64 1]]
set_option maxHeartbeats 4000000 in
theorem gives_awake : Gives G 8 [] [] (.m (.b true)) [] := by
 refine gives_pur rfl rfl rfl rfl rfl ?_
 have a1 := fun H => gives_view (H := H) (vs := [.ls eBlock]) (is := [.sl eBlock]) rfl rfl ⟨3000, code_1⟩ rfl (.inl ⟨rfl, rfl⟩)
 have a2 := fun H => gives_view (H := H) (vs := [.ls eThree]) (is := [.sl eThree]) rfl rfl ⟨3000, code_2⟩ rfl (.inl ⟨rfl, rfl⟩)
 have a3 := fun H => gives_view (H := H) (vs := [.ls eCol, .ls [[.i .i64 1], [.i .i64 4]]]) (is := [.sl eCol, .sl [[.i .i64 1], [.i .i64 4]]]) rfl rfl ⟨3000, form_1⟩ rfl (.inl ⟨rfl, rfl⟩)
 have a4 := fun H => gives_view (H := H) (vs := [.m (.sl eRow), .ls eRow]) (is := [.sl eRow, .sl eRow]) rfl rfl ⟨3000, same_1⟩ rfl (.inl ⟨rfl, rfl⟩)
 have a5 := fun H => gives_view (H := H) (vs := [.ls eGlide]) (is := [.sl eGlide]) rfl rfl ⟨3000, syms_1⟩ rfl (.inl ⟨rfl, rfl⟩)
 have a6 := fun H => gives_view (H := H) (vs := [.m (.sl [[.i .i64 0]]), .ls [[.i .i64 0]]]) (is := [.sl [[.i .i64 0]], .sl [[.i .i64 0]]]) rfl rfl ⟨3000, ints_1⟩ rfl (.inl ⟨rfl, rfl⟩)
 have a7 := fun H => gives_view (H := H) (vs := [.m (.sl ePair)]) (is := [.sl ePair]) rfl rfl ⟨3000, syms_2⟩ rfl (.inl ⟨rfl, rfl⟩)
 have a8 := fun H => gives_view (H := H) (vs := [.m (.sl [[.i .i64 0], [.i .i64 2], [.i .i64 4], [.i .i64 6]]), .ls [[.i .i64 0], [.i .i64 2], [.i .i64 4], [.i .i64 6]]]) (is := [.sl [[.i .i64 0], [.i .i64 2], [.i .i64 4], [.i .i64 6]], .sl [[.i .i64 0], [.i .i64 2], [.i .i64 4], [.i .i64 6]]]) rfl rfl ⟨3000, ints_2⟩ rfl (.inl ⟨rfl, rfl⟩)
 have a9 := fun H => gives_view (H := H) (vs := [.m (.nl 4)]) (is := [.nl 4]) rfl rfl ⟨3000, syms_3⟩ rfl (.inl ⟨rfl, rfl⟩)
 have b1 := fun H => gives_view (H := H) (vs := [.m (.s [50, 65, 36, 50, 65])]) (is := [.s [50, 65, 36, 50, 65]]) rfl rfl ⟨3000, dec_1⟩ rfl (.inl ⟨rfl, rfl⟩)
 have b2 := fun H => gives_view (H := H) (vs := [.m (.sl eBlock), .ls eBlock]) (is := [.sl eBlock, .sl eBlock]) rfl rfl ⟨3000, same_2⟩ rfl (.inl ⟨rfl, rfl⟩)
 have b3 := fun H => gives_view (H := H) (vs := [.m (.s [65, 65])]) (is := [.s [65, 65]]) rfl rfl ⟨3000, bad_1⟩ rfl (.inl ⟨rfl, rfl⟩)
 have b4 := fun H => gives_view (H := H) (vs := [.m (.s [49, 65])]) (is := [.s [49, 65]]) rfl rfl ⟨3000, bad_2⟩ rfl (.inl ⟨rfl, rfl⟩)
 have b5 := fun H => gives_view (H := H) (vs := [.m (.s [65, 46])]) (is := [.s [65, 46]]) rfl rfl ⟨3000, bad_3⟩ rfl (.inl ⟨rfl, rfl⟩)
 have b6 := fun H => gives_view (H := H) (vs := [.m (.s [65, 36])]) (is := [.s [65, 36]]) rfl rfl ⟨3000, bad_4⟩ rfl (.inl ⟨rfl, rfl⟩)
 have b7 := fun H => gives_view (H := H) (vs := [.m (.s [])]) (is := [.s []]) rfl rfl ⟨3000, bad_5⟩ rfl (.inl ⟨rfl, rfl⟩)
 have b8 := fun H => gives_view (H := H) (vs := [.ls eCol, .ls eRow, .ls [[.i .i64 1]]]) (is := [.sl eCol, .sl eRow, .sl [[.i .i64 1]]]) rfl rfl ⟨3000, alike_1⟩ rfl (.inl ⟨rfl, rfl⟩)
 have b9 := fun H => gives_view (H := H) (vs := [.ls eCol, .ls eRow, .m (.nl 4)]) (is := [.sl eCol, .sl eRow, .nl 4]) rfl rfl ⟨3000, alike_2⟩ rfl (.inl ⟨rfl, rfl⟩)
 have x1 : cells3 pRow = eRow := rfl
 have x2 : cells3 pBlock = eBlock := rfl
 have x3 : celI [0] = [[.i .i64 0]] := rfl
 have x4 : celI [0, 2, 4, 6] = [[.i .i64 0], [.i .i64 2], [.i .i64 4], [.i .i64 6]] := rfl
 have x5 : celI [0, 1, 2, 3, 4, 5, 6, 7] = [[.i .i64 0], [.i .i64 1], [.i .i64 2], [.i .i64 3], [.i .i64 4], [.i .i64 5], [.i .i64 6], [.i .i64 7]] := rfl
 have sl : pureX (.slc 3 false true false) [.ls eRow, .m (.i .i64 2)] = some (.m (.sl ePair)) := rfl
 simp only [x1, x2, x3, x4, x5, eBlock, eCol, eRow, eThree, eGlide, ePair] at a1 a2 a3 a4 a5 a6 a7 a8 a9 b1 b2 b3 b4 b5 b6 b7 b8 b9 sl
 simp (maxSteps := 2000000) (disch := omega) [gd_in, gd_and, wr_i64, gcall_cx, sl, cl (a1 _), cl (a2 _), cl (a3 _), cl (a4 _), cl (a5 _), cl (a6 _), cl (a7 _), cl (a8 _), cl (a9 _), cl (b1 _), cl (b2 _), cl (b3 _), cl (b4 _), cl (b5 _), cl (b6 _), cl (b7 _), cl (b8 _), cl (b9 _)]
end Go.Mx.Tryd
