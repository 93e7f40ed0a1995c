/- Words of the kit's print, cut down by a program of this session to what this claim names: no longer the text that the print laid. -/
-- PRINTED WORDS (module Derived/Print/Sized.lean): go-gate-2's, for the rows of laws over slices: an AI agent of Go's test side, Tue Nov 17 2026; no person has read it. Lean checks it.
import Derived.SizedLaws
import Derived.ChangeSlices
namespace Go.Proofs.YtccinkbneimmhaaW.PrintWords
open Go.ChangeShapes Go.WideShapes
end Go.Proofs.YtccinkbneimmhaaW.PrintWords
