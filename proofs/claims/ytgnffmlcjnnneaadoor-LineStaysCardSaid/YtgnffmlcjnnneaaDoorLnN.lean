/- Chapter 10: the fixed calls of alive. -/
import Derived.Test.YtgnffmlcjnnneaaDoorLnM
namespace Go.Proofs.YtgnffmlcjnnneaaDoor
open Go Go.RowKit Go.Sort Cg
theorem split_a : splS ⟨#[117, 110, 105, 113, 117, 101, 32, 99, 114, 101, 97, 116, 117, 114, 101, 32, 102, 111, 120, 32, 104, 101, 114, 111]⟩ 32 = [⟨#[117, 110, 105, 113, 117, 101]⟩, ⟨#[99, 114, 101, 97, 116, 117, 114, 101]⟩, ⟨#[102, 111, 120]⟩, ⟨#[104, 101, 114, 111]⟩] := by decide +kernel
theorem split_b : splS ⟨#[105, 110, 115, 116, 97, 110, 116, 32, 99, 114, 101, 97, 116, 117, 114, 101]⟩ 32 = [⟨#[105, 110, 115, 116, 97, 110, 116]⟩, ⟨#[99, 114, 101, 97, 116, 117, 114, 101]⟩] := by decide +kernel
theorem split_c : splS ⟨#[99, 114, 101, 97, 116, 117, 114, 101, 43, 114, 101, 108, 105, 99]⟩ 43 = [⟨#[99, 114, 101, 97, 116, 117, 114, 101]⟩, ⟨#[114, 101, 108, 105, 99]⟩] := by decide +kernel
theorem parse_a : parseL ⟨#[117, 110, 105, 113, 117, 101, 32, 99, 114, 101, 97, 116, 117, 114, 101, 32, 102, 111, 120, 32, 104, 101, 114, 111]⟩ = (2, 1, [⟨#[102, 111, 120]⟩, ⟨#[104, 101, 114, 111]⟩], 0) := by decide +kernel
theorem parse_b : parseL ⟨#[105, 110, 115, 116, 97, 110, 116, 32, 99, 114, 101, 97, 116, 117, 114, 101]⟩ = (0, 0, [], 3) := by decide +kernel
theorem parse_c : ptRes ⟨#[99, 114, 101, 97, 116, 117, 114, 101, 43, 114, 101, 108, 105, 99]⟩ = (9, 0) := by decide +kernel
theorem text_a : lineText 2 1 [⟨#[102, 111, 120]⟩, ⟨#[104, 101, 114, 111]⟩] = ⟨#[117, 110, 105, 113, 117, 101, 32, 99, 114, 101, 97, 116, 117, 114, 101, 32, 102, 111, 120, 32, 104, 101, 114, 111]⟩ := by decide +kernel
theorem sub_a : isSub ⟨#[108, 97, 110, 100]⟩ = false := by decide +kernel
theorem sub_b : isSub ⟨#[102, 111, 120]⟩ = true := by decide +kernel
end Go.Proofs.YtgnffmlcjnnneaaDoor
