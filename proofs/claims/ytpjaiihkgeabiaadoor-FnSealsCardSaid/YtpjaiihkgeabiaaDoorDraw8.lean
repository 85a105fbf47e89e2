/- What the reference draws for the law on chains: records with their links. Conditions: none. -/
import Derived.Test.YtpjaiihkgeabiaaDoorDraw7
import Derived.Test.YtpjaiihkgeabiaaDoorJoin
import Derived.Deep.DeepCutAuto
import Derived.Deep.CutBlock
set_option linter.unusedVariables false
set_option linter.unusedSimpArgs false
set_option maxRecDepth 100000
namespace Go.Proofs.YtpjaiihkgeabiaaDoor
open Go.RowKit
/-- Rows of strings of the call's own: what a drawing function hands back. -/
def RetT1 (w : World) (e : Ending) (w' : World) : Prop := ∃ (A : Option Addr) (n c : Nat) (L : List ByteArray) (x : World), e = .returned (.slice A n c) ∧ n ≤ 1000 ∧ (∀ s ∈ L, s.size ≤ 1000) ∧ w' = ext w x ∧ OwT w.heap.size (ext w x) A n c L
def RetTIT (w : World) (e : Ending) (w' : World) : Prop := ∃ (A : Option Addr) (n c : Nat) (L : List ByteArray) (i : Int) (s : ByteArray) (x : World), e = .returned (.tuple #[.slice A n c, .int .i64 i, .string s]) ∧ n ≤ 1000 ∧ (∀ s ∈ L, s.size ≤ 1000) ∧ s.size ≤ 1000 ∧ w' = ext w x ∧ OwT w.heap.size (ext w x) A n c L
def RetTT1 (w : World) (e : Ending) (w' : World) : Prop := ∃ (A : Option Addr) (n c : Nat) (L : List ByteArray) (B : Option Addr) (m d : Nat) (M : List Int) (x : World), e = .returned (.tuple #[.slice A n c, .slice B m d]) ∧ n ≤ 1000 ∧ (∀ s ∈ L, s.size ≤ 1000) ∧ m ≤ 2000 ∧ w' = ext w x ∧ OwT w.heap.size (ext w x) A n c L ∧ OwI w.heap.size (ext w x) B m d M
def RetS1 (w : World) (e : Ending) (w' : World) : Prop := ∃ (s : ByteArray) (x : World), e = .returned (.string s) ∧ s.size ≤ 1000 ∧ w' = ext w x
end Go.Proofs.YtpjaiihkgeabiaaDoor
