/-
  The great region of the law LexRow that draws its order: its operations may be walked in the order of the text. Shown piece by piece.
-/
import Derived.Test.YtkflnbmbkilicaaDoorLexAwake
import Derived.BigQuiet
namespace Go.Proofs.YtkflnbmbkilicaaDoor
open Go.RowKit

/-- A region of a text, by its number. -/
def findReg (n : Nat) : Code → Option (Array Oper)
  | .region id ops _ => if id = n then some ops else none
  | .seq a b => match findReg n a with
    | some c => some c
    | none => findReg n b
  | .block _ c => findReg n c
  | .loop c => findReg n c
  | .scope c => findReg n c
  | .cond _ a b => match findReg n a with
    | some c => some c
    | none => findReg n b
  | _ => none
/-- So many steps of the order of the text. -/
def lexSteps (md : Region.Mode) (ops : Array Oper) : Nat → Nat → Array Bool → Bool
  | 0, _, _ => true
  | fuel + 1, k, listed => (Region.ready md ops listed).contains k && Region.free md ops listed k && lexSteps md ops fuel (k + 1) (listed.setIfInBounds k true)
def listedAt (n : Nat) : Nat → Array Bool
  | 0 => Array.replicate n false
  | k + 1 => (listedAt n k).setIfInBounds k true
theorem lexFrom_chunk (md : Region.Mode) (ops : Array Oper) (n : Nat) : ∀ (a b k : Nat), lexSteps md ops a k (listedAt n k) = true → Region.lexFrom md ops b (k + a) (listedAt n (k + a)) = true → Region.lexFrom md ops (a + b) k (listedAt n k) = true
  | 0, b, k, _, h2 => by rw [Nat.zero_add]; exact h2
  | a + 1, b, k, h1, h2 => by
    rw [lexSteps, Bool.and_eq_true, Bool.and_eq_true] at h1
    rw [show a + 1 + b = (a + b) + 1 by omega, Region.lexFrom, h1.1.1, h1.1.2]
    rw [show k + (a + 1) = k + 1 + a by omega] at h2
    exact lexFrom_chunk md ops n a b (k + 1) h1.2 h2
theorem lexB_of {ops : Array Oper} {n : Nat} (hs : Region.noSelect ops = true) (hn : ops.size = n) (h : Region.lexFrom .any ops n 0 (listedAt n 0) = true) : Region.lexB .any ops = true := by
  subst hn
  unfold Region.lexB
  rw [hs]
  exact h
noncomputable def rowOps : Array Oper := ((Tryd.f6.body.bind (findReg 10)).getD #[])
theorem rowOps_size : rowOps.size = 125 := by kernel_rfl
theorem rowOps_sel : Region.noSelect rowOps = true := by kernel_rfl
theorem rowChunk0 : lexSteps .any rowOps 5 0 (listedAt 125 0) = true := by kernel_rfl
theorem rowChunk5 : lexSteps .any rowOps 5 5 (listedAt 125 5) = true := by kernel_rfl
theorem rowChunk10 : lexSteps .any rowOps 5 10 (listedAt 125 10) = true := by kernel_rfl
theorem rowChunk15 : lexSteps .any rowOps 5 15 (listedAt 125 15) = true := by kernel_rfl
theorem rowChunk20 : lexSteps .any rowOps 5 20 (listedAt 125 20) = true := by kernel_rfl
theorem rowChunk25 : lexSteps .any rowOps 5 25 (listedAt 125 25) = true := by kernel_rfl
theorem rowChunk30 : lexSteps .any rowOps 5 30 (listedAt 125 30) = true := by kernel_rfl
theorem rowChunk35 : lexSteps .any rowOps 5 35 (listedAt 125 35) = true := by kernel_rfl
theorem rowChunk40 : lexSteps .any rowOps 5 40 (listedAt 125 40) = true := by kernel_rfl
theorem rowChunk45 : lexSteps .any rowOps 5 45 (listedAt 125 45) = true := by kernel_rfl
theorem rowChunk50 : lexSteps .any rowOps 5 50 (listedAt 125 50) = true := by kernel_rfl
theorem rowChunk55 : lexSteps .any rowOps 5 55 (listedAt 125 55) = true := by kernel_rfl
theorem rowChunk60 : lexSteps .any rowOps 5 60 (listedAt 125 60) = true := by kernel_rfl
theorem rowChunk65 : lexSteps .any rowOps 5 65 (listedAt 125 65) = true := by kernel_rfl
theorem rowChunk70 : lexSteps .any rowOps 5 70 (listedAt 125 70) = true := by kernel_rfl
theorem rowChunk75 : lexSteps .any rowOps 5 75 (listedAt 125 75) = true := by kernel_rfl
theorem rowChunk80 : lexSteps .any rowOps 5 80 (listedAt 125 80) = true := by kernel_rfl
theorem rowChunk85 : lexSteps .any rowOps 5 85 (listedAt 125 85) = true := by kernel_rfl
theorem rowChunk90 : lexSteps .any rowOps 5 90 (listedAt 125 90) = true := by kernel_rfl
theorem rowChunk95 : lexSteps .any rowOps 5 95 (listedAt 125 95) = true := by kernel_rfl
theorem rowChunk100 : lexSteps .any rowOps 5 100 (listedAt 125 100) = true := by kernel_rfl
theorem rowChunk105 : lexSteps .any rowOps 5 105 (listedAt 125 105) = true := by kernel_rfl
theorem rowChunk110 : lexSteps .any rowOps 5 110 (listedAt 125 110) = true := by kernel_rfl
theorem rowChunk115 : lexSteps .any rowOps 5 115 (listedAt 125 115) = true := by kernel_rfl
theorem rowChunk120 : lexSteps .any rowOps 5 120 (listedAt 125 120) = true := by kernel_rfl
theorem rowEnd : Region.lexFrom .any rowOps 0 125 (listedAt 125 125) = true := by kernel_rfl
theorem rowLexFrom : Region.lexFrom .any rowOps 125 0 (listedAt 125 0) = true :=
  (lexFrom_chunk .any rowOps 125 5 120 0 rowChunk0 (lexFrom_chunk .any rowOps 125 5 115 5 rowChunk5 (lexFrom_chunk .any rowOps 125 5 110 10 rowChunk10 (lexFrom_chunk .any rowOps 125 5 105 15 rowChunk15 (lexFrom_chunk .any rowOps 125 5 100 20 rowChunk20 (lexFrom_chunk .any rowOps 125 5 95 25 rowChunk25 (lexFrom_chunk .any rowOps 125 5 90 30 rowChunk30 (lexFrom_chunk .any rowOps 125 5 85 35 rowChunk35 (lexFrom_chunk .any rowOps 125 5 80 40 rowChunk40 (lexFrom_chunk .any rowOps 125 5 75 45 rowChunk45 (lexFrom_chunk .any rowOps 125 5 70 50 rowChunk50 (lexFrom_chunk .any rowOps 125 5 65 55 rowChunk55 (lexFrom_chunk .any rowOps 125 5 60 60 rowChunk60 (lexFrom_chunk .any rowOps 125 5 55 65 rowChunk65 (lexFrom_chunk .any rowOps 125 5 50 70 rowChunk70 (lexFrom_chunk .any rowOps 125 5 45 75 rowChunk75 (lexFrom_chunk .any rowOps 125 5 40 80 rowChunk80 (lexFrom_chunk .any rowOps 125 5 35 85 rowChunk85 (lexFrom_chunk .any rowOps 125 5 30 90 rowChunk90 (lexFrom_chunk .any rowOps 125 5 25 95 rowChunk95 (lexFrom_chunk .any rowOps 125 5 20 100 rowChunk100 (lexFrom_chunk .any rowOps 125 5 15 105 rowChunk105 (lexFrom_chunk .any rowOps 125 5 10 110 rowChunk110 (lexFrom_chunk .any rowOps 125 5 5 115 rowChunk115 (lexFrom_chunk .any rowOps 125 5 0 120 rowChunk120 rowEnd)))))))))))))))))))))))))
theorem rowLex : Region.lexB .any rowOps = true := lexB_of rowOps_sel rowOps_size rowLexFrom
end Go.Proofs.YtkflnbmbkilicaaDoor
