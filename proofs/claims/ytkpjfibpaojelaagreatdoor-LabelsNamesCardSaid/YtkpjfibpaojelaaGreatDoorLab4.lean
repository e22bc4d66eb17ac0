/- Closed calls, and what they return. -/
import Derived.Test.YtkpjfibpaojelaaGreatDoorLab3
namespace Go.Proofs.YtkpjfibpaojelaaGreatDoor
open Go Go.Abs
set_option maxRecDepth 100000
def tabP0 : Tab := [
  (18, [.string ⟨#[123, 125]⟩], .tuple #[.slice none 0 0, .int .i64 4]),
  (18, [.string ⟨#[123, 32, 97, 61, 34, 98, 34, 125]⟩], .tuple #[.slice none 0 0, .int .i64 4]),
  (18, [.string ⟨#[123, 98, 61, 34, 34, 44, 97, 61, 34, 120, 34, 125]⟩], .tuple #[.slice none 0 0, .int .i64 4]),
  (18, [.string ⟨#[]⟩], .tuple #[.slice none 0 0, .int .i64 4]),
  (18, [.string ⟨#[123]⟩], .tuple #[.slice none 0 0, .int .i64 4]),
  (18, [.string ⟨#[97, 61, 34, 98, 34]⟩], .tuple #[.slice none 0 0, .int .i64 4]),
  (18, [.string ⟨#[123, 97, 125]⟩], .tuple #[.slice none 0 0, .int .i64 4]),
  (18, [.string ⟨#[123, 97, 61, 98, 125]⟩], .tuple #[.slice none 0 0, .int .i64 4]),
  (18, [.string ⟨#[123, 97, 61, 34, 98, 125]⟩], .tuple #[.slice none 0 0, .int .i64 4])]
theorem tabP0_run (c : Nat → CI) : tabB Tryz.prog plans (tabOv laidL (tabV0 ++ tabV1)) (laidHeap c laidL) tabP0 = true := by kernel_rfl
theorem tabP0_ok : TabOk Tryz.prog laidL tabP0 := TabOk.of_run pok plans_ok laidL_lt (tabV0_ok.append tabV1_ok) tabP0_run
def tabP1 : Tab := [
  (18, [.string ⟨#[123, 97, 61, 34, 98, 34]⟩], .tuple #[.slice none 0 0, .int .i64 4]),
  (18, [.string ⟨#[123, 97, 61, 34, 98, 34, 44, 125]⟩], .tuple #[.slice none 0 0, .int .i64 4]),
  (18, [.string ⟨#[123, 97, 61, 34, 98, 34, 125, 120]⟩], .tuple #[.slice none 0 0, .int .i64 4]),
  (18, [.string ⟨#[123, 97, 32, 61, 34, 98, 34, 125]⟩], .tuple #[.slice none 0 0, .int .i64 4]),
  (18, [.string ⟨#[123, 97, 61, 34, 98, 34, 32, 125]⟩], .tuple #[.slice none 0 0, .int .i64 4]),
  (18, [.string ⟨#[123, 97, 61, 34, 34, 125]⟩], .tuple #[.slice none 0 0, .int .i64 4]),
  (18, [.string ⟨#[123, 98, 61, 34, 120, 34, 44, 97, 61, 34, 121, 34, 125]⟩], .tuple #[.slice none 0 0, .int .i64 4]),
  (18, [.string ⟨#[123, 97, 61, 34, 120, 34, 44, 97, 61, 34, 121, 34, 125]⟩], .tuple #[.slice none 0 0, .int .i64 4]),
  (18, [.string ⟨#[123, 97, 61, 34, 92, 110, 34, 125]⟩], .tuple #[.slice none 0 0, .int .i64 4])]
theorem tabP1_run (c : Nat → CI) : tabB Tryz.prog plans (tabOv laidL (tabV0 ++ tabV1)) (laidHeap c laidL) tabP1 = true := by kernel_rfl
theorem tabP1_ok : TabOk Tryz.prog laidL tabP1 := TabOk.of_run pok plans_ok laidL_lt (tabV0_ok.append tabV1_ok) tabP1_run
def tabP2 : Tab := [
  (18, [.string ⟨#[123, 97, 61, 34, 92, 117, 34, 125]⟩], .tuple #[.slice none 0 0, .int .i64 4]),
  (18, [.string ⟨#[123, 97, 61, 34, 92, 117, 123, 125, 34, 125]⟩], .tuple #[.slice none 0 0, .int .i64 4]),
  (18, [.string ⟨#[123, 97, 61, 34, 92, 117, 123, 100, 56, 48, 48, 125, 34, 125]⟩], .tuple #[.slice none 0 0, .int .i64 4]),
  (18, [.string ⟨#[123, 97, 61, 34, 92, 117, 123, 49, 49, 48, 48, 48, 48, 125, 34, 125]⟩], .tuple #[.slice none 0 0, .int .i64 4]),
  (18, [.string ⟨#[123, 97, 61, 34, 92, 117, 123, 48, 48, 48, 48, 48, 52, 49, 125, 34, 125]⟩], .tuple #[.slice none 0 0, .int .i64 4]),
  (18, [.string ⟨#[123, 97, 61, 34, 92, 117, 123, 69, 57, 125, 34, 125]⟩], .tuple #[.slice none 0 0, .int .i64 4]),
  (18, [.string ⟨#[123, 97, 61, 34, 92, 117, 123, 101, 57, 34, 125]⟩], .tuple #[.slice none 0 0, .int .i64 4]),
  (18, [.string ⟨#[123, 97, 61, 34, 92, 117, 123, 55, 125, 34, 125]⟩], .tuple #[.slice none 0 0, .int .i64 4]),
  (18, [.string ⟨#[123, 97, 61, 34, 255, 34, 125]⟩], .tuple #[.slice none 0 0, .int .i64 4])]
theorem tabP2_run (c : Nat → CI) : tabB Tryz.prog plans (tabOv laidL (tabV0 ++ tabV1)) (laidHeap c laidL) tabP2 = true := by kernel_rfl
theorem tabP2_ok : TabOk Tryz.prog laidL tabP2 := TabOk.of_run pok plans_ok laidL_lt (tabV0_ok.append tabV1_ok) tabP2_run
def tabP3 : Tab := [
  (18, [.string ⟨#[123, 97, 61, 34, 10, 34, 125]⟩], .tuple #[.slice none 0 0, .int .i64 4]),
  (18, [.string ⟨#[123, 61, 34, 98, 34, 125]⟩], .tuple #[.slice none 0 0, .int .i64 4]),
  (18, [.string ⟨#[123, 97, 61, 34, 98, 34, 44, 44, 99, 61, 34, 100, 34, 125]⟩], .tuple #[.slice none 0 0, .int .i64 4]),
  (18, [.string ⟨#[123, 97, 61, 34, 98, 34, 99, 61, 34, 100, 34, 125]⟩], .tuple #[.slice none 0 0, .int .i64 4]),
  (33, [.string ⟨#[]⟩], .tuple #[.slice none 0 0, .int .i64 4]),
  (33, [.string ⟨#[1, 97, 1]⟩], .tuple #[.slice none 0 0, .int .i64 8]),
  (33, [.string ⟨#[65, 97]⟩], .tuple #[.slice none 0 0, .int .i64 40]),
  (33, [.string ⟨#[1, 97, 129, 2]⟩], .tuple #[.slice none 0 0, .int .i64 40])]
theorem tabP3_run (c : Nat → CI) : tabB Tryz.prog plans (tabOv laidL (tabV0 ++ tabV1)) (laidHeap c laidL) tabP3 = true := by kernel_rfl
theorem tabP3_ok : TabOk Tryz.prog laidL tabP3 := TabOk.of_run pok plans_ok laidL_lt (tabV0_ok.append tabV1_ok) tabP3_run
end Go.Proofs.YtkpjfibpaojelaaGreatDoor
