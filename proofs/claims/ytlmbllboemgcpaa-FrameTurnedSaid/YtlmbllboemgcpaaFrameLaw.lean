/- The laws of frame: wakes, FrameSeals, FrameOpens. -/
import Derived.Test.YtlmbllboemgcpaaFrameRef2
import Derived.Test.YtlmbllboemgcpaaKeep
namespace Go.Proofs.Ytlmbllboemgcpaa.FrameW
open Go.RowKit
set_option maxHeartbeats 400000 in
theorem wakes_any (w : World) : Calls Try.prog 8 #[] w fun e w' => e = .returned (.bool true) ∧ Below w.heap.size w w' := by
  have h1 : Hid (sealL [97, 98] = [0, 0, 0, 2, 109, 28, 47, 95, 97, 98]) := Lib.hid (by decide +kernel)
  have h2 : Hid (nextR [0, 0, 0, 2, 109, 28, 47, 95, 97, 98, 109, 111, 114, 101] = ([97, 98], 10, 0)) := Lib.hid (by decide +kernel)
  have h2' : Hid (nextV ((⟨#[0, 0, 0, 2, 109, 28, 47, 95, 97, 98]⟩ : ByteArray) ++ (⟨#[109, 111, 114, 101]⟩ : ByteArray)).data.toList = .tuple #[.string ⟨#[97, 98]⟩, .int .i64 10, .int .i64 0]) := Lib.hid (by
    have : ((⟨#[0, 0, 0, 2, 109, 28, 47, 95, 97, 98]⟩ : ByteArray) ++ (⟨#[109, 111, 114, 101]⟩ : ByteArray)).data.toList = [0, 0, 0, 2, 109, 28, 47, 95, 97, 98, 109, 111, 114, 101] := by rw [ByteArray.data_append, Array.toList_append]; rfl
    rw [this, nextV, h2.out]; rfl)
  have h3 : Hid (sealL [] = [0, 0, 0, 0, 33, 68, 223, 28]) := Lib.hid (by decide +kernel)
  go_enter Try.func8, Try.ntmps8
  go_wp2_with fail
  refine (seal_fits _ (by decide) _).mono ?_
  rintro e w1 ⟨he, hb1⟩
  have he2 := he.trans (congrArg (fun x => Ending.returned (.tuple #[.string ⟨x.toArray⟩, .int .i64 0])) h1.out)
  clear he
  subst he2
  have HB1 := Lib.hid hb1
  clear hb1
  go_wp2_with fail
  refine (next_any _ (by rw [ByteArray.size_append]; decide) _).mono ?_
  rintro e w2 ⟨he, rfl⟩
  have he2 := he.trans (congrArg Ending.returned h2'.out)
  clear he
  subst he2
  go_wp2_with fail
  refine (seal_fits _ (by decide) _).mono ?_
  rintro e w3 ⟨he, hb3⟩
  have he2 := he.trans (congrArg (fun x => Ending.returned (.tuple #[.string ⟨x.toArray⟩, .int .i64 0])) h3.out)
  clear he
  subst he2
  have HB3 := Lib.hid hb3
  clear hb3
  go_wp2
  go_ret
  exact ⟨rfl, bstep HB1.out HB3.out⟩
/-- the answers of the two Seals -/
def sealS (s : ByteArray) : ByteArray := if s.size ≤ 65536 then ⟨(sealL s.data.toList).toArray⟩ else ⟨#[]⟩
def sealE (s : ByteArray) : Int := if s.size ≤ 65536 then 0 else 2
theorem seal_is (s : ByteArray) (w : World) : Calls Try.prog 9 #[.string s] w fun e w' => e = .returned (.tuple #[.string (sealS s), .int .i64 (sealE s)]) ∧ Below w.heap.size w w' := seal_any s w
theorem rseal_is (s : ByteArray) (w : World) : Calls Try.prog 10 #[.string s] w fun e w' => e = .returned (.tuple #[.string (sealS s), .int .i64 (sealE s)]) ∧ Below w.heap.size w w' := rseal_any s w
set_option maxHeartbeats 400000 in
theorem seals_walk (s : ByteArray) (_ : s.size ≤ maxLen) (w : World) :
    Calls Try.prog 3 #[.string s] w fun e w' => e = .returned (.bool true) ∧ Below w.heap.size w w' := by
  by_cases h : 70000 < s.size
  · go_enter Try.func3, Try.ntmps3
    go_wp2_with (go_at_call 8; refine (wakes_any _).mono ?_; rintro e w1 ⟨rfl, hb1⟩)
    go_ret
    exact ⟨rfl, hb1⟩
  · go_enter Try.func3, Try.ntmps3
    go_wp2_with (first
      | (go_at_call 9; refine (seal_is _ _).mono ?_; rintro e w1 ⟨rfl, hb1⟩)
      | (go_at_call 10; refine (rseal_is _ _).mono ?_; rintro e w2 ⟨rfl, hb2⟩)
      | (go_at_call 8; refine (wakes_any _).mono ?_; rintro e w3 ⟨rfl, hb3⟩))
    go_ret
    exact ⟨rfl, bstep (bstep hb1 hb2) hb3⟩
/-- what the two Nexts and Opens answer, in parts -/
theorem next_is (f : ByteArray) (hs : f.size ≤ 9223372036854775807) (s : ByteArray) (n e0 : Int) (hR : nextV f.data.toList = .tuple #[.string s, .int .i64 n, .int .i64 e0]) (w : World) :
    Calls Try.prog 11 #[.string f] w fun e w' => e = .returned (.tuple #[.string s, .int .i64 n, .int .i64 e0]) ∧ w = w' := by
  rw [← hR]; exact next_any f hs w
theorem rnext_is (f : ByteArray) (hs : f.size ≤ 9223372036854775807) (s : ByteArray) (n e0 : Int) (hR : rnextV f.data.toList = .tuple #[.agg #[.string s, .int .i64 n], .int .i64 e0]) (w : World) :
    Calls Try.prog 15 #[.string f] w fun e w' => e = .returned (.tuple #[.agg #[.string s, .int .i64 n], .int .i64 e0]) ∧ Below w.heap.size w w' := by
  rw [← hR]; exact rnext_any f hs w
set_option maxHeartbeats 800000 in
theorem opens_walk (f : ByteArray) (hs : f.size ≤ maxLen) (w : World) :
    Calls Try.prog 5 #[.string f] w fun e w' => e = .returned (.bool true) ∧ Below w.heap.size w w' := by
  unfold maxLen at hs
  by_cases h : 70020 < f.size
  · go_enter Try.func5, Try.ntmps5
    go_wp2_with (go_at_call 8; refine (wakes_any _).mono ?_; rintro e w1 ⟨rfl, hb1⟩)
    go_ret
    exact ⟨rfl, hb1⟩
  · have HS := Lib.hid hs
    obtain ⟨s, n, e0, h1, h2⟩ : ∃ (s : ByteArray) (n e0 : Int), nextV f.data.toList = .tuple #[.string s, .int .i64 n, .int .i64 e0] ∧ rnextV f.data.toList = .tuple #[.agg #[.string s, .int .i64 n], .int .i64 e0] := ⟨_, _, _, rfl, rfl⟩
    have H1 := Lib.hid h1
    have H2 := Lib.hid h2
    obtain ⟨t, q, h3⟩ : ∃ (t : ByteArray) (q : Int), t = ⟨(openR f.data.toList).1.toArray⟩ ∧ q = ((openR f.data.toList).2 : Nat) := ⟨_, _, rfl, rfl⟩
    have H3 := Lib.hid h3
    clear h1 h2 h3 hs
    go_enter Try.func5, Try.ntmps5
    go_wp2_with (first
      | (go_at_call 13; refine (open_any _ HS.out _).mono ?_; rintro e w1 ⟨he, rfl⟩; rw [← H3.out.1, ← H3.out.2] at he; subst he)
      | (go_at_call 14; refine (ropen_any _ HS.out _).mono ?_; rintro e w2 ⟨he, hb2⟩; rw [← H3.out.1, ← H3.out.2] at he; subst he; have HB2 := Lib.hid hb2; clear hb2)
      | (go_at_call 11; refine (next_is _ HS.out _ _ _ H1.out _).mono ?_; rintro e w1 ⟨rfl, rfl⟩)
      | (go_at_call 15; refine (rnext_is _ HS.out _ _ _ H2.out _).mono ?_; rintro e w3 ⟨rfl, hb3⟩; have HB3 := Lib.hid hb3; clear hb3)
      | (go_at_call 8; refine (wakes_any _).mono ?_; rintro e w5 ⟨rfl, hb5⟩))
    go_ret
    exact ⟨rfl, bstep (bstep (bstep HB2.out HB3.out) (below_alloc _ _)) hb5⟩
end Go.Proofs.Ytlmbllboemgcpaa.FrameW
