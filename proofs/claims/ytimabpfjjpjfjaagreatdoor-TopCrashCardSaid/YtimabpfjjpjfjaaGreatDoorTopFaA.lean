/- What the row says of the program, taken apart: each fact is told by itself. -/
import Derived.Test.YtimabpfjjpjfjaaGreatDoorRows
import Derived.JoinedOf
import Derived.KernelRfl
namespace Go.Proofs.YtimabpfjjpjfjaaGreatDoor.topCrash
set_option maxRecDepth 100000
set_option linter.all false
open Go
def J1 (P : Program) (f : FuncId) (fn : Func) (s : ChangeSpec) (c : OpenClaim) : Bool := c.wf (OpenSpec.ofChange s)
def J2 (P : Program) (f : FuncId) (fn : Func) (s : ChangeSpec) (c : OpenClaim) : Bool := laidOutB P
def J3 (P : Program) (f : FuncId) (fn : Func) (s : ChangeSpec) (c : OpenClaim) : Bool := mapsRowed P
def J4 (P : Program) (f : FuncId) (fn : Func) (s : ChangeSpec) (c : OpenClaim) : Bool := fn.params.all (P.readableRec ·) && namedTie P c.named s.vars
def J5 (P : Program) (f : FuncId) (fn : Func) (s : ChangeSpec) (c : OpenClaim) : Bool := (c.stops == []) && (P.stops == []) && (c.knobs == []) && (P.stopKnobs == [])
def J6 (P : Program) (f : FuncId) (fn : Func) (s : ChangeSpec) (c : OpenClaim) : Bool := c.inPlace == P.inPlace f
def J7 (P : Program) (f : FuncId) (fn : Func) (s : ChangeSpec) (c : OpenClaim) : Bool := c.unfollowed == P.unfollowed f
def J8 (P : Program) (f : FuncId) (fn : Func) (s : ChangeSpec) (c : OpenClaim) : Bool := c.recurses == P.recurses f
def J9 (P : Program) (f : FuncId) (fn : Func) (s : ChangeSpec) (c : OpenClaim) : Bool := c.named == P.varsNamed f
def J10 (P : Program) (f : FuncId) (fn : Func) (s : ChangeSpec) (c : OpenClaim) : Bool := (c.maps == (fn.params.toList ++ s.plain.varTypes P).any (P.mapsRec ·)) && (c.ifaces == (fn.params.toList ++ s.plain.varTypes P).any (P.ifacesRec ·)) && (c.mapsOut == P.mapsAmong fn.resultTypes.toList)
def J11 (P : Program) (f : FuncId) (fn : Func) (s : ChangeSpec) (c : OpenClaim) : Bool := (c.loops == (fn.params.toList ++ s.plain.varTypes P).any (P.loopsFrom ·)) && (c.wideKeys == (fn.params.toList ++ s.plain.varTypes P ++ fn.resultTypes.toList).any (P.wideKeysFrom ·))
def J12 (P : Program) (f : FuncId) (fn : Func) (s : ChangeSpec) (c : OpenClaim) : Bool := s.vars.all (P.varReadable ·) && fn.resultTypes.all (fun t => P.readableRec t && decide (t < P.types.size))
def J13 (P : Program) (f : FuncId) (fn : Func) (s : ChangeSpec) (c : OpenClaim) : Bool := (c.ifacesOut == fn.resultTypes.toList.any (P.ifacesRec ·)) && (c.loopsOut == fn.resultTypes.toList.any (P.loopsFrom ·))
def J14 (P : Program) (f : FuncId) (fn : Func) (s : ChangeSpec) (c : OpenClaim) : Bool := c.plainKeys == P.plainKeys
def J15 (P : Program) (f : FuncId) (fn : Func) (s : ChangeSpec) (c : OpenClaim) : Bool := c.shortTexts.isNone && P.stopsHeard && P.mayEnter
def J16 (P : Program) (f : FuncId) (fn : Func) (s : ChangeSpec) (c : OpenClaim) : Bool := c.lifted == P.liftsFinal
def J17 (P : Program) (f : FuncId) (fn : Func) (s : ChangeSpec) (c : OpenClaim) : Bool := P.make == some c.make
def J18 (P : Program) (f : FuncId) (fn : Func) (s : ChangeSpec) (c : OpenClaim) : Bool := (c.kinds == (if c.domain.isEmpty then [] else fn.params.toList.map fun t => match P.underlying t with | some (.int k) => some k | _ => none)) && (c.pinned == c.pinnedBy)
def J19 (P : Program) (f : FuncId) (fn : Func) (s : ChangeSpec) (c : OpenClaim) : Bool := c.veiled == (fn.params.toList ++ s.plain.varTypes P ++ fn.resultTypes.toList).any (P.veiledRec ·)
def J20 (P : Program) (f : FuncId) (fn : Func) (s : ChangeSpec) (c : OpenClaim) : Bool := c.veiledFits P fn.params.toList (fn.params.toList ++ s.plain.varTypes P ++ fn.resultTypes.toList)
theorem joined_of {P : Program} {f : FuncId} {fn : Func} {s : ChangeSpec} {c : OpenClaim} (h1 : J1 P f fn s c = true) (h2 : J2 P f fn s c = true) (h3 : J3 P f fn s c = true) (h4 : J4 P f fn s c = true) (h5 : J5 P f fn s c = true) (h6 : J6 P f fn s c = true) (h7 : J7 P f fn s c = true) (h8 : J8 P f fn s c = true) (h9 : J9 P f fn s c = true) (h10 : J10 P f fn s c = true) (h11 : J11 P f fn s c = true) (h12 : J12 P f fn s c = true) (h13 : J13 P f fn s c = true) (h14 : J14 P f fn s c = true) (h15 : J15 P f fn s c = true) (h16 : J16 P f fn s c = true) (h17 : J17 P f fn s c = true) (h18 : J18 P f fn s c = true) (h19 : J19 P f fn s c = true) (h20 : J20 P f fn s c = true) : joinedFacts P f fn s c = true := by
  unfold joinedFacts
  unfold J1 J2 J3 J4 J5 J6 J7 J8 J9 J10 J11 J12 J13 J14 J15 J16 J17 J18 J19 J20 at *
  simp only [Bool.and_eq_true] at *
  exact ⟨⟨⟨⟨⟨⟨⟨⟨⟨⟨⟨⟨⟨⟨⟨⟨⟨⟨⟨⟨⟨⟨⟨⟨⟨⟨⟨⟨⟨⟨⟨h1, h2⟩, h3⟩, h4.1⟩, h4.2⟩, h5.1.1.1⟩, h5.1.1.2⟩, h5.1.2⟩, h5.2⟩, h6⟩, h7⟩, h8⟩, h9⟩, h10.1.1⟩, h10.1.2⟩, h10.2⟩, h11.1⟩, h11.2⟩, h12.1⟩, h12.2⟩, h13.1⟩, h13.2⟩, h14⟩, h15.1.1⟩, h15.1.2⟩, h15.2⟩, h16⟩, h17⟩, h18.1⟩, h18.2⟩, h19⟩, h20⟩
theorem cJ1 : J1 Tryz.prog 3 Tryz.f3 Rows.topCrashSpec Rows.topCrashRow = true := by kernel_rfl
theorem cJ2 : J2 Tryz.prog 3 Tryz.f3 Rows.topCrashSpec Rows.topCrashRow = true := by kernel_rfl
theorem cJ3 : J3 Tryz.prog 3 Tryz.f3 Rows.topCrashSpec Rows.topCrashRow = true := by kernel_rfl
theorem cJ4 : J4 Tryz.prog 3 Tryz.f3 Rows.topCrashSpec Rows.topCrashRow = true := by kernel_rfl
theorem cJ5 : J5 Tryz.prog 3 Tryz.f3 Rows.topCrashSpec Rows.topCrashRow = true := by kernel_rfl
theorem cJ10 : J10 Tryz.prog 3 Tryz.f3 Rows.topCrashSpec Rows.topCrashRow = true := by kernel_rfl
theorem cJ11 : J11 Tryz.prog 3 Tryz.f3 Rows.topCrashSpec Rows.topCrashRow = true := by kernel_rfl
theorem cJ12 : J12 Tryz.prog 3 Tryz.f3 Rows.topCrashSpec Rows.topCrashRow = true := by kernel_rfl
theorem cJ13 : J13 Tryz.prog 3 Tryz.f3 Rows.topCrashSpec Rows.topCrashRow = true := by kernel_rfl
theorem cJ14 : J14 Tryz.prog 3 Tryz.f3 Rows.topCrashSpec Rows.topCrashRow = true := by kernel_rfl
theorem cJ15 : J15 Tryz.prog 3 Tryz.f3 Rows.topCrashSpec Rows.topCrashRow = true := by kernel_rfl
theorem cJ16 : J16 Tryz.prog 3 Tryz.f3 Rows.topCrashSpec Rows.topCrashRow = true := by kernel_rfl
theorem cJ17 : J17 Tryz.prog 3 Tryz.f3 Rows.topCrashSpec Rows.topCrashRow = true := by kernel_rfl
theorem cJ18 : J18 Tryz.prog 3 Tryz.f3 Rows.topCrashSpec Rows.topCrashRow = true := by kernel_rfl
theorem cJ19 : J19 Tryz.prog 3 Tryz.f3 Rows.topCrashSpec Rows.topCrashRow = true := by kernel_rfl
theorem cJ20 : J20 Tryz.prog 3 Tryz.f3 Rows.topCrashSpec Rows.topCrashRow = true := by kernel_rfl
end Go.Proofs.YtimabpfjjpjfjaaGreatDoor.topCrash
