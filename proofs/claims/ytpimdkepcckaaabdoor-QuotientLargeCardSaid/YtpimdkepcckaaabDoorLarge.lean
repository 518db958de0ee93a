/-
  QuotientLarge returns true for every input and leaves its arguments as they were: the card over its row. Conditions: those of the card (the listed variables as the program's text lays them).
-/
import Derived.Test.YtpimdkepcckaaabDoorLaw
import Derived.Test.YtpimdkepcckaaabDoorCards
import Derived.Test.YtpimdkepcckaaabDoorTie
import Derived.WalkKit
import Derived.ProofKit
import Derived.OpenShut
import Derived.Deep.DeepHandedRow
namespace Go.Proofs.YtpimdkepcckaaabDoor
open Go Go.Deep Go.RowKit Go.ChangeShapes Go.WideShapes

theorem own : ownKnob Tryd.prog.godebug = none := by kernel_rfl
theorem gTab : Tryd.prog.globalNamed "math/bits.deBruijn64tab" = some 3 := by kernel_rfl
theorem gTabType : (Tryd.prog.globals[3]?).map (·.type) = some 120 := by kernel_rfl
theorem gMore : Tryd.prog.globalNamed "reckoner/fin.more" = some 0 := by kernel_rfl
theorem gMoreType : (Tryd.prog.globals[0]?).map (·.type) = some 112 := by kernel_rfl

theorem prims : PrimOK Tryd.prog T.cfg := by
  intro f p hp vs r hr w S xs h
  have hp : T.primT.find f = some p := hp
  by_cases h67 : f = 67
  · subst h67
    have e : T.primT.find 67 = some add64P := by kernel_rfl
    rw [e] at hp
    cases hp
    exact prim_add64 (P := Tryd.prog) (f := 67) (fn := Tryd.f67) (by kernel_rfl) (by kernel_rfl) (by kernel_rfl) (by kernel_rfl) (by kernel_rfl) hr h
  · by_cases h68 : f = 68
    · subst h68
      have e : T.primT.find 68 = some sub64P := by kernel_rfl
      rw [e] at hp
      cases hp
      exact prim_sub64 (P := Tryd.prog) (f := 68) (fn := Tryd.f68) (by kernel_rfl) (by kernel_rfl) (by kernel_rfl) (by kernel_rfl) (by kernel_rfl) hr h
    · exfalso
      have := Tr.find_mem hp
      have hl : T.primT.list.map (·.1) = [67, 68] := by kernel_rfl
      have hm : f ∈ T.primT.list.map (·.1) := List.mem_map_of_mem (f := (·.1)) this
      rw [hl] at hm
      simp only [List.mem_cons, List.not_mem_nil, or_false] at hm
      rcases hm with h | h
      · exact h67 h
      · exact h68 h

def tabZ : List Int := [0, 1, 56, 2, 57, 49, 28, 3, 61, 58, 42, 50, 38, 29, 17, 4, 62, 47, 59, 36, 45, 43, 51, 22, 53, 39, 33, 30, 24, 18, 12, 5, 63, 55, 48, 27, 60, 41, 37, 16, 46, 35, 44, 21, 52, 32, 23, 11, 54, 26, 40, 15, 34, 20, 31, 10, 25, 14, 19, 9, 13, 8, 7, 6]
def moreF : List (List UInt8 × FuncId) := (List.range 5).map fun i => ([114, 101, 99, 107, 111, 110, 101, 114, 47, 102, 105, 110, 46, 109, 111, 114, 101, 36, (49 + i).toUInt8], 109 + i)

theorem glob_rep {W : World} (h : laidMetH Tryd.prog Rows.quotientLargeRow.laid W) : ∀ g cs, T.cfg.glob g = some cs → RepG W (All W) (.rptr cs) (.pointer (some ⟨g, 0, none⟩)) := by
  intro g cs hg
  have hg : T.glob.find g = some cs := hg
  by_cases h3 : g = 3
  · subst h3
    have e : T.glob.find 3 = some (tabZ.map (PV.int .u8)) := by kernel_rfl
    rw [e] at hg
    cases hg
    have hd : laidMet Tryd.prog [("math/bits.deBruijn64tab", Lib.tabData .u8 tabZ)] W := h.1
    exact tab_rep gTab (Lib.tabIs_of_head (rest := []) (t := 120) (e := 5) (n := 64) gTab gTabType (by kernel_rfl) (by kernel_rfl) (by kernel_rfl) (by kernel_rfl) hd) (by simp [tabZ])
  · by_cases h0 : g = 0
    · subst h0
      have e : T.glob.find 0 = some (moreF.map fun x => .fn x.2) := by kernel_rfl
      rw [e] at hg
      cases hg
      have hf : funcsAt Tryd.prog W "reckoner/fin.more" (.agg (moreF.map fun x => .iface "func" (.lit (.string x.1)))) := h.funcs (List.mem_cons_of_mem _ (List.mem_singleton.2 rfl))
      refine funcs_rep (t := 112) (e := 111) (n := 5) (ps := #[4, 4, 95]) (rs := #[4]) (va := false) moreF gMore gMoreType (by kernel_rfl) (by kernel_rfl) (by kernel_rfl) (by kernel_rfl) (by simp [moreF]) (by kernel_rfl) ?_ hf
      intro x hx
      have hall : (moreF.all fun x => decide (((List.range Tryd.prog.funcs.size).filter fun f => (Tryd.prog.funcs[f]?).any (·.name.toUTF8.data.toList == x.1)) = [x.2])) = true := by kernel_rfl
      exact of_decide_eq_true (List.all_eq_true.1 hall x hx)
    · exfalso
      have := Tr.find_mem hg
      have hl : T.glob.list.map (·.1) = [0, 3] := by kernel_rfl
      have hm : g ∈ T.glob.list.map (·.1) := List.mem_map_of_mem (f := (·.1)) this
      rw [hl] at hm
      simp only [List.mem_cons, List.not_mem_nil, or_false] at hm
      rcases hm with h | h
      · exact h0 h
      · exact h3 h

/-- the law's meaning, at arguments as they are read -/
theorem meaning (vs : List PV) (h : ArgFits [.agg [.int .i64, .int .i64], .leaf (.int .i64), .agg [.int .i64, .bool, .int .i64, .ints .u64], .agg [.int .i64, .bool, .int .i64, .ints .u64]] vs) : Go.Deep.Sem T.cfg 3 vs (.bool true, []) := by
  obtain ⟨_, _, rfl, ⟨_, rfl, hf⟩, h1⟩ := h.cons
  obtain ⟨_, _, rfl, ⟨r, rfl, _⟩, h2⟩ := h1.cons
  obtain ⟨_, _, rfl, ⟨_, rfl, hx⟩, h3⟩ := h2.cons
  obtain ⟨_, _, rfl, ⟨_, rfl, hy⟩, h4⟩ := h3.cons
  obtain rfl := h4.nil
  obtain ⟨_, _, rfl, ⟨f0, rfl, _⟩, hf1⟩ := hf.cons
  obtain ⟨_, _, rfl, ⟨f1, rfl, _⟩, hf2⟩ := hf1.cons
  obtain rfl := hf2.nil
  obtain ⟨_, _, rfl, ⟨x0, rfl, _⟩, hx1⟩ := hx.cons
  obtain ⟨_, _, rfl, ⟨x1, rfl⟩, hx2⟩ := hx1.cons
  obtain ⟨_, _, rfl, ⟨x2, rfl, _⟩, hx3⟩ := hx2.cons
  obtain ⟨_, _, rfl, ⟨x3, rfl, _⟩, hx4⟩ := hx3.cons
  obtain rfl := hx4.nil
  obtain ⟨_, _, rfl, ⟨y0, rfl, _⟩, hy1⟩ := hy.cons
  obtain ⟨_, _, rfl, ⟨y1, rfl⟩, hy2⟩ := hy1.cons
  obtain ⟨_, _, rfl, ⟨y2, rfl, _⟩, hy3⟩ := hy2.cons
  obtain ⟨_, _, rfl, ⟨y3, rfl, _⟩, hy4⟩ := hy3.cons
  obtain rfl := hy4.nil
  exact T.law f0 f1 r x0 x1 x2 x3 y0 y1 y2 y3

theorem spec_fn {H : Type} : ∀ ds : List (DataW H), ds.length = 4 → Rows.quotientLargeSpec.fn H ds = { results := [.lit (.bool true)], args := ds }
  | [_, _, _, _], _ => rfl

set_option maxRecDepth 100000 in
theorem contract (H : Type) (enc : TypeId × Value → H) (W : World) (base : Nat) (args : Array Value) (ds gs : List (DataW H)) (before : List MemPlace)
    (hval : ∀ (j : Nat) t v, Tryd.f3.params[j]? = some t → args[j]? = some v → Value.okWide Tryd.prog W .any base t v)
    (hW : DataW.Whole enc Tryd.prog Tryd.f3.params.toList Rows.quotientLargeSpec.vars false W args.toList ds gs before) (hL : laidMetH Tryd.prog Rows.quotientLargeRow.laid W) :
    Calls Tryd.prog 3 args W fun e W' => ∃ v, e = .returned v ∧ Rows.quotientLargeSpec.post enc Tryd.prog Tryd.f3 false true false false W args v W' := by
  have hg := glob_rep hL
  refine (law_calls' (C := T.cfg) (fn := Tryd.f3) (n := 8) T.agrees prims T.orders (ak := [.agg [.int .i64, .int .i64], .leaf (.int .i64), .agg [.int .i64, .bool, .int .i64, .ints .u64], .agg [.int .i64, .bool, .int .i64, .ints .u64]])
    (by kernel_rfl) (by kernel_rfl) (by kernel_rfl) (by kernel_rfl) meaning hg rfl hval hW).mono fun e W' ⟨he, hb⟩ => ?_
  exact ⟨_, he, law_post (fn := Tryd.f3) (s := Rows.quotientLargeSpec) (tb := 4) rfl (fun ds hd => spec_fn ds hd) (by kernel_rfl) (by kernel_rfl) (by kernel_rfl) (by kernel_rfl) hW hb⟩

/-- the door's own heap meets the condition -/
theorem door_met (os : Os) (args : Array Value) : laidMetH Tryd.prog Rows.quotientLargeRow.laid ((World.doorLaid Tryd.prog 200 os).forCall (fun _ _ => 0) ⟨#[], args, []⟩).memory :=
  laidMetH_of_parts3 (fuel := 8) (laidMet_of_run' 8 (by kernel_rfl) (by kernel_rfl)) (by kernel_rfl) (by kernel_rfl)

noncomputable def args0 : Array Value := #[.agg #[.int .i64 0, .int .i64 0], .int .i64 0, .agg #[.int .i64 0, .bool false, .int .i64 0, .slice none 0 0], .agg #[.int .i64 0, .bool false, .int .i64 0, .slice none 0 0]]

theorem reads (os : Os) {H : Type} (enc : TypeId × Value → H) : ∃ ds places, DataW.whole enc Tryd.prog ((World.doorLaid Tryd.prog 200 os).forCall (fun _ _ => 0) ⟨#[], args0, []⟩).memory Tryd.f3.params.toList Rows.quotientLargeSpec.vars false args0.toList 8 = some (ds, [], places) ∧
    ds = [.agg [.lit (.int .i64 0), .lit (.int .i64 0)], .lit (.int .i64 0), .agg [.lit (.int .i64 0), .lit (.bool false), .lit (.int .i64 0), .nil], .agg [.lit (.int .i64 0), .lit (.bool false), .lit (.int .i64 0), .nil]] :=
  ⟨_, [], by kernel_rfl, rfl⟩

theorem func3' : Tryd.prog.funcs[3]? = some Tryd.f3 := by kernel_rfl

set_option maxRecDepth 100000 in
theorem lifted (os : Os) (started : os.Started) (H : Type) (enc : TypeId × Value → H) (F : Stop.Interp) :
    ReturnsInHanded {} Tryd.checked os 3 .any ((OpenSpec.ofChange Rows.quotientLargeSpec).preRow enc Tryd.prog Tryd.f3 Rows.quotientLargeRow.domain false Rows.quotientLargeRow.laid) (((OpenSpec.ofChange Rows.quotientLargeSpec).at F).post enc Tryd.prog Tryd.f3 false true false false) := by
  obtain ⟨ds, places, hx, hds⟩ := reads os enc
  subst hds
  refine returnsInHanded_of_row (C := Tryd.checked) (s := OpenSpec.ofChange Rows.quotientLargeSpec) own started (by kernel_rfl) func3'
    (witness_row_at (enc := enc) (C := Tryd.checked) false (World.doorLaid Tryd.prog 200 os) args0 rfl (by kernel_rfl) (by kernel_rfl) (by kernel_rfl)
      (OpenSpec.preRow_of_cond 8 hx (by kernel_rfl) (fun k hk => by cases hk) (by kernel_rfl) (door_met os _))) ?_
  intro W base args ds gs before hval hW _ _ _ hL _ _
  exact contract H enc W base args ds gs before hval hW hL

theorem said : Rows.QuotientLargeSaid :=
  OpenClaim.holds_of_cond 3 Tryd.f3 rfl rfl rfl rfl rfl rfl rfl ⟨rfl, rfl, rfl, rfl, rfl⟩ rfl rfl rfl rfl rfl (by kernel_rfl) func3' (by kernel_rfl)
    (of_decide_eq_true (by kernel_rfl)) (by unfold Func.isWrapper; first | (rw [if_pos (by decide +kernel)]; kernel_rfl) | (rw [if_neg (by decide +kernel)]; exact ⟨rfl, rfl⟩))
    (fun os started H enc _ F => by rw [OpenClaim.pre_eq_preRow]; exact lifted os started H enc F)

theorem plain (f : FuncId) (fn : Func) (hf : Tryd.pinned.checked.prog.funcNamed "reckoner/reckonerlaw19.QuotientLarge" = some f) (hfn : Tryd.pinned.checked.prog.funcs[f]? = some fn) :
    false = Tryd.pinned.checked.prog.looks [] ∧ ∀ (j : Nat) t, fn.params[j]? = some t → Tryd.pinned.checked.prog.wantsStandIn t = false := by
  obtain rfl : f = 3 := Option.some.inj ((show Tryd.prog.funcNamed "reckoner/reckonerlaw19.QuotientLarge" = some 3 by kernel_rfl).symm.trans hf) |>.symm
  obtain rfl : fn = Tryd.f3 := (Option.some.inj (func3'.symm.trans hfn)).symm
  refine ⟨by kernel_rfl, fun j t ht => ?_⟩
  have hall : (Tryd.f3.params.all fun t => Tryd.prog.wantsStandIn t == false) = true := by kernel_rfl
  obtain ⟨hj, e⟩ := Array.getElem?_eq_some_iff.1 ht
  have := (Array.all_eq_true.1 hall) j hj
  rw [e] at this
  exact eq_of_beq this

/-- THE CARD -/
theorem card : Rows.QuotientLargeCardSaid :=
  Claim7.holds_tied_plain_at .later [] _ _ _ _ said (fun _ h => by cases h) (by kernel_rfl) (fun _ h => by cases h) quotientLarge_row_tie rfl ⟨rfl, rfl⟩ (by kernel_rfl) rfl plain (by kernel_rfl)
#print axioms card
end Go.Proofs.YtpimdkepcckaaabDoor
