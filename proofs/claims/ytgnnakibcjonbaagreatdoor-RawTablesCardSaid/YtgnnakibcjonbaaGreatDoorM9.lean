/- Texts put together (merge.py). -/
import Derived.Test.YtgnnakibcjonbaaGreatDoorM8
import Derived.Test.YtgnnakibcjonbaaGreatDoorM6
/- Chapter 16: choicesErr. -/
namespace Go.Proofs.YtgnnakibcjonbaaGreatDoor.VE
open Go Go.RowKit
set_option maxRecDepth 100000
set_option linter.unusedSimpArgs false
set_option linter.unusedVariables false

noncomputable def E124_176 : Ent Tryz.prog := Ent.of 124 (fnOk Tryz.func124 rfl (by kernel_rfl)) (fun
    | [.d (.sl 3 xs), .fnc 176 [.dptr [.int .i64 c_number, .int .i64 c_of, .str c_name]]] => (dec encCh xs).bind fun xs => some (True, .d (.bool (xs.any fun x => x.number == c_number || sEq x.name c_name)))
    | _ => none) fun args p r h => by
    split at h
    · obtain ⟨_, hd0, h0⟩ := Option.bind_eq_some_iff.1 h; clear h; have hd0 := dec_some hd0; subst hd0
      cases h0; exact conF124 _ 176 _ ⟨rfl, rfl, rfl, fnOk Tryz.func176 rfl (by kernel_rfl)⟩ _ (fun x => t176 x (Ch.mk _ _ _)) _
    · cases h
@[go_sem ↓] theorem E124_176_f : E124_176.f = 124 := rfl
@[go_sem ↓] theorem E124_176_c (xs : List (List D)) (c_number : Int) (c_of : Int) (c_name : ByteArray) : E124_176.c [.d (.sl 3 xs), .fnc 176 [.dptr [.int .i64 c_number, .int .i64 c_of, .str c_name]]] = (dec encCh xs).bind fun xs => some (True, .d (.bool (xs.any fun x => x.number == c_number || sEq x.name c_name))) := rfl
def chLoop (before : List Ch) : List Ch → Int
  | [] => 0
  | c :: r => if within c.number 0 1152921504606846976 then (if isNm c.name then (if before.any fun x => x.number == c.number || sEq x.name c.name then 13 else chLoop (before ++ [c]) r) else 7) else 3
def choicesErr (l : List Ch) : Int := if l.length = 0 then 1 else if 16 < l.length then 2 else chLoop [] l
theorem t120 (l : List Ch) : PureOk Tryz.prog 120 [.d (.sl 3 (l.map encCh))] (True) (.d (.int .i64 (choicesErr l))) := by
  refine pure_fn (C := fun gm => ⟨T, gam [E115, E63, E124_176], dam [], plT [], ⟨gm, fun _ _ => none⟩⟩) (fun _ => tok) (fun gm => cok T _ _ _ gm) mixed Tryz.func120 rfl (Nat.le_of_ble_eq_true rfl) rfl (fun _ => rfl) (fun _ => by kernel_rfl) fun gm hp => ?_
  unfold Tryz.f120
  simp only [go_sem, ↓reduceIte, Nat.reduceEqDiff, reduceCtorEq, Nat.reduceAdd, Nat.reduceLeDiff, Nat.reduceSub]
  refine ⟨fun h => ?_, fun h0 => ⟨fun h1 => ?_, fun h1 => ?_⟩⟩
  · have e : l.length = 0 := by simpa using h
    simp only [choicesErr, e, if_true]
  · have e : ¬ l.length = 0 := by simpa using h0
    have e1 : 16 < l.length := by have := of_decide_eq_true h1; omega
    simp only [choicesErr, if_neg e, if_pos e1]
  · have e : ¬ l.length = 0 := by simpa using h0
    have e1 : ¬ 16 < l.length := by have := of_decide_eq_false h1; omega
    have e2 : choicesErr l = chLoop [] l := by unfold choicesErr; rw [if_neg e, if_neg e1]
    have hf : (fun x : Nat => (none : Option O)) = osL [] := rfl
    refine loop_objs [4] (by simp) (fun _ : Nat => osL []) (fun i => [(0, .d (.sl 3 (l.map encCh))), (13, .d (.sl 3 (l.map encCh))), (14, .d (.int .i64 l.length)), (15, .d (.int .i64 i))]) (fun i => i ≤ l.length ∧ choicesErr l = chLoop (l.take i) (l.drop i)) (fun i => l.length - i) 0 ⟨Nat.zero_le _, by simpa using e2⟩ ?_ fun i hi => ?_
    · simp only [go_sem, ↓reduceIte, Nat.reduceEqDiff, reduceCtorEq, Nat.reduceAdd, Nat.reduceLeDiff, Nat.reduceSub]
      exact ⟨rfl, by funext o; simp [osL]⟩
    · simp only [go_sem, ↓reduceIte, Nat.reduceEqDiff, reduceCtorEq, Nat.reduceAdd, Nat.reduceLeDiff, Nat.reduceSub, asD, asD1, cellDs, cellD, V.scal, D.scal, ← List.map_take, List.drop_zero, List.map_cons, List.map_nil]
      refine ⟨fun hlt => ?_, fun hge => ?_⟩
      · have hlt' : i < l.length := by have := of_decide_eq_true hlt; omega
        refine ⟨⟨by omega, by omega⟩, fun a ha => ?_⟩
        rw [Int.toNat_natCast] at ha
        rw [Int.toNat_natCast]
        have hd : l.drop i = a :: l.drop (i + 1) := by
          rw [List.drop_eq_getElem_cons hlt']
          rw [List.getElem?_eq_getElem hlt'] at ha
          rw [Option.some.inj ha]
        have e3 := hi.2
        rw [hd] at e3
        simp only [chLoop] at e3
        refine ⟨fun h => ?_, fun h => ⟨fun h2 => ?_, fun h2 => ⟨⟨by omega, by omega, by omega⟩, fun h3 => ?_, fun h3 => ?_⟩⟩⟩
        · rw [e3, if_neg (by simpa using h)]
        · rw [e3, if_pos (by simpa using h), if_neg (by simpa using h2)]
        · rw [e3, if_pos (by simpa using h), if_pos (by simpa using h2), if_pos h3]
        · refine ⟨i + 1, ⟨hlt', ?_⟩, by omega, ?_, ?_⟩
          · rw [e3, if_pos (by simpa using h), if_pos (by simpa using h2), if_neg (by rw [h3]; simp), List.take_add_one, ha]
            rfl
          · rw [wrap_small _ (by omega) (by omega)]
            simp
          · funext o
            by_cases c : o = 4 <;> simp [osL, c]
      · have hge' : ¬ i < l.length := by have := of_decide_eq_false hge; omega
        rw [hi.2, List.drop_eq_nil_of_le (by omega)]
        rfl
noncomputable def E120 : Ent Tryz.prog := Ent.of 120 (fnOk Tryz.func120 rfl (by kernel_rfl)) (fun
    | [.d (.sl 3 l)] => (dec encCh l).bind fun l => some (True, .d (.int .i64 (choicesErr l)))
    | _ => none) fun args p r h => by
    split at h
    · obtain ⟨_, hd0, h0⟩ := Option.bind_eq_some_iff.1 h; clear h; have hd0 := dec_some hd0; subst hd0
      cases h0; exact t120 _
    · cases h
@[go_sem] theorem E120_f : E120.f = 120 := rfl
@[go_sem] theorem E120_c (l : List (List D)) : E120.c [.d (.sl 3 l)] = (dec encCh l).bind fun l => some (True, .d (.int .i64 (choicesErr l))) := rfl
end Go.Proofs.YtgnnakibcjonbaaGreatDoor.VE

/- Chapter 16: searches at the closures. -/
namespace Go.Proofs.YtgnnakibcjonbaaGreatDoor.VE
open Go Go.RowKit
set_option maxRecDepth 100000
set_option linter.unusedSimpArgs false
set_option linter.unusedVariables false

noncomputable def E64_65 : Ent Tryz.prog := Ent.of 64 (fnOk Tryz.func64 rfl (by kernel_rfl)) (fun
    | [.d (.sl 3 xs), .fnc 65 [.dptr [.str c_name, .sl 9 c_fields, .bool c_lowBits]]] => (dec encLy xs).bind fun xs => (dec encFd c_fields).bind fun c_fields => some (True, .d (.bool (xs.any fun x => sEq x.name c_name)))
    | _ => none) fun args p r h => by
    split at h
    · obtain ⟨_, hd0, h0⟩ := Option.bind_eq_some_iff.1 h; clear h; have hd0 := dec_some hd0; subst hd0
      obtain ⟨_, hd1, h1⟩ := Option.bind_eq_some_iff.1 h0; clear h0; have hd1 := dec_some hd1; subst hd1
      cases h1; exact conF64 _ 65 _ ⟨rfl, rfl, rfl, fnOk Tryz.func65 rfl (by kernel_rfl)⟩ _ (fun x => t65 x (Ly.mk _ _ _)) _
    · cases h
@[go_sem ↓] theorem E64_65_f : E64_65.f = 64 := rfl
@[go_sem ↓] theorem E64_65_c (xs : List (List D)) (c_name : ByteArray) (c_fields : List (List D)) (c_lowBits : Bool) : E64_65.c [.d (.sl 3 xs), .fnc 65 [.dptr [.str c_name, .sl 9 c_fields, .bool c_lowBits]]] = (dec encLy xs).bind fun xs => (dec encFd c_fields).bind fun c_fields => some (True, .d (.bool (xs.any fun x => sEq x.name c_name))) := rfl
noncomputable def E113_114 : Ent Tryz.prog := Ent.of 113 (fnOk Tryz.func113 rfl (by kernel_rfl)) (fun
    | [.d (.sl 9 xs), .fnc 114 [.dptr [.str c_name, .int .i64 c_kind, .int .i64 c_width, .bool c_signed, .bool c_lowFirst, .int .i64 c_purpose, .str c_for_, .int .i64 c_of, .sl 3 c_choices]]] => (dec encFd xs).bind fun xs => (dec encCh c_choices).bind fun c_choices => some (True, .d (.bool (xs.any fun x => sEq x.name c_name)))
    | _ => none) fun args p r h => by
    split at h
    · obtain ⟨_, hd0, h0⟩ := Option.bind_eq_some_iff.1 h; clear h; have hd0 := dec_some hd0; subst hd0
      obtain ⟨_, hd1, h1⟩ := Option.bind_eq_some_iff.1 h0; clear h0; have hd1 := dec_some hd1; subst hd1
      cases h1; exact conF113 _ 114 _ ⟨rfl, rfl, rfl, fnOk Tryz.func114 rfl (by kernel_rfl)⟩ _ (fun x => t114 x (Fd.mk _ _ _ _ _ _ _ _ _)) _
    · cases h
@[go_sem ↓] theorem E113_114_f : E113_114.f = 113 := rfl
@[go_sem ↓] theorem E113_114_c (xs : List (List D)) (c_name : ByteArray) (c_kind : Int) (c_width : Int) (c_signed : Bool) (c_lowFirst : Bool) (c_purpose : Int) (c_for_ : ByteArray) (c_of : Int) (c_choices : List (List D)) : E113_114.c [.d (.sl 9 xs), .fnc 114 [.dptr [.str c_name, .int .i64 c_kind, .int .i64 c_width, .bool c_signed, .bool c_lowFirst, .int .i64 c_purpose, .str c_for_, .int .i64 c_of, .sl 3 c_choices]]] = (dec encFd xs).bind fun xs => (dec encCh c_choices).bind fun c_choices => some (True, .d (.bool (xs.any fun x => sEq x.name c_name))) := rfl
noncomputable def E113_123 : Ent Tryz.prog := Ent.of 113 (fnOk Tryz.func113 rfl (by kernel_rfl)) (fun
    | [.d (.sl 9 xs), .fnc 123 [.dptr [.str c_name, .int .i64 c_kind, .int .i64 c_width, .bool c_signed, .bool c_lowFirst, .int .i64 c_purpose, .str c_for_, .int .i64 c_of, .sl 3 c_choices]]] => (dec encFd xs).bind fun xs => (dec encCh c_choices).bind fun c_choices => some (True, .d (.bool (xs.any fun x => named x && sEq x.for_ c_name)))
    | _ => none) fun args p r h => by
    split at h
    · obtain ⟨_, hd0, h0⟩ := Option.bind_eq_some_iff.1 h; clear h; have hd0 := dec_some hd0; subst hd0
      obtain ⟨_, hd1, h1⟩ := Option.bind_eq_some_iff.1 h0; clear h0; have hd1 := dec_some hd1; subst hd1
      cases h1; exact conF113 _ 123 _ ⟨rfl, rfl, rfl, fnOk Tryz.func123 rfl (by kernel_rfl)⟩ _ (fun x => t123 x (Fd.mk _ _ _ _ _ _ _ _ _)) _
    · cases h
@[go_sem ↓] theorem E113_123_f : E113_123.f = 113 := rfl
@[go_sem ↓] theorem E113_123_c (xs : List (List D)) (c_name : ByteArray) (c_kind : Int) (c_width : Int) (c_signed : Bool) (c_lowFirst : Bool) (c_purpose : Int) (c_for_ : ByteArray) (c_of : Int) (c_choices : List (List D)) : E113_123.c [.d (.sl 9 xs), .fnc 123 [.dptr [.str c_name, .int .i64 c_kind, .int .i64 c_width, .bool c_signed, .bool c_lowFirst, .int .i64 c_purpose, .str c_for_, .int .i64 c_of, .sl 3 c_choices]]] = (dec encFd xs).bind fun xs => (dec encCh c_choices).bind fun c_choices => some (True, .d (.bool (xs.any fun x => named x && sEq x.for_ c_name))) := rfl
noncomputable def E113_179 : Ent Tryz.prog := Ent.of 113 (fnOk Tryz.func113 rfl (by kernel_rfl)) (fun
    | [.d (.sl 9 xs), .fnc 179 [.dptr [.str c_name, .int .i64 c_kind, .int .i64 c_width, .bool c_signed, .bool c_lowFirst, .int .i64 c_purpose, .str c_for_, .int .i64 c_of, .sl 3 c_choices]]] => (dec encFd xs).bind fun xs => (dec encCh c_choices).bind fun c_choices => some (True, .d (.bool (xs.any fun x => named x && sEq x.for_ c_for_)))
    | _ => none) fun args p r h => by
    split at h
    · obtain ⟨_, hd0, h0⟩ := Option.bind_eq_some_iff.1 h; clear h; have hd0 := dec_some hd0; subst hd0
      obtain ⟨_, hd1, h1⟩ := Option.bind_eq_some_iff.1 h0; clear h0; have hd1 := dec_some hd1; subst hd1
      cases h1; exact conF113 _ 179 _ ⟨rfl, rfl, rfl, fnOk Tryz.func179 rfl (by kernel_rfl)⟩ _ (fun x => t179 x (Fd.mk _ _ _ _ _ _ _ _ _)) _
    · cases h
@[go_sem ↓] theorem E113_179_f : E113_179.f = 113 := rfl
@[go_sem ↓] theorem E113_179_c (xs : List (List D)) (c_name : ByteArray) (c_kind : Int) (c_width : Int) (c_signed : Bool) (c_lowFirst : Bool) (c_purpose : Int) (c_for_ : ByteArray) (c_of : Int) (c_choices : List (List D)) : E113_179.c [.d (.sl 9 xs), .fnc 179 [.dptr [.str c_name, .int .i64 c_kind, .int .i64 c_width, .bool c_signed, .bool c_lowFirst, .int .i64 c_purpose, .str c_for_, .int .i64 c_of, .sl 3 c_choices]]] = (dec encFd xs).bind fun xs => (dec encCh c_choices).bind fun c_choices => some (True, .d (.bool (xs.any fun x => named x && sEq x.for_ c_for_))) := rfl
noncomputable def E129_177 : Ent Tryz.prog := Ent.of 129 (fnOk Tryz.func129 rfl (by kernel_rfl)) (fun
    | [.d (.sl 9 xs), .fnc 177 [.dptr [.str c_name, .int .i64 c_kind, .int .i64 c_width, .bool c_signed, .bool c_lowFirst, .int .i64 c_purpose, .str c_for_, .int .i64 c_of, .sl 3 c_choices]]] => (dec encFd xs).bind fun xs => (dec encCh c_choices).bind fun c_choices => some (True, .d (.int .i64 (idxOf (fun x => sEq x.name c_for_) xs 0)))
    | _ => none) fun args p r h => by
    split at h
    · obtain ⟨_, hd0, h0⟩ := Option.bind_eq_some_iff.1 h; clear h; have hd0 := dec_some hd0; subst hd0
      obtain ⟨_, hd1, h1⟩ := Option.bind_eq_some_iff.1 h0; clear h0; have hd1 := dec_some hd1; subst hd1
      cases h1; exact idxF129 _ 177 _ ⟨rfl, rfl, rfl, fnOk Tryz.func177 rfl (by kernel_rfl)⟩ _ (fun x => t177 x (Fd.mk _ _ _ _ _ _ _ _ _)) _
    · cases h
@[go_sem ↓] theorem E129_177_f : E129_177.f = 129 := rfl
@[go_sem ↓] theorem E129_177_c (xs : List (List D)) (c_name : ByteArray) (c_kind : Int) (c_width : Int) (c_signed : Bool) (c_lowFirst : Bool) (c_purpose : Int) (c_for_ : ByteArray) (c_of : Int) (c_choices : List (List D)) : E129_177.c [.d (.sl 9 xs), .fnc 177 [.dptr [.str c_name, .int .i64 c_kind, .int .i64 c_width, .bool c_signed, .bool c_lowFirst, .int .i64 c_purpose, .str c_for_, .int .i64 c_of, .sl 3 c_choices]]] = (dec encFd xs).bind fun xs => (dec encCh c_choices).bind fun c_choices => some (True, .d (.int .i64 (idxOf (fun x => sEq x.name c_for_) xs 0))) := rfl
noncomputable def E117_118 : Ent Tryz.prog := Ent.of 117 (fnOk Tryz.func117 rfl (by kernel_rfl)) (fun
    | [.d (.sl 1 xs), .fnc 118 [.dptr [.int .i64 c]]] => (dec encI xs).bind fun xs => some (True, .d (.bool (xs.any fun x => !within x 0 (IntKind.i64.wrap (c - 1)))))
    | _ => none) fun args p r h => by
    split at h
    · obtain ⟨_, hd0, h0⟩ := Option.bind_eq_some_iff.1 h; clear h; have hd0 := dec_some hd0; subst hd0
      cases h0; exact conF117 _ 118 _ ⟨rfl, rfl, rfl, fnOk Tryz.func118 rfl (by kernel_rfl)⟩ _ (fun x => t118 x _) _
    · cases h
@[go_sem ↓] theorem E117_118_f : E117_118.f = 117 := rfl
@[go_sem ↓] theorem E117_118_c (xs : List (List D)) (c : Int) : E117_118.c [.d (.sl 1 xs), .fnc 118 [.dptr [.int .i64 c]]] = (dec encI xs).bind fun xs => some (True, .d (.bool (xs.any fun x => !within x 0 (IntKind.i64.wrap (c - 1))))) := rfl
noncomputable def E117_119 : Ent Tryz.prog := Ent.of 117 (fnOk Tryz.func117 rfl (by kernel_rfl)) (fun
    | [.d (.sl 1 xs), .fnc 119 [.dptr [.sl 3 l], .dptr [.str c_name, .sl 9 c_fields, .bool c_lowBits]]] => (dec encI xs).bind fun xs => (dec encLy l).bind fun l => (dec encFd c_fields).bind fun c_fields => some (∀ x ∈ xs, 0 ≤ x ∧ x < l.length, .d (.bool (xs.any fun x => lowAt l x != c_lowBits)))
    | _ => none) fun args p r h => by
    split at h
    · obtain ⟨_, hd0, h0⟩ := Option.bind_eq_some_iff.1 h; clear h; have hd0 := dec_some hd0; subst hd0
      obtain ⟨_, hd1, h1⟩ := Option.bind_eq_some_iff.1 h0; clear h0; have hd1 := dec_some hd1; subst hd1
      obtain ⟨_, hd2, h2⟩ := Option.bind_eq_some_iff.1 h1; clear h1; have hd2 := dec_some hd2; subst hd2
      cases h2; exact conFp117 _ 119 _ ⟨rfl, rfl, rfl, fnOk Tryz.func119 rfl (by kernel_rfl)⟩ _ _ (fun x => t119 x _ (Ly.mk _ _ _)) _
    · cases h
@[go_sem ↓] theorem E117_119_f : E117_119.f = 117 := rfl
@[go_sem ↓] theorem E117_119_c (xs : List (List D)) (l : List (List D)) (c_name : ByteArray) (c_fields : List (List D)) (c_lowBits : Bool) : E117_119.c [.d (.sl 1 xs), .fnc 119 [.dptr [.sl 3 l], .dptr [.str c_name, .sl 9 c_fields, .bool c_lowBits]]] = (dec encI xs).bind fun xs => (dec encLy l).bind fun l => (dec encFd c_fields).bind fun c_fields => some (∀ x ∈ xs, 0 ≤ x ∧ x < l.length, .d (.bool (xs.any fun x => lowAt l x != c_lowBits))) := rfl
noncomputable def E124_125 : Ent Tryz.prog := Ent.of 124 (fnOk Tryz.func124 rfl (by kernel_rfl)) (fun
    | [.d (.sl 3 xs), .fnc 125 [.dptr [.sl 1 w], .dptr [.int .i64 first]]] => (dec encCh xs).bind fun xs => (dec encI w).bind fun w => some (∀ x ∈ xs, 0 ≤ x.of ∧ x.of < w.length, .d (.bool (xs.any fun x => intAt w x.of != first)))
    | _ => none) fun args p r h => by
    split at h
    · obtain ⟨_, hd0, h0⟩ := Option.bind_eq_some_iff.1 h; clear h; have hd0 := dec_some hd0; subst hd0
      obtain ⟨_, hd1, h1⟩ := Option.bind_eq_some_iff.1 h0; clear h0; have hd1 := dec_some hd1; subst hd1
      cases h1; exact conFp124 _ 125 _ ⟨rfl, rfl, rfl, fnOk Tryz.func125 rfl (by kernel_rfl)⟩ _ _ (fun x => t125 x _ _) _
    · cases h
@[go_sem ↓] theorem E124_125_f : E124_125.f = 124 := rfl
@[go_sem ↓] theorem E124_125_c (xs : List (List D)) (w : List (List D)) (first : Int) : E124_125.c [.d (.sl 3 xs), .fnc 125 [.dptr [.sl 1 w], .dptr [.int .i64 first]]] = (dec encCh xs).bind fun xs => (dec encI w).bind fun w => some (∀ x ∈ xs, 0 ≤ x.of ∧ x.of < w.length, .d (.bool (xs.any fun x => intAt w x.of != first))) := rfl
end Go.Proofs.YtgnnakibcjonbaaGreatDoor.VE

/- Chapter 16: purposeErr. -/
namespace Go.Proofs.YtgnnakibcjonbaaGreatDoor.VE
open Go Go.RowKit
set_option maxRecDepth 100000
set_option linter.unusedSimpArgs false
set_option linter.unusedVariables false
theorem idxOf_ge {α : Type} {p : α → Bool} : ∀ {xs : List α} {k : Int}, idxOf p xs k = -1 ∨ (k ≤ idxOf p xs k ∧ idxOf p xs k < k + xs.length)
  | [], _ => .inl rfl
  | y :: r, k => by
    unfold idxOf
    split
    · right; simp only [List.length_cons]; omega
    · rcases idxOf_ge (p := p) (xs := r) (k := k + 1) with h | ⟨h1, h2⟩
      · exact .inl h
      · right; simp only [List.length_cons]; omega

/-- What is wrong with the purpose of a field. -/
def purposeErr (x : Ly) (k : Int) : Int :=
  match x.fields[k.toNat]? with
  | none => 0
  | some f => if idxOf (fun y => sEq y.name f.for_) (x.fields.drop (k.toNat + 1)) 0 < 0 then 11 else
    match x.fields[(k + 1 + idxOf (fun y => sEq y.name f.for_) (x.fields.drop (k.toNat + 1)) 0).toNat]? with
    | none => 0
    | some to => if serves f.purpose to.kind then (if (f.purpose != 3 && to.width != 0) || (x.fields.take k.toNat).any (fun y => named y && sEq y.for_ f.for_) then 15 else 0) else 17
theorem t121 (x : Ly) (k : Int) : PureOk Tryz.prog 121 [.agg [.d (.str x.name), .d (.sl 9 (x.fields.map encFd)), .d (.bool x.lowBits)], .d (.int .i64 k)] (0 ≤ k ∧ k < x.fields.length ∧ x.fields.length ≤ 1000) (.d (.int .i64 (purposeErr x k))) := by
  refine pure_fn (C := fun gm => ⟨T, gam [E129_177, E178, E113_179], dam [], plT [], ⟨gm, fun _ _ => none⟩⟩) (fun _ => tok) (fun gm => cok T _ _ _ gm) mixed Tryz.func121 rfl (Nat.le_of_ble_eq_true rfl) rfl (fun _ => rfl) (fun _ => by kernel_rfl) fun gm hp => ?_
  unfold Tryz.f121
  simp only [go_sem, ↓reduceIte, Nat.reduceEqDiff, reduceCtorEq, Nat.reduceAdd, Nat.reduceLeDiff, Nat.reduceSub, asD, asD1, cellDs, cellD, V.scal, D.scal, ← List.map_take, ← List.map_drop, List.drop_zero, List.map_cons, List.map_nil]
  obtain ⟨h0, h1, h2⟩ := hp
  refine ⟨⟨h0, h1⟩, fun f hf => ?_⟩
  have w1 : IntKind.i64.wrap (k + 1) = k + 1 := wrap_small _ (by omega) (by omega)
  have w2 : (k + 1).toNat = k.toNat + 1 := by omega
  rw [w1, w2, List.take_length]
  have hr := idxOf_ge (p := fun x => sEq x.name f.for_) (xs := x.fields.drop (k.toNat + 1)) (k := 0)
  have e : purposeErr x k = if idxOf (fun y => sEq y.name f.for_) (x.fields.drop (k.toNat + 1)) 0 < 0 then 11 else
    match x.fields[(k + 1 + idxOf (fun y => sEq y.name f.for_) (x.fields.drop (k.toNat + 1)) 0).toNat]? with
    | none => 0
    | some to => if serves f.purpose to.kind then (if (f.purpose != 3 && to.width != 0) || (x.fields.take k.toNat).any (fun y => named y && sEq y.for_ f.for_) then 15 else 0) else 17 := by
    unfold purposeErr
    rw [hf]
  rw [e]
  clear e
  revert hr
  generalize idxOf (fun x => sEq x.name f.for_) (x.fields.drop (k.toNat + 1)) 0 = at_
  rw [List.length_drop]
  intro hr
  refine ⟨⟨by omega, by omega, by omega⟩, fun h3 => ?_, fun h3 => ?_⟩
  · rw [if_pos (of_decide_eq_true h3)]
  · have h4 : ¬ at_ < 0 := of_decide_eq_false h3
    have w3 : IntKind.i64.wrap (k + 1 + at_) = k + 1 + at_ := wrap_small _ (by omega) (by omega)
    rw [w3, if_neg h4]
    refine ⟨⟨by omega, by omega⟩, fun to hto => ?_⟩
    rw [hto]
    simp only
    generalize serves f.purpose to.kind = a
    generalize (x.fields.take k.toNat).any (fun y => named y && sEq y.for_ f.for_) = b
    have hk : (0 ≤ k ∧ 0 ≤ k.toNat ∧ k.toNat ≤ x.fields.length) = True := eq_true ⟨h0, by omega, by omega⟩
    simp only [hk, true_and]
    cases a <;> cases b <;> cases (f.purpose != 3) <;> cases (to.width != 0) <;> simp
noncomputable def E121 : Ent Tryz.prog := Ent.of 121 (fnOk Tryz.func121 rfl (by kernel_rfl)) (fun
    | [.agg [.d (.str x_name), .d (.sl 9 x_fields), .d (.bool x_lowBits)], .d (.int .i64 k)] => (dec encFd x_fields).bind fun x_fields => some (0 ≤ k ∧ k < (Ly.mk x_name x_fields x_lowBits).fields.length ∧ (Ly.mk x_name x_fields x_lowBits).fields.length ≤ 1000, .d (.int .i64 (purposeErr (Ly.mk x_name x_fields x_lowBits) k)))
    | _ => none) fun args p r h => by
    split at h
    · obtain ⟨_, hd0, h0⟩ := Option.bind_eq_some_iff.1 h; clear h; have hd0 := dec_some hd0; subst hd0
      cases h0; exact t121 (Ly.mk _ _ _) _
    · cases h
@[go_sem] theorem E121_f : E121.f = 121 := rfl
@[go_sem] theorem E121_c (x_name : ByteArray) (x_fields : List (List D)) (x_lowBits : Bool) (k : Int) : E121.c [.agg [.d (.str x_name), .d (.sl 9 x_fields), .d (.bool x_lowBits)], .d (.int .i64 k)] = (dec encFd x_fields).bind fun x_fields => some (0 ≤ k ∧ k < (Ly.mk x_name x_fields x_lowBits).fields.length ∧ (Ly.mk x_name x_fields x_lowBits).fields.length ≤ 1000, .d (.int .i64 (purposeErr (Ly.mk x_name x_fields x_lowBits) k))) := rfl
end Go.Proofs.YtgnnakibcjonbaaGreatDoor.VE

/- Chapter 16: contracts of small functions of the references. -/
namespace Go.Proofs.YtgnnakibcjonbaaGreatDoor.VE
open Go Go.RowKit
set_option maxRecDepth 100000
set_option linter.unusedSimpArgs false
set_option linter.unusedVariables false

def isSmall (c : Int) : Bool := decide (97 ≤ c) && decide (c ≤ 122)
theorem t157 (c : Int) : PureOk Tryz.prog 157 [.d (.int .u8 c)] (True) (.d (.bool (isSmall c))) := by
  refine pure_fn (C := fun gm => ⟨T, gam [], dam [], plT [], ⟨gm, fun _ _ => none⟩⟩) (fun _ => tok) (fun gm => cok T _ _ _ gm) mixed Tryz.func157 rfl (Nat.le_of_ble_eq_true rfl) rfl (fun _ => rfl) (fun _ => by kernel_rfl) fun gm hp => ?_
  unfold Tryz.f157
  simp only [go_sem, ↓reduceIte, Nat.reduceEqDiff, reduceCtorEq, Nat.reduceAdd, Nat.reduceLeDiff, Nat.reduceSub]
  simp only [isSmall]; cases decide (97 ≤ c) <;> cases decide (c ≤ 122) <;> simp
noncomputable def E157 : Ent Tryz.prog := Ent.of 157 (fnOk Tryz.func157 rfl (by kernel_rfl)) (fun
    | [.d (.int .u8 c)] => some (True, .d (.bool (isSmall c)))
    | _ => none) fun args p r h => by
    split at h
    · skip
      cases h; exact t157 _
    · cases h
@[go_sem] theorem E157_f : E157.f = 157 := rfl
@[go_sem] theorem E157_c (c : Int) : E157.c [.d (.int .u8 c)] = some (True, .d (.bool (isSmall c))) := rfl
def isCapital (c : Int) : Bool := decide (65 ≤ c) && decide (c ≤ 90)
theorem t158 (c : Int) : PureOk Tryz.prog 158 [.d (.int .u8 c)] (True) (.d (.bool (isCapital c))) := by
  refine pure_fn (C := fun gm => ⟨T, gam [], dam [], plT [], ⟨gm, fun _ _ => none⟩⟩) (fun _ => tok) (fun gm => cok T _ _ _ gm) mixed Tryz.func158 rfl (Nat.le_of_ble_eq_true rfl) rfl (fun _ => rfl) (fun _ => by kernel_rfl) fun gm hp => ?_
  unfold Tryz.f158
  simp only [go_sem, ↓reduceIte, Nat.reduceEqDiff, reduceCtorEq, Nat.reduceAdd, Nat.reduceLeDiff, Nat.reduceSub]
  simp only [isCapital]; cases decide (65 ≤ c) <;> cases decide (c ≤ 90) <;> simp
noncomputable def E158 : Ent Tryz.prog := Ent.of 158 (fnOk Tryz.func158 rfl (by kernel_rfl)) (fun
    | [.d (.int .u8 c)] => some (True, .d (.bool (isCapital c)))
    | _ => none) fun args p r h => by
    split at h
    · skip
      cases h; exact t158 _
    · cases h
@[go_sem] theorem E158_f : E158.f = 158 := rfl
@[go_sem] theorem E158_c (c : Int) : E158.c [.d (.int .u8 c)] = some (True, .d (.bool (isCapital c))) := rfl
def isDigit (c : Int) : Bool := decide (48 ≤ c) && decide (c ≤ 57)
theorem t159 (c : Int) : PureOk Tryz.prog 159 [.d (.int .u8 c)] (True) (.d (.bool (isDigit c))) := by
  refine pure_fn (C := fun gm => ⟨T, gam [], dam [], plT [], ⟨gm, fun _ _ => none⟩⟩) (fun _ => tok) (fun gm => cok T _ _ _ gm) mixed Tryz.func159 rfl (Nat.le_of_ble_eq_true rfl) rfl (fun _ => rfl) (fun _ => by kernel_rfl) fun gm hp => ?_
  unfold Tryz.f159
  simp only [go_sem, ↓reduceIte, Nat.reduceEqDiff, reduceCtorEq, Nat.reduceAdd, Nat.reduceLeDiff, Nat.reduceSub]
  simp only [isDigit]; cases decide (48 ≤ c) <;> cases decide (c ≤ 57) <;> simp
noncomputable def E159 : Ent Tryz.prog := Ent.of 159 (fnOk Tryz.func159 rfl (by kernel_rfl)) (fun
    | [.d (.int .u8 c)] => some (True, .d (.bool (isDigit c)))
    | _ => none) fun args p r h => by
    split at h
    · skip
      cases h; exact t159 _
    · cases h
@[go_sem] theorem E159_f : E159.f = 159 := rfl
@[go_sem] theorem E159_c (c : Int) : E159.c [.d (.int .u8 c)] = some (True, .d (.bool (isDigit c))) := rfl
theorem t88 (n : Int) (low : Int) (high : Int) : PureOk Tryz.prog 88 [.d (.int .i64 n), .d (.int .i64 low), .d (.int .i64 high)] (True) (.d (.bool (within n low high))) := by
  refine pure_fn (C := fun gm => ⟨T, gam [], dam [], plT [], ⟨gm, fun _ _ => none⟩⟩) (fun _ => tok) (fun gm => cok T _ _ _ gm) mixed Tryz.func88 rfl (Nat.le_of_ble_eq_true rfl) rfl (fun _ => rfl) (fun _ => by kernel_rfl) fun gm hp => ?_
  unfold Tryz.f88
  simp only [go_sem, ↓reduceIte, Nat.reduceEqDiff, reduceCtorEq, Nat.reduceAdd, Nat.reduceLeDiff, Nat.reduceSub]
  simp only [within]; cases decide (low ≤ n) <;> rfl
noncomputable def E88 : Ent Tryz.prog := Ent.of 88 (fnOk Tryz.func88 rfl (by kernel_rfl)) (fun
    | [.d (.int .i64 n), .d (.int .i64 low), .d (.int .i64 high)] => some (True, .d (.bool (within n low high)))
    | _ => none) fun args p r h => by
    split at h
    · skip
      cases h; exact t88 _ _ _
    · cases h
@[go_sem] theorem E88_f : E88.f = 88 := rfl
@[go_sem] theorem E88_c (n : Int) (low : Int) (high : Int) : E88.c [.d (.int .i64 n), .d (.int .i64 low), .d (.int .i64 high)] = some (True, .d (.bool (within n low high))) := rfl
theorem t94 (kind : Int) : PureOk Tryz.prog 94 [.d (.int .i64 kind)] (True) (.d (.bool (isText kind || kind == 6))) := by
  refine pure_fn (C := fun gm => ⟨T, gam [], dam [], plT [], ⟨gm, fun _ _ => none⟩⟩) (fun _ => tok) (fun gm => cok T _ _ _ gm) mixed Tryz.func94 rfl (Nat.le_of_ble_eq_true rfl) rfl (fun _ => rfl) (fun _ => by kernel_rfl) fun gm hp => ?_
  unfold Tryz.f94
  simp only [go_sem, ↓reduceIte, Nat.reduceEqDiff, reduceCtorEq, Nat.reduceAdd, Nat.reduceLeDiff, Nat.reduceSub]
  simp only [isText]; cases kind == 1 <;> cases kind == 2 <;> cases kind == 3 <;> cases kind == 6 <;> simp
noncomputable def E94 : Ent Tryz.prog := Ent.of 94 (fnOk Tryz.func94 rfl (by kernel_rfl)) (fun
    | [.d (.int .i64 kind)] => some (True, .d (.bool (isText kind || kind == 6)))
    | _ => none) fun args p r h => by
    split at h
    · skip
      cases h; exact t94 _
    · cases h
@[go_sem] theorem E94_f : E94.f = 94 := rfl
@[go_sem] theorem E94_c (kind : Int) : E94.c [.d (.int .i64 kind)] = some (True, .d (.bool (isText kind || kind == 6))) := rfl
def nmOk (s : ByteArray) (i : Nat) : Bool := isDigit (byteAt s i) || isSmall (byteAt s i) || isCapital (byteAt s i) || byteAt s i == 95 || (byteAt s i == 45 && byteAt s (i - 1) != 45)
def baseNm (s : ByteArray) : Bool := within s.size 1 32 && (isSmall (byteAt s 0) || isCapital (byteAt s 0)) && byteAt s (s.size - 1) != 45 && (List.range s.size).all fun i => i == 0 || nmOk s i
theorem t86 (s : ByteArray) : PureOk Tryz.prog 86 [.d (.str s)] (True) (.d (.bool (baseNm s))) := by
  refine pure_fn (C := fun gm => ⟨T, gam [E88, E157, E158, E159], dam [], plT [], ⟨gm, fun _ _ => none⟩⟩) (fun _ => tok) (fun gm => cok T _ _ _ gm) mixed Tryz.func86 rfl (Nat.le_of_ble_eq_true rfl) rfl (fun _ => rfl) (fun _ => by kernel_rfl) fun gm hp => ?_
  unfold Tryz.f86
  simp only [go_sem, ↓reduceIte, Nat.reduceEqDiff, reduceCtorEq, Nat.reduceAdd, Nat.reduceLeDiff, Nat.reduceSub]
  cases hw : within (s.size : Int) 1 32 with
  | false => simp [hw, baseNm]
  | true =>
    have hsz : 1 ≤ s.size ∧ s.size ≤ 32 := by
      simp only [within, Bool.and_eq_true, decide_eq_true_eq] at hw
      omega
    have w1 : IntKind.i64.wrap ((s.size : Int) - 1) = ((s.size - 1 : Nat) : Int) := by rw [wrap_small _ (by omega) (by omega)]; omega
    have k1 : (0 ≤ ((s.size - 1 : Nat) : Int) ∧ ((s.size - 1 : Nat) : Int) < (s.size : Int)) = True := eq_true (by omega)
    have k2 : ((0 : Int) ≤ 0 ∧ (0 : Int) < (s.size : Int)) = True := eq_true (by omega)
    simp only [w1, k1, k2, Int.toNat_natCast, Int.toNat_zero, Bool.not_true, Bool.not_false, cond_false, Bool.true_and, true_and, and_true, implies_true, imp_self, true_implies]
    generalize hA : (bif !isSmall (byteAt s 0) then !isCapital (byteAt s 0) else false) = A
    have hA2 : (isSmall (byteAt s 0) || isCapital (byteAt s 0)) = !A := by rw [← hA]; cases isSmall (byteAt s 0) <;> cases isCapital (byteAt s 0) <;> rfl
    have hB : baseNm s = (!A && byteAt s (s.size - 1) != 45 && (List.range s.size).all fun i => i == 0 || nmOk s i) := by
      unfold baseNm
      rw [hw, hA2]; rfl
    refine ⟨by cases A <;> simp, fun h => ?_, fun h => ?_⟩
    · have : baseNm s = false := by
        rw [hB]
        cases A with
        | true => rfl
        | false =>
          have h : (byteAt s (s.size - 1) == 45) = true := h
          simp [bne, h]
      rw [this]
    · have hA0 : A = false := by cases A <;> simp_all
      subst hA0
      have h : (byteAt s (s.size - 1) == 45) = false := h
      have hB : baseNm s = (List.range s.size).all fun i => i == 0 || nmOk s i := by rw [hB]; simp [bne, h]
      refine loop_intro (fun i : Nat => [(0, .d (.str s)), (3, .d (.int .i64 i))]) (fun i => 1 ≤ i ∧ i ≤ s.size ∧ ∀ j : Nat, 1 ≤ j → j < i → nmOk s j = true) (fun i => s.size - i) 1 ⟨Nat.le_refl _, hsz.1, fun j h1 h2 => by omega⟩ ?_ fun i hi => ?_
      · simp only [go_sem, ↓reduceIte, Nat.reduceEqDiff, reduceCtorEq, Nat.reduceAdd, Nat.reduceLeDiff, Nat.reduceSub]
        rfl
      · simp only [go_sem, ↓reduceIte, Nat.reduceEqDiff, reduceCtorEq, Nat.reduceAdd, Nat.reduceLeDiff, Nat.reduceSub]
        refine ⟨fun hlt => ?_, fun hge => ?_⟩
        · have hlt' : i < s.size := by have := of_decide_eq_true hlt; omega
          have w2 : IntKind.i64.wrap ((i : Int) - 1) = ((i - 1 : Nat) : Int) := by rw [wrap_small _ (by omega) (by omega)]; omega
          have k3 : (0 ≤ ((i - 1 : Nat) : Int) ∧ ((i - 1 : Nat) : Int) < (s.size : Int)) = True := eq_true (by omega)
          have k4 : (0 ≤ (i : Int) ∧ (i : Int) < (s.size : Int)) = True := eq_true (by omega)
          have bad : nmOk s i = false → baseNm s = false := fun hn => by
            rw [hB, List.all_eq_false]
            exact ⟨i, List.mem_range.2 hlt', by rw [hn]; simp; omega⟩
          have nxt : nmOk s i = true → ∀ j : Nat, 1 ≤ j → j < i + 1 → nmOk s j = true := fun hn j h1 h2 => by
            by_cases c : j = i
            · rw [c]; exact hn
            · exact hi.2.2 j h1 (by omega)
          have w3 : IntKind.i64.wrap ((i : Int) + 1) = ((i + 1 : Nat) : Int) := by rw [wrap_small _ (by omega) (by omega)]; omega
          simp only [w2, w3, k3, k4, Int.toNat_natCast, true_and, and_true, bne]
          have en : nmOk s i = (isDigit (byteAt s i) || isSmall (byteAt s i) || isCapital (byteAt s i) || byteAt s i == 95 || (byteAt s i == 45 && !(byteAt s (i - 1) == 45))) := rfl
          revert bad nxt
          rw [en]
          generalize isDigit (byteAt s i) = a
          generalize isSmall (byteAt s i) = b
          generalize isCapital (byteAt s i) = c
          generalize (byteAt s i == 95) = d
          generalize (byteAt s i == 45) = e
          generalize (byteAt s (i - 1) == 45) = f
          intro bad nxt
          have fin : (a || b || c || d || (e && !f)) = true → ∃ y : Nat, (1 ≤ y ∧ y ≤ s.size ∧ ∀ j : Nat, 1 ≤ j → j < y → nmOk s j = true) ∧ s.size - y < s.size - i ∧ V.d (D.int IntKind.i64 ((i + 1 : Nat) : Int)) = V.d (D.int IntKind.i64 (y : Int)) := fun hn => ⟨i + 1, ⟨by omega, hlt', nxt hn⟩, by omega, rfl⟩
          clear nxt
          cases a <;> cases b <;> cases c <;> cases d <;> cases e <;> cases f <;> simp_all
        · have hge' : ¬ i < s.size := by have := of_decide_eq_false hge; omega
          have : baseNm s = true := by
            rw [hB, List.all_eq_true]
            intro j hj
            have hj := List.mem_range.1 hj
            by_cases c : j = 0
            · simp [c]
            · rw [hi.2.2 j (by omega) (by omega)]; simp
          rw [this]
noncomputable def E86 : Ent Tryz.prog := Ent.of 86 (fnOk Tryz.func86 rfl (by kernel_rfl)) (fun
    | [.d (.str s)] => some (True, .d (.bool (baseNm s)))
    | _ => none) fun args p r h => by
    split at h
    · skip
      cases h; exact t86 _
    · cases h
@[go_sem] theorem E86_f : E86.f = 86 := rfl
@[go_sem] theorem E86_c (s : ByteArray) : E86.c [.d (.str s)] = some (True, .d (.bool (baseNm s))) := rfl
end Go.Proofs.YtgnnakibcjonbaaGreatDoor.VE

/- Chapter 16: contracts of functions of the reference. -/
namespace Go.Proofs.YtgnnakibcjonbaaGreatDoor.VE
open Go Go.RowKit
set_option maxRecDepth 100000
set_option linter.unusedSimpArgs false
set_option linter.unusedVariables false

theorem t13 (l : List Ly) (name : ByteArray) : PureOk Tryz.prog 13 [.d (.sl 3 (l.map encLy)), .d (.str name)] (l.length ≤ 1000) (.d (.int .i64 (idxOf (fun y => sEq y.name name) l 0))) := by
  refine pure_fn (C := fun gm => ⟨T, gam [], dam [], plT [], ⟨gm, fun _ _ => none⟩⟩) (fun _ => tok) (fun gm => cok T _ _ _ gm) mixed Tryz.func13 rfl (Nat.le_of_ble_eq_true rfl) rfl (fun _ => rfl) (fun _ => by kernel_rfl) fun gm hp => ?_
  unfold Tryz.f13
  simp only [go_sem, ↓reduceIte, Nat.reduceEqDiff, reduceCtorEq, Nat.reduceAdd, Nat.reduceLeDiff, Nat.reduceSub]
  refine loop_intro (fun i : Nat => [(0, .d (.sl 3 (l.map encLy))), (1, .d (.str name)), (5, .d (.int .i64 i))]) (fun i => i ≤ l.length ∧ ∀ (j : Nat) y, j < i → l[j]? = some y → sEq y.name name = false) (fun i => l.length - i) 0 ⟨Nat.zero_le _, fun j y hj => by omega⟩ ?_ fun i hi => ?_
  · simp only [go_sem, ↓reduceIte, Nat.reduceEqDiff, reduceCtorEq, Nat.reduceAdd, Nat.reduceLeDiff, Nat.reduceSub]
    rfl
  · simp only [go_sem, ↓reduceIte, Nat.reduceEqDiff, reduceCtorEq, Nat.reduceAdd, Nat.reduceLeDiff, Nat.reduceSub]
    refine ⟨fun hlt => ?_, fun hge => ?_⟩
    · have hlt' : i < l.length := by have := of_decide_eq_true hlt; omega
      refine ⟨⟨by omega, by omega⟩, fun a ha => ⟨?_, ?_⟩⟩
      · intro hpa
        rw [Int.toNat_natCast] at ha
        rw [idxOf_hit hi.2 ha hpa]
        simp
      · intro hpa
        rw [Int.toNat_natCast] at ha
        refine ⟨i + 1, ⟨hlt', fun j y hj hy => ?_⟩, by omega, ?_⟩
        · by_cases c : j = i
          · subst c; rw [ha] at hy; cases hy; exact hpa
          · exact hi.2 j y (by omega) hy
        · rw [wrap_small _ (by omega) (by omega)]
          simp
    · have hge' : ¬ i < l.length := by have := of_decide_eq_false hge; omega
      rw [idxOf_none fun j y hj hy => hi.2 j y (by omega) hy]
noncomputable def E13 : Ent Tryz.prog := Ent.of 13 (fnOk Tryz.func13 rfl (by kernel_rfl)) (fun
    | [.d (.sl 3 l), .d (.str name)] => (dec encLy l).bind fun l => some (l.length ≤ 1000, .d (.int .i64 (idxOf (fun y => sEq y.name name) l 0)))
    | _ => none) fun args p r h => by
    split at h
    · obtain ⟨_, hd0, h0⟩ := Option.bind_eq_some_iff.1 h; clear h; have hd0 := dec_some hd0; subst hd0
      cases h0; exact t13 _ _
    · cases h
@[go_sem] theorem E13_f : E13.f = 13 := rfl
@[go_sem] theorem E13_c (l : List (List D)) (name : ByteArray) : E13.c [.d (.sl 3 l), .d (.str name)] = (dec encLy l).bind fun l => some (l.length ≤ 1000, .d (.int .i64 (idxOf (fun y => sEq y.name name) l 0))) := rfl
theorem t76 (b : Bool) : PureOk Tryz.prog 76 [.d (.bool b)] (True) (.d (.int .i64 (if b then 1 else 0))) := by
  refine pure_fn (C := fun gm => ⟨T, gam [], dam [], plT [], ⟨gm, fun _ _ => none⟩⟩) (fun _ => tok) (fun gm => cok T _ _ _ gm) mixed Tryz.func76 rfl (Nat.le_of_ble_eq_true rfl) rfl (fun _ => rfl) (fun _ => by kernel_rfl) fun gm hp => ?_
  unfold Tryz.f76
  simp only [go_sem, ↓reduceIte, Nat.reduceEqDiff, reduceCtorEq, Nat.reduceAdd, Nat.reduceLeDiff, Nat.reduceSub]
  cases b <;> simp
noncomputable def E76 : Ent Tryz.prog := Ent.of 76 (fnOk Tryz.func76 rfl (by kernel_rfl)) (fun
    | [.d (.bool b)] => some (True, .d (.int .i64 (if b then 1 else 0)))
    | _ => none) fun args p r h => by
    split at h
    · skip
      cases h; exact t76 _
    · cases h
@[go_sem] theorem E76_f : E76.f = 76 := rfl
@[go_sem] theorem E76_c (b : Bool) : E76.c [.d (.bool b)] = some (True, .d (.int .i64 (if b then 1 else 0))) := rfl
def widths90 (kind : Int) : Int × Int := if kind = 0 then (1, 60) else if kind = 4 then (1, 200) else if kind = 6 then (0, 20) else (0, 200)
def rangeBad (f : Fd) : Bool := !within f.width (widths90 f.kind).1 (widths90 f.kind).2 || !within f.purpose 0 4 || (f.lowFirst && f.width.tmod 8 != 0)
def rangeErr (f : Fd) : Int := if rangeBad f then 3 else 0
theorem t90 (f : Fd) : PureOk Tryz.prog 90 [.agg [.d (.str f.name), .d (.int .i64 f.kind), .d (.int .i64 f.width), .d (.bool f.signed), .d (.bool f.lowFirst), .d (.int .i64 f.purpose), .d (.str f.for_), .d (.int .i64 f.of), .d (.sl 3 (f.choices.map encCh))]] (True) (.d (.int .i64 (rangeErr f))) := by
  refine pure_fn (C := fun gm => ⟨T, gam [E88, E76], dam [], plT [], ⟨gm, fun _ _ => none⟩⟩) (fun _ => tok) (fun gm => cok T _ _ _ gm) mixed Tryz.func90 rfl (Nat.le_of_ble_eq_true rfl) rfl (fun _ => rfl) (fun _ => by kernel_rfl) fun gm hp => ?_
  unfold Tryz.f90
  simp only [go_sem, ↓reduceIte, Nat.reduceEqDiff, reduceCtorEq, Nat.reduceAdd, Nat.reduceLeDiff, Nat.reduceSub]
  have w3 : IntKind.i64.wrap 3 = 3 := rfl
  have w0 : IntKind.i64.wrap 0 = 0 := rfl
  refine ⟨fun h => ?_, fun h => ⟨fun h4 => ?_, fun h4 => ⟨fun h6 => ?_, fun h6 => ?_⟩⟩⟩
  · have hk : widths90 f.kind = (1, 60) := by simp [widths90, beq_iff_eq.1 h]
    simp only [rangeErr, rangeBad, hk]
    generalize within f.width 1 60 = w
    generalize within f.purpose 0 4 = p
    generalize f.lowFirst = l
    generalize (f.width.tmod 8 != 0) = t
    cases w <;> cases p <;> cases l <;> cases t <;> simp [w3, w0]
  · have hk : widths90 f.kind = (1, 200) := by simp [widths90, beq_iff_eq.1 h4]
    simp only [rangeErr, rangeBad, hk]
    generalize within f.width 1 200 = w
    generalize within f.purpose 0 4 = p
    generalize f.lowFirst = l
    generalize (f.width.tmod 8 != 0) = t
    cases w <;> cases p <;> cases l <;> cases t <;> simp [w3, w0]
  · have hk : widths90 f.kind = (0, 20) := by simp [widths90, beq_iff_eq.1 h6]
    simp only [rangeErr, rangeBad, hk]
    generalize within f.width 0 20 = w
    generalize within f.purpose 0 4 = p
    generalize f.lowFirst = l
    generalize (f.width.tmod 8 != 0) = t
    cases w <;> cases p <;> cases l <;> cases t <;> simp [w3, w0]
  · have hk : widths90 f.kind = (0, 200) := by simp [widths90, beq_eq_false_iff_ne.1 h, beq_eq_false_iff_ne.1 h4, beq_eq_false_iff_ne.1 h6]
    simp only [rangeErr, rangeBad, hk]
    generalize within f.width 0 200 = w
    generalize within f.purpose 0 4 = p
    generalize f.lowFirst = l
    generalize (f.width.tmod 8 != 0) = t
    cases w <;> cases p <;> cases l <;> cases t <;> simp [w3, w0]
noncomputable def E90 : Ent Tryz.prog := Ent.of 90 (fnOk Tryz.func90 rfl (by kernel_rfl)) (fun
    | [.agg [.d (.str f_name), .d (.int .i64 f_kind), .d (.int .i64 f_width), .d (.bool f_signed), .d (.bool f_lowFirst), .d (.int .i64 f_purpose), .d (.str f_for_), .d (.int .i64 f_of), .d (.sl 3 f_choices)]] => (dec encCh f_choices).bind fun f_choices => some (True, .d (.int .i64 (rangeErr (Fd.mk f_name f_kind f_width f_signed f_lowFirst f_purpose f_for_ f_of f_choices))))
    | _ => none) fun args p r h => by
    split at h
    · obtain ⟨_, hd0, h0⟩ := Option.bind_eq_some_iff.1 h; clear h; have hd0 := dec_some hd0; subst hd0
      cases h0; exact t90 (Fd.mk _ _ _ _ _ _ _ _ _)
    · cases h
@[go_sem] theorem E90_f : E90.f = 90 := rfl
@[go_sem] theorem E90_c (f_name : ByteArray) (f_kind : Int) (f_width : Int) (f_signed : Bool) (f_lowFirst : Bool) (f_purpose : Int) (f_for_ : ByteArray) (f_of : Int) (f_choices : List (List D)) : E90.c [.agg [.d (.str f_name), .d (.int .i64 f_kind), .d (.int .i64 f_width), .d (.bool f_signed), .d (.bool f_lowFirst), .d (.int .i64 f_purpose), .d (.str f_for_), .d (.int .i64 f_of), .d (.sl 3 f_choices)]] = (dec encCh f_choices).bind fun f_choices => some (True, .d (.int .i64 (rangeErr (Fd.mk f_name f_kind f_width f_signed f_lowFirst f_purpose f_for_ f_of f_choices)))) := rfl
end Go.Proofs.YtgnnakibcjonbaaGreatDoor.VE

/- Chapter 16: contracts of functions of the reference: formErr, fieldNamed. -/
namespace Go.Proofs.YtgnnakibcjonbaaGreatDoor.VE
open Go Go.RowKit
set_option maxRecDepth 100000
set_option linter.unusedSimpArgs false
set_option linter.unusedVariables false

theorem t87 (x : Ly) (name : ByteArray) : PureOk Tryz.prog 87 [.agg [.d (.str x.name), .d (.sl 9 (x.fields.map encFd)), .d (.bool x.lowBits)], .d (.str name)] (x.fields.length ≤ 1000) (.d (.int .i64 (idxOf (fun y => sEq y.name name) x.fields 0))) := by
  refine pure_fn (C := fun gm => ⟨T, gam [], dam [], plT [], ⟨gm, fun _ _ => none⟩⟩) (fun _ => tok) (fun gm => cok T _ _ _ gm) mixed Tryz.func87 rfl (Nat.le_of_ble_eq_true rfl) rfl (fun _ => rfl) (fun _ => by kernel_rfl) fun gm hp => ?_
  unfold Tryz.f87
  simp only [go_sem, ↓reduceIte, Nat.reduceEqDiff, reduceCtorEq, Nat.reduceAdd, Nat.reduceLeDiff, Nat.reduceSub]
  refine loop_intro (fun i : Nat => [(2, .ptr 2 0), (1, .d (.str name)), (5, .d (.int .i64 i))]) (fun i => i ≤ x.fields.length ∧ ∀ (j : Nat) y, j < i → x.fields[j]? = some y → sEq y.name name = false) (fun i => x.fields.length - i) 0 ⟨Nat.zero_le _, fun j y hj => by omega⟩ ?_ fun i hi => ?_
  · simp only [go_sem, ↓reduceIte, Nat.reduceEqDiff, reduceCtorEq, Nat.reduceAdd, Nat.reduceLeDiff, Nat.reduceSub]
    rfl
  · simp only [go_sem, ↓reduceIte, Nat.reduceEqDiff, reduceCtorEq, Nat.reduceAdd, Nat.reduceLeDiff, Nat.reduceSub]
    refine ⟨fun hlt => ?_, fun hge => ?_⟩
    · have hlt' : i < x.fields.length := by have := of_decide_eq_true hlt; omega
      refine ⟨⟨by omega, by omega⟩, fun a ha => ⟨?_, ?_⟩⟩
      · intro hpa
        rw [Int.toNat_natCast] at ha
        rw [idxOf_hit hi.2 ha hpa]
        simp
      · intro hpa
        rw [Int.toNat_natCast] at ha
        refine ⟨i + 1, ⟨hlt', fun j y hj hy => ?_⟩, by omega, ?_⟩
        · by_cases c : j = i
          · subst c; rw [ha] at hy; cases hy; exact hpa
          · exact hi.2 j y (by omega) hy
        · rw [wrap_small _ (by omega) (by omega)]
          simp
    · have hge' : ¬ i < x.fields.length := by have := of_decide_eq_false hge; omega
      rw [idxOf_none fun j y hj hy => hi.2 j y (by omega) hy]
noncomputable def E87 : Ent Tryz.prog := Ent.of 87 (fnOk Tryz.func87 rfl (by kernel_rfl)) (fun
    | [.agg [.d (.str x_name), .d (.sl 9 x_fields), .d (.bool x_lowBits)], .d (.str name)] => (dec encFd x_fields).bind fun x_fields => some ((Ly.mk x_name x_fields x_lowBits).fields.length ≤ 1000, .d (.int .i64 (idxOf (fun y => sEq y.name name) (Ly.mk x_name x_fields x_lowBits).fields 0)))
    | _ => none) fun args p r h => by
    split at h
    · obtain ⟨_, hd0, h0⟩ := Option.bind_eq_some_iff.1 h; clear h; have hd0 := dec_some hd0; subst hd0
      cases h0; exact t87 (Ly.mk _ _ _) _
    · cases h
@[go_sem] theorem E87_f : E87.f = 87 := rfl
@[go_sem] theorem E87_c (x_name : ByteArray) (x_fields : List (List D)) (x_lowBits : Bool) (name : ByteArray) : E87.c [.agg [.d (.str x_name), .d (.sl 9 x_fields), .d (.bool x_lowBits)], .d (.str name)] = (dec encFd x_fields).bind fun x_fields => some ((Ly.mk x_name x_fields x_lowBits).fields.length ≤ 1000, .d (.int .i64 (idxOf (fun y => sEq y.name name) (Ly.mk x_name x_fields x_lowBits).fields 0))) := rfl
def formBad (x : Ly) (f : Fd) : Bool :=
  (!(f.kind == 0) && (f.signed || f.lowFirst || f.purpose != 0)) || (!sEq f.for_ ⟨#[]⟩ && (f.purpose == 0 || f.purpose == 4)) ||
    ((!(f.kind == 5 || f.kind == 6) && f.of != 0) || (f.kind != 7 && decide (0 < (f.choices.length : Int)))) || ((f.kind == 5 || f.kind == 7) && f.width != 0) || (f.lowFirst && x.lowBits)
theorem t89 (x : Ly) (f : Fd) : PureOk Tryz.prog 89 [.agg [.d (.str x.name), .d (.sl 9 (x.fields.map encFd)), .d (.bool x.lowBits)], .agg [.d (.str f.name), .d (.int .i64 f.kind), .d (.int .i64 f.width), .d (.bool f.signed), .d (.bool f.lowFirst), .d (.int .i64 f.purpose), .d (.str f.for_), .d (.int .i64 f.of), .d (.sl 3 (f.choices.map encCh))]] (True) (.d (.int .i64 (if formBad x f then 5 else 0))) := by
  refine pure_fn (C := fun gm => ⟨T, gam [E76], dam [], plT [], ⟨gm, fun _ _ => none⟩⟩) (fun _ => tok) (fun gm => cok T _ _ _ gm) mixed Tryz.func89 rfl (Nat.le_of_ble_eq_true rfl) rfl (fun _ => rfl) (fun _ => by kernel_rfl) fun gm hp => ?_
  unfold Tryz.f89
  simp only [go_sem, ↓reduceIte, Nat.reduceEqDiff, reduceCtorEq, Nat.reduceAdd, Nat.reduceLeDiff, Nat.reduceSub]
  have w5 : IntKind.i64.wrap 5 = 5 := rfl
  have w0 : IntKind.i64.wrap 0 = 0 := rfl
  simp only [formBad, bne]
  repeat' (first | intro _ | apply And.intro)
  all_goals first | (simp_all; done) | grind
noncomputable def E89 : Ent Tryz.prog := Ent.of 89 (fnOk Tryz.func89 rfl (by kernel_rfl)) (fun
    | [.agg [.d (.str x_name), .d (.sl 9 x_fields), .d (.bool x_lowBits)], .agg [.d (.str f_name), .d (.int .i64 f_kind), .d (.int .i64 f_width), .d (.bool f_signed), .d (.bool f_lowFirst), .d (.int .i64 f_purpose), .d (.str f_for_), .d (.int .i64 f_of), .d (.sl 3 f_choices)]] => (dec encFd x_fields).bind fun x_fields => (dec encCh f_choices).bind fun f_choices => some (True, .d (.int .i64 (if formBad (Ly.mk x_name x_fields x_lowBits) (Fd.mk f_name f_kind f_width f_signed f_lowFirst f_purpose f_for_ f_of f_choices) then 5 else 0)))
    | _ => none) fun args p r h => by
    split at h
    · obtain ⟨_, hd0, h0⟩ := Option.bind_eq_some_iff.1 h; clear h; have hd0 := dec_some hd0; subst hd0
      obtain ⟨_, hd1, h1⟩ := Option.bind_eq_some_iff.1 h0; clear h0; have hd1 := dec_some hd1; subst hd1
      cases h1; exact t89 (Ly.mk _ _ _) (Fd.mk _ _ _ _ _ _ _ _ _)
    · cases h
@[go_sem] theorem E89_f : E89.f = 89 := rfl
@[go_sem] theorem E89_c (x_name : ByteArray) (x_fields : List (List D)) (x_lowBits : Bool) (f_name : ByteArray) (f_kind : Int) (f_width : Int) (f_signed : Bool) (f_lowFirst : Bool) (f_purpose : Int) (f_for_ : ByteArray) (f_of : Int) (f_choices : List (List D)) : E89.c [.agg [.d (.str x_name), .d (.sl 9 x_fields), .d (.bool x_lowBits)], .agg [.d (.str f_name), .d (.int .i64 f_kind), .d (.int .i64 f_width), .d (.bool f_signed), .d (.bool f_lowFirst), .d (.int .i64 f_purpose), .d (.str f_for_), .d (.int .i64 f_of), .d (.sl 3 f_choices)]] = (dec encFd x_fields).bind fun x_fields => (dec encCh f_choices).bind fun f_choices => some (True, .d (.int .i64 (if formBad (Ly.mk x_name x_fields x_lowBits) (Fd.mk f_name f_kind f_width f_signed f_lowFirst f_purpose f_for_ f_of f_choices) then 5 else 0))) := rfl
end Go.Proofs.YtgnnakibcjonbaaGreatDoor.VE

/- Chapter 16: SourceOf of the reference. -/
namespace Go.Proofs.YtgnnakibcjonbaaGreatDoor.VE
open Go Go.RowKit
set_option maxRecDepth 100000
set_option linter.unusedSimpArgs false
set_option linter.unusedVariables false

def sourceOf (x : Ly) (k : Int) : Int :=
  match x.fields[k.toNat]? with
  | none => x.fields.length
  | some f => if idxOf (fun y => named y && sEq y.for_ f.name) (x.fields.take k.toNat) 0 < 0 then x.fields.length else idxOf (fun y => named y && sEq y.for_ f.name) (x.fields.take k.toNat) 0
theorem t95 (x : Ly) (k : Int) : PureOk Tryz.prog 95 [.agg [.d (.str x.name), .d (.sl 9 (x.fields.map encFd)), .d (.bool x.lowBits)], .d (.int .i64 k)] (0 ≤ k ∧ k < x.fields.length ∧ x.fields.length ≤ 1000) (.d (.int .i64 (sourceOf x k))) := by
  refine pure_fn (C := fun gm => ⟨T, gam [], dam [], plT pl95, ⟨gm, fun _ _ => none⟩⟩) (fun _ => tok) (fun gm => cok T _ _ _ gm) mixed Tryz.func95 rfl (Nat.le_of_ble_eq_true rfl) rfl (fun _ => rfl) (fun _ => by kernel_rfl) fun gm hp => ?_
  unfold Tryz.f95
  simp only [go_sem, ↓reduceIte, Nat.reduceEqDiff, reduceCtorEq, Nat.reduceAdd, Nat.reduceLeDiff, Nat.reduceSub, pl95]
  obtain ⟨h0, h1, h2⟩ := hp
  obtain ⟨f, hf⟩ : ∃ f, x.fields[k.toNat]? = some f := ⟨_, List.getElem?_eq_getElem (by omega)⟩
  have hg : (x.fields.map encFd).getD k.toNat [] = encFd f := by rw [List.getD_eq_getElem?_getD, List.getElem?_map, hf]; rfl
  refine loop_objs [6] (by simp) (fun _ : Nat => osL [(2, .box [.d (.str x.name), .d (.sl 9 (x.fields.map encFd)), .d (.bool x.lowBits)] 37)]) (fun i => [(2, .ptr 2 0), (1, .d (.int .i64 k)), (5, .d (.int .i64 i))]) (fun i => i ≤ k.toNat ∧ ∀ (j : Nat) y, j < i → (x.fields.take k.toNat)[j]? = some y → (named y && sEq y.for_ f.name) = false) (fun i => k.toNat - i) 0 ⟨Nat.zero_le _, fun j y hj => by omega⟩ ?_ fun i hi => ?_
  · simp only [go_sem, ↓reduceIte, Nat.reduceEqDiff, reduceCtorEq, Nat.reduceAdd, Nat.reduceLeDiff, Nat.reduceSub]
    exact ⟨rfl, by funext o; by_cases c : o = 6 <;> by_cases d : o = 2 <;> simp [osL, c, d, O.kill, V.kill]⟩
  · simp only [go_sem, ↓reduceIte, Nat.reduceEqDiff, reduceCtorEq, Nat.reduceAdd, Nat.reduceLeDiff, Nat.reduceSub, pl95, idxV, hg, encFd, List.length_map, List.drop]
    have e : sourceOf x k = if idxOf (fun y => named y && sEq y.for_ f.name) (x.fields.take k.toNat) 0 < 0 then (x.fields.length : Int) else idxOf (fun y => named y && sEq y.for_ f.name) (x.fields.take k.toNat) 0 := by unfold sourceOf; rw [hf]
    have hn : ∀ a : Fd, (a.purpose != 0 && a.purpose != 4) = named a := fun a => rfl
    simp only [Bool.cond_false_right, hn]
    refine ⟨fun hlt => ?_, fun hge => ?_⟩
    · rw [Bool.and_eq_true, decide_eq_true_eq, decide_eq_true_eq] at hlt
      refine ⟨⟨by omega, by omega⟩, fun a ha => ⟨fun h => ⟨h, h0, h1⟩, fun hpa => ?_, fun hpa => ?_⟩⟩
      · rw [Int.toNat_natCast] at ha
        have hta : (x.fields.take k.toNat)[i]? = some a := by rw [List.getElem?_take, if_pos (by omega)]; exact ha
        rw [e, idxOf_hit (p := fun y => named y && sEq y.for_ f.name) hi.2 hta hpa, if_neg (by omega)]
        simp
      · rw [Int.toNat_natCast] at ha
        have hta : (x.fields.take k.toNat)[i]? = some a := by rw [List.getElem?_take, if_pos (by omega)]; exact ha
        refine ⟨i + 1, ⟨by omega, fun j y hj hy => ?_⟩, by omega, ?_, ?_⟩
        · by_cases c : j = i
          · subst c; rw [hta] at hy; cases hy; exact hpa
          · exact hi.2 j y (by omega) hy
        · rw [wrap_small _ (by omega) (by omega)]
          simp
        · funext o
          by_cases c : o = 6 <;> by_cases d : o = 2 <;> simp [osL, c, d, O.kill, V.kill]
    · have hk : i = k.toNat := by
        rw [Bool.and_eq_false_iff, decide_eq_false_iff_not, decide_eq_false_iff_not] at hge
        omega
      rw [e, idxOf_none (p := fun y => named y && sEq y.for_ f.name) (fun j y hj hy => hi.2 j y (by rw [List.length_take] at hj; omega) hy)]
      simp
noncomputable def E95 : Ent Tryz.prog := Ent.of 95 (fnOk Tryz.func95 rfl (by kernel_rfl)) (fun
    | [.agg [.d (.str x_name), .d (.sl 9 x_fields), .d (.bool x_lowBits)], .d (.int .i64 k)] => (dec encFd x_fields).bind fun x_fields => some (0 ≤ k ∧ k < (Ly.mk x_name x_fields x_lowBits).fields.length ∧ (Ly.mk x_name x_fields x_lowBits).fields.length ≤ 1000, .d (.int .i64 (sourceOf (Ly.mk x_name x_fields x_lowBits) k)))
    | _ => none) fun args p r h => by
    split at h
    · obtain ⟨_, hd0, h0⟩ := Option.bind_eq_some_iff.1 h; clear h; have hd0 := dec_some hd0; subst hd0
      cases h0; exact t95 (Ly.mk _ _ _) _
    · cases h
@[go_sem] theorem E95_f : E95.f = 95 := rfl
@[go_sem] theorem E95_c (x_name : ByteArray) (x_fields : List (List D)) (x_lowBits : Bool) (k : Int) : E95.c [.agg [.d (.str x_name), .d (.sl 9 x_fields), .d (.bool x_lowBits)], .d (.int .i64 k)] = (dec encFd x_fields).bind fun x_fields => some (0 ≤ k ∧ k < (Ly.mk x_name x_fields x_lowBits).fields.length ∧ (Ly.mk x_name x_fields x_lowBits).fields.length ≤ 1000, .d (.int .i64 (sourceOf (Ly.mk x_name x_fields x_lowBits) k))) := rfl
end Go.Proofs.YtgnnakibcjonbaaGreatDoor.VE

/- Chapter 16: headErr of the reference. -/
namespace Go.Proofs.YtgnnakibcjonbaaGreatDoor.VE
open Go Go.RowKit
set_option maxRecDepth 100000
set_option linter.unusedSimpArgs false
set_option linter.unusedVariables false

def headErr (l : List Ly) (i : Int) : Int :=
  match l[i.toNat]? with
  | none => 0
  | some x => if baseNm x.name then (if idxOf (fun y => sEq y.name x.name) (l.take i.toNat) 0 = -1 then (if 16 < x.fields.length then 2 else 0) else 12) else 7
theorem t45 (l : List Ly) (i : Int) : PureOk Tryz.prog 45 [.d (.sl 3 (l.map encLy)), .d (.int .i64 i)] (0 ≤ i ∧ i < l.length ∧ l.length ≤ 1000) (.d (.int .i64 (headErr l i))) := by
  refine pure_fn (C := fun gm => ⟨T, gam [E86, E13, E76], dam [], plT pl45, ⟨gm, fun _ _ => none⟩⟩) (fun _ => tok) (fun gm => cok T _ _ _ gm) mixed Tryz.func45 rfl (Nat.le_of_ble_eq_true rfl) rfl (fun _ => rfl) (fun _ => by kernel_rfl) fun gm hp => ?_
  obtain ⟨h0, h1, h2⟩ := hp
  obtain ⟨x, hx⟩ : ∃ x, l[i.toNat]? = some x := ⟨_, List.getElem?_eq_getElem (by omega)⟩
  have hg : (l.map encLy).getD i.toNat [] = encLy x := by rw [List.getD_eq_getElem?_getD, List.getElem?_map, hx]; rfl
  have e : headErr l i = if baseNm x.name then (if idxOf (fun y => sEq y.name x.name) (l.take i.toNat) 0 = -1 then (if 16 < x.fields.length then 2 else 0) else 12) else 7 := by unfold headErr; rw [hx]
  unfold Tryz.f45
  simp only [go_sem, ↓reduceIte, Nat.reduceEqDiff, reduceCtorEq, Nat.reduceAdd, Nat.reduceLeDiff, Nat.reduceSub, pl45, idxV, hg, encLy, List.length_map, List.drop, ← List.map_take, List.drop_zero]
  refine ⟨⟨h0, h1⟩, fun a ha => ?_⟩
  rw [hx] at ha
  obtain rfl := Option.some.inj ha
  refine ⟨fun h => ?_, fun h => ⟨⟨h0, by omega, by omega⟩, ⟨h0, h1⟩, by rw [List.length_take]; omega, fun h3 => ?_, fun h3 => ⟨⟨h0, h1⟩, fun a ha => ?_⟩⟩⟩
  · rw [e, if_neg (by simpa using h)]
  · rw [e, if_pos (by simpa using h), if_neg (by simpa using h3)]
  · rw [hx] at ha
    obtain rfl := Option.some.inj ha
    have e' : headErr l i = if 16 < x.fields.length then 2 else 0 := by rw [e, if_pos (by simpa using h), if_pos (by simpa using h3)]
    rw [e']
    by_cases c : 16 < x.fields.length
    · have c2 : decide ((16 : Int) < (x.fields.length : Int)) = true := by simp; omega
      rw [c2, if_pos c]; rfl
    · have c2 : decide ((16 : Int) < (x.fields.length : Int)) = false := by simp; omega
      rw [c2, if_neg c]; rfl
noncomputable def E45 : Ent Tryz.prog := Ent.of 45 (fnOk Tryz.func45 rfl (by kernel_rfl)) (fun
    | [.d (.sl 3 l), .d (.int .i64 i)] => (dec encLy l).bind fun l => some (0 ≤ i ∧ i < l.length ∧ l.length ≤ 1000, .d (.int .i64 (headErr l i)))
    | _ => none) fun args p r h => by
    split at h
    · obtain ⟨_, hd0, h0⟩ := Option.bind_eq_some_iff.1 h; clear h; have hd0 := dec_some hd0; subst hd0
      cases h0; exact t45 _ _
    · cases h
@[go_sem] theorem E45_f : E45.f = 45 := rfl
@[go_sem] theorem E45_c (l : List (List D)) (i : Int) : E45.c [.d (.sl 3 l), .d (.int .i64 i)] = (dec encLy l).bind fun l => some (0 ≤ i ∧ i < l.length ∧ l.length ≤ 1000, .d (.int .i64 (headErr l i))) := rfl
end Go.Proofs.YtgnnakibcjonbaaGreatDoor.VE

/- Chapter 16, plain: names, forms and ranges are judged alike by both. -/
namespace Go.Proofs.YtgnnakibcjonbaaGreatDoor.VE
open Go Go.RowKit
set_option linter.unusedVariables false
set_option linter.unusedSimpArgs false
theorem index_dash : ∀ l : List UInt8, 0 ≤ Lib.index l [45, 45] ↔ ∃ i : Nat, l[i]? = some (45 : UInt8) ∧ l[i + 1]? = some (45 : UInt8)
  | [] => by
    have : Lib.index [] [45, 45] = -1 := rfl
    rw [this]
    simp
  | b :: l => by
    have ih := index_dash l
    have hg := Lib.index_ge l [45, 45]
    have hp : List.isPrefixOf [45, 45] (b :: l) = true ↔ b = 45 ∧ l[0]? = some (45 : UInt8) := by
      cases l with
      | nil => simp [List.isPrefixOf]
      | cons c r =>
        simp only [List.isPrefixOf, Bool.and_true, Bool.and_eq_true, beq_iff_eq, List.getElem?_cons_zero, Option.some.injEq]
        exact ⟨fun h => ⟨h.1.symm, h.2.symm⟩, fun h => ⟨h.1.symm, h.2.symm⟩⟩
    have hs0 : List.isPrefixOf [45, 45] (b :: l) ≠ true → ((∃ i : Nat, (b :: l)[i]? = some (45 : UInt8) ∧ (b :: l)[i + 1]? = some (45 : UInt8)) ↔ ∃ i : Nat, l[i]? = some (45 : UInt8) ∧ l[i + 1]? = some (45 : UInt8)) := fun c => by
      constructor
      · rintro ⟨i, h1, h2⟩
        cases i with
        | zero => exact (c (hp.2 ⟨by simpa using h1, by simpa using h2⟩)).elim
        | succ i => exact ⟨i, by simpa using h1, by simpa using h2⟩
      · rintro ⟨i, h1, h2⟩
        exact ⟨i + 1, by simpa using h1, by simpa using h2⟩
    by_cases c : List.isPrefixOf [45, 45] (b :: l) = true
    · obtain ⟨h1, h2⟩ := hp.1 c
      unfold Lib.index
      rw [if_pos c]
      exact ⟨fun _ => ⟨0, by simp [h1], by simpa using h2⟩, fun _ => Int.le_refl _⟩
    · rw [hs0 c, ← ih]
      conv => lhs; unfold Lib.index
      rw [if_neg c]
      by_cases d : Lib.index l [45, 45] = -1
      · rw [if_pos (by rw [d]; rfl), d]
      · rw [if_neg (by simpa using d)]
        omega
theorem byte_list (s : ByteArray) (i : Nat) (c : UInt8) : s.data.toList[i]? = some c ↔ i < s.size ∧ byteAt s i = (c.toNat : Int) := by
  unfold byteAt
  by_cases h : i < s.size
  · rw [dif_pos h, Array.getElem?_toList, Array.getElem?_eq_getElem (show i < s.data.size from h)]
    constructor
    · intro e
      exact ⟨h, by rw [← Option.some.inj e]; rfl⟩
    · rintro ⟨_, e⟩
      have e : (s.data[i]'h).toNat = c.toNat := by
        have : ((s[i]).toNat : Int) = (c.toNat : Int) := e
        exact Int.ofNat.inj this
      rw [UInt8.toNat_inj.1 e]
  · have : s.data.toList[i]? = none := by rw [Array.getElem?_toList]; exact Array.getElem?_eq_none (by show s.size ≤ i; omega)
    rw [dif_neg h, this]
    constructor
    · intro e; cases e
    · rintro ⟨e, _⟩; omega
theorem anyByte_iff (p : Int → Bool) (s : ByteArray) : anyByte p s = true ↔ ∃ i, i < s.size ∧ p (byteAt s i) = true := by
  unfold anyByte
  rw [List.any_eq_true]
  constructor
  · rintro ⟨c, hc, h⟩
    obtain ⟨i, hi⟩ := List.getElem?_of_mem hc
    obtain ⟨h1, h2⟩ := (byte_list s i c).1 hi
    exact ⟨i, h1, by rw [h2]; exact h⟩
  · rintro ⟨i, hi, h⟩
    have hl : i < s.data.toList.length := by rw [Array.length_toList]; exact hi
    refine ⟨s.data.toList[i], List.getElem_mem hl, ?_⟩
    rw [← ((byte_list s i _).1 (List.getElem?_eq_getElem hl)).2]
    exact h
theorem nm_char (c : Int) : notName c = false ↔ isLetter c = true ∨ (48 ≤ c ∧ c ≤ 57) ∨ c = 95 ∨ c = 45 := by
  cases h : isLetter c <;> simp [notName, h] <;> omega
theorem names_eq (s : ByteArray) : baseNm s = isNm s := by
  have hlet : ∀ c, (isSmall c || isCapital c) = isLetter c := fun c => rfl
  have dash : decide (0 ≤ Lib.index s.data.toList [45, 45]) = true ↔ ∃ i, i + 1 < s.size ∧ byteAt s i = 45 ∧ byteAt s (i + 1) = 45 := by
    rw [decide_eq_true_eq, index_dash]
    constructor
    · rintro ⟨i, h1, h2⟩
      have g1 := (byte_list s i 45).1 h1
      have g2 := (byte_list s (i + 1) 45).1 h2
      exact ⟨i, g2.1, g1.2, g2.2⟩
    · rintro ⟨i, h0, h1, h2⟩
      exact ⟨i, (byte_list s i 45).2 ⟨by omega, h1⟩, (byte_list s (i + 1) 45).2 ⟨h0, h2⟩⟩
  have ok : ∀ i, nmOk s i = true ↔ notName (byteAt s i) = false ∧ (byteAt s i = 45 → byteAt s (i - 1) ≠ 45) := fun i => by
    rw [nm_char, ← hlet]
    unfold nmOk
    cases h1 : isSmall (byteAt s i) <;> cases h2 : isCapital (byteAt s i) <;> simp [isDigit, isSmall, isCapital] at h1 h2 ⊢ <;> omega
  unfold baseNm isNm
  rw [hlet]
  by_cases c1 : s.size = 0
  · simp [c1, within]
  by_cases c2 : 32 < s.size
  · have e1 : within (s.size : Int) 1 32 = false := by simp [within]; omega
    have e2 : decide (s.size ≤ 32) = false := by simp; omega
    rw [e1, e2]
    simp
  have e1 : within (s.size : Int) 1 32 = true := by simp [within]; omega
  have e2 : decide (s.size ≤ 32) = true := by simp; omega
  have e3 : (!(s.size == 0)) = true := by simp [c1]
  rw [e1, e2, e3]
  cases hl : isLetter (byteAt s 0)
  · simp
  cases h45 : (byteAt s (s.size - 1) != 45)
  · simp
  simp only [Bool.true_and, Bool.and_true]
  rw [Bool.eq_iff_iff, List.all_eq_true]
  constructor
  · intro h
    rw [Bool.and_eq_true, Bool.not_eq_true', Bool.not_eq_true', ← Bool.not_eq_true, ← Bool.not_eq_true, dash, anyByte_iff]
    have key : ∀ i, i < s.size → i = 0 ∨ nmOk s i = true := fun i hi => by
      have := h i (List.mem_range.2 hi)
      rw [Bool.or_eq_true, beq_iff_eq] at this
      exact this
    constructor
    · rintro ⟨i, h0, h1, h2⟩
      rcases key (i + 1) h0 with g | g
      · omega
      · exact ((ok _).1 g).2 h2 h1
    · rintro ⟨i, hi, g⟩
      rcases key i hi with rfl | k
      · rw [(nm_char _).2 (.inl hl)] at g; cases g
      · rw [((ok _).1 k).1] at g; cases g
  · intro h i hi
    have hi := List.mem_range.1 hi
    rw [Bool.and_eq_true, Bool.not_eq_true', Bool.not_eq_true', ← Bool.not_eq_true, ← Bool.not_eq_true, dash, anyByte_iff] at h
    rw [Bool.or_eq_true, beq_iff_eq]
    by_cases c0 : i = 0
    · exact .inl c0
    · refine .inr ((ok i).2 ⟨?_, fun g g' => h.1 ⟨i - 1, by omega, g', by rw [show i - 1 + 1 = i by omega]; exact g⟩⟩)
      cases e : notName (byteAt s i) with
      | false => rfl
      | true => exact (h.2 ⟨i, hi, e⟩).elim
theorem widths_zero (k : Int) : ((widths k).2 == 0) = (k == 5 || k == 7) := by
  unfold widths
  by_cases h0 : k = 0
  · subst h0; rfl
  by_cases h4 : k = 4
  · subst h4; rfl
  by_cases h6 : k = 6
  · subst h6; rfl
  by_cases h5 : k = 5
  · subst h5; rfl
  by_cases h7 : k = 7
  · subst h7; rfl
  · rw [if_neg h0, if_neg h4, if_neg h6, if_neg (by omega)]
    simp [h5, h7]
end Go.Proofs.YtgnnakibcjonbaaGreatDoor.VE

/- Chapter 16, plain: a field's error is the same by both. -/
namespace Go.Proofs.YtgnnakibcjonbaaGreatDoor.VE
open Go Go.RowKit
set_option linter.unusedVariables false
set_option linter.unusedSimpArgs false
def fieldForm (x : Ly) (f : Fd) : Bool :=
  (!(f.kind == 0) && (f.signed || f.lowFirst || f.purpose != 0)) || (!sEq f.for_ ⟨#[]⟩ && !named f) || (f.of != 0 && f.kind != 5 && f.kind != 6) ||
    (decide (0 < (f.choices.length : Int)) && f.kind != 7) || (f.width != 0 && (widths f.kind).2 == 0) || (f.lowFirst && x.lowBits)
def fieldRange (f : Fd) : Bool := !within f.width (widths f.kind).1 (widths f.kind).2 || !within f.purpose 0 4 || (f.lowFirst && f.width.tmod 8 != 0)
def usedOf (f : Fd) : List Int := if f.kind = 5 ∨ f.kind = 6 then [f.of] else if f.kind = 7 then f.choices.map (·.of) else []
def fieldErr (l : List Ly) (i k : Int) : Int :=
  match l[i.toNat]? with
  | none => 0
  | some x => match x.fields[k.toNat]? with
    | none => 0
    | some f =>
      if !isNm f.name then 7 else if (x.fields.take k.toNat).any (fun y => sEq y.name f.name) then 13 else if !within f.kind 0 7 then 4 else
      if fieldForm x f then 5 else if fieldRange f then 3 else if f.signed && f.purpose != 0 then 5 else
      if (usedOf f).any (fun n => !within n 0 (i - 1)) then 11 else if (usedOf f).any (fun n => lowAt l n != x.lowBits) then 15 else
      if f.kind = 7 ∧ choicesErr f.choices ≠ 0 then choicesErr f.choices else if named f = true ∧ purposeErr x k ≠ 0 then purposeErr x k else
      if isSized f && !(x.fields.take k.toNat).any (fun y => named y && sEq y.for_ f.name) then 22 else 0
/-- The layouts that a field uses, as the reference collects them. -/
def usedR (f : Fd) : List Int := (if f.kind = 5 ∨ f.kind = 6 then [f.of] else []) ++ f.choices.map (·.of)
def usedErr (l : List Ly) (i : Int) (f : Fd) : Int := if (usedR f).any (fun n => !within n 0 (i - 1)) then 11 else if (usedR f).any (fun n => lowAt l n != lowAt l i) then 15 else 0
def forErr (x : Ly) (k : Int) : Int :=
  match x.fields[k.toNat]? with
  | none => 0
  | some f => if named f then purposeErr x k else 0
def refErr (l : List Ly) (i k : Int) : Int :=
  match l[i.toNat]? with
  | none => 0
  | some x => match x.fields[k.toNat]? with
    | none => 0
    | some f =>
      if !baseNm f.name then 7 else if idxOf (fun y => sEq y.name f.name) x.fields 0 < k then 13 else if !within f.kind 0 7 then 4 else
      if formBad x f then 5 else if rangeBad f then 3 else if f.signed && f.purpose != 0 then 5 else
      if usedErr l i f ≠ 0 then usedErr l i f else if f.kind = 7 ∧ choicesErr f.choices ≠ 0 then choicesErr f.choices else
      if forErr x k ≠ 0 then forErr x k else if (((isText f.kind || f.kind == 6) && f.width == 0) || f.kind == 7) && sourceOf x k == x.fields.length then 22 else 0
theorem form_eq (x : Ly) (f : Fd) : formBad x f = fieldForm x f := by
  unfold formBad fieldForm
  rw [widths_zero]
  unfold named
  generalize (f.signed || f.lowFirst || f.purpose != 0) = a1
  generalize sEq f.for_ ⟨#[]⟩ = a2
  generalize decide (0 < (f.choices.length : Int)) = a3
  generalize (f.lowFirst && x.lowBits) = a4
  simp only [bne]
  generalize (f.kind == 0) = b0
  generalize (f.kind == 5) = b5
  generalize (f.kind == 6) = b6
  generalize (f.kind == 7) = b7
  generalize (f.purpose == 0) = c0
  generalize (f.purpose == 4) = c4
  generalize (f.of == 0) = d0
  generalize (f.width == 0) = d1
  cases a1 <;> cases a2 <;> cases a3 <;> cases a4 <;> cases b0 <;> cases b5 <;> cases b6 <;> cases b7 <;> cases c0 <;> cases c4 <;> cases d0 <;> cases d1 <;> rfl
theorem range_eq (x : Ly) (f : Fd) (hf : fieldForm x f = false) : rangeBad f = fieldRange f := by
  have hw : f.width ≠ 0 → (f.kind == 5 || f.kind == 7) = false := fun h => by
    unfold fieldForm at hf
    rw [widths_zero] at hf
    simp only [Bool.or_eq_false_iff] at hf
    have := hf.1.2
    rw [Bool.and_eq_false_iff] at this
    rcases this with g | g
    · simp [h] at g
    · simpa using g
  unfold rangeBad fieldRange
  congr 2
  congr 1
  by_cases c : f.kind = 5 ∨ f.kind = 7
  · have h0 : f.width = 0 := by
      by_cases h : f.width = 0
      · exact h
      · have := hw h
        rcases c with c | c <;> rw [c] at this <;> cases this
    rw [h0]
    rcases c with c | c <;> rw [c] <;> rfl
  · have e : widths90 f.kind = widths f.kind := by
      unfold widths90 widths
      simp only [if_neg c]
    rw [e]
theorem idxOf_append {α : Type} {p : α → Bool} : ∀ {a b : List α} {k : Int}, idxOf p (a ++ b) k = if a.any p then idxOf p a k else idxOf p b (k + a.length)
  | [], b, k => by simp
  | y :: r, b, k => by
    rw [List.cons_append]
    by_cases c : p y = true
    · simp only [idxOf, c, if_true, List.any_cons, Bool.true_or]
    · have c : p y = false := by simpa using c
      simp only [idxOf, c, Bool.false_eq_true, if_false, List.any_cons, Bool.false_or, List.length_cons]
      rw [idxOf_append, show k + 1 + (r.length : Int) = k + ((r.length + 1 : Nat) : Int) by omega]
theorem idxOf_before {α : Type} {p : α → Bool} {xs : List α} {k : Nat} {x : α} (hx : xs[k]? = some x) (hp : p x = true) : decide (idxOf p xs 0 < (k : Int)) = (xs.take k).any p := by
  obtain ⟨hk, he⟩ := List.getElem?_eq_some_iff.1 hx
  have hl : (xs.take k).length = k := by rw [List.length_take]; omega
  have hd : idxOf p (xs.drop k) (k : Int) = k := by
    rw [List.drop_eq_getElem_cons hk, he]
    simp only [idxOf, hp, if_true]
  have e : idxOf p xs 0 = if (xs.take k).any p then idxOf p (xs.take k) 0 else (k : Int) := by
    conv => lhs; rw [← List.take_append_drop k xs]
    rw [idxOf_append, hl, Int.zero_add, hd]
  rw [e]
  have ha := idxOf_any (p := p) (xs := xs.take k) (k := 0) (Int.le_refl _)
  cases h : (xs.take k).any p
  · simp
  · rw [h, decide_eq_true_eq] at ha
    rcases idxOf_ge (p := p) (xs := xs.take k) (k := 0) with g | ⟨g1, g2⟩
    · omega
    · simp only [if_true, decide_eq_true_eq]
      omega
theorem source_eq (x : Ly) (k : Nat) (f : Fd) (hf : x.fields[k]? = some f) : (sourceOf x (k : Int) == (x.fields.length : Int)) = !(x.fields.take k).any (fun y => named y && sEq y.for_ f.name) := by
  obtain ⟨hk, he⟩ := List.getElem?_eq_some_iff.1 hf
  have hl : (x.fields.take k).length = k := by rw [List.length_take]; omega
  unfold sourceOf
  rw [Int.toNat_natCast, hf]
  simp only
  have ha := idxOf_any (p := fun y => named y && sEq y.for_ f.name) (xs := x.fields.take k) (k := 0) (Int.le_refl _)
  rw [← ha]
  rcases idxOf_ge (p := fun y => named y && sEq y.for_ f.name) (xs := x.fields.take k) (k := 0) with g | ⟨g1, g2⟩
  · rw [g]; simp
  · rw [if_neg (by omega), decide_eq_true g1, beq_eq_false_iff_ne.2 (by omega)]
    rfl
theorem used_any (f : Fd) (x : Ly) (hf : fieldForm x f = false) : usedR f = usedOf f := by
  unfold fieldForm at hf
  simp only [Bool.or_eq_false_iff] at hf
  have hc := hf.1.1.2
  unfold usedR usedOf
  by_cases c7 : f.kind = 7
  · rw [if_neg (by omega), if_neg (by omega), if_pos c7]; rfl
  · have : f.choices = [] := by
      rw [Bool.and_eq_false_iff] at hc
      rcases hc with g | g
      · have := of_decide_eq_false g
        exact List.eq_nil_of_length_eq_zero (by omega)
      · simp [c7] at g
    rw [this]
    by_cases c : f.kind = 5 ∨ f.kind = 6
    · rw [if_pos c, if_pos c]; rfl
    · rw [if_neg c, if_neg c, if_neg c7]; rfl
theorem refErr_eq (l : List Ly) (i k : Nat) : refErr l i k = fieldErr l i k := by
  unfold refErr fieldErr
  rw [Int.toNat_natCast, Int.toNat_natCast]
  cases hx : l[i]? with
  | none => rfl
  | some x =>
    simp only
    cases hf : x.fields[k]? with
    | none => rfl
    | some f =>
      simp only
      rw [names_eq]
      cases h1 : isNm f.name
      · rfl
      simp only [Bool.not_true, Bool.false_eq_true, if_false]
      have hd := idxOf_before (p := fun y : Fd => sEq y.name f.name) hf (by show sEq f.name f.name = true; unfold sEq; simp)
      have e2 : (idxOf (fun y : Fd => sEq y.name f.name) x.fields 0 < (k : Int)) ↔ (x.fields.take k).any (fun y => sEq y.name f.name) = true := by rw [← hd, decide_eq_true_eq]
      by_cases h2 : (x.fields.take k).any (fun y => sEq y.name f.name) = true
      · rw [if_pos (e2.2 h2), if_pos h2]
      rw [if_neg (fun c => h2 (e2.1 c)), if_neg h2, form_eq]
      cases h4 : fieldForm x f with
      | true => rfl
      | false =>
        simp only [Bool.false_eq_true, if_false]
        rw [range_eq x f h4]
        have hu := used_any f x h4
        have hlow : lowAt l (i : Int) = x.lowBits := by unfold lowAt; rw [Int.toNat_natCast, hx]
        unfold usedErr
        rw [hu, hlow]
        have hfor : forErr x (k : Int) = if named f then purposeErr x k else 0 := by unfold forErr; rw [Int.toNat_natCast, hf]
        rw [hfor, source_eq x k f hf]
        have hs : isSized f = (((isText f.kind || f.kind == 6) && f.width == 0) || f.kind == 7) := rfl
        rw [hs]
        cases u1 : (usedOf f).any (fun n => !within n 0 ((i : Int) - 1)) with
        | true => simp
        | false =>
          cases u2 : (usedOf f).any (fun n => lowAt l n != x.lowBits) with
          | true => simp
          | false =>
            simp only [Bool.false_eq_true, if_false, ne_eq, not_true_eq_false]
            cases hn : named f <;> simp
end Go.Proofs.YtgnnakibcjonbaaGreatDoor.VE

/- The evaluator: code in pieces that meet. Where ways of a function meet, what lies behind is looked at once. -/
namespace Go.Proofs.YtgnnakibcjonbaaGreatDoor.VE
open Go Go.RowKit
set_option linter.unusedVariables false
set_option linter.unusedSimpArgs false
/-- From the abstract state on, code ends as Q says. -/
def W (P : Program) (C : Cx) (N : Nat) (c : Code) (st : St) (Q : Exit → St → Prop) : Prop :=
  ∀ (w0 : World) (Pr X : Nat → Prop) (Z : Nat → Option Value) (ρ : Nat → Value) (a : Act) (w : World), GWm C.gm.m w0 → Gam N w0 Pr X Z ρ st a w → ∀ Q' : Exit → Act → World → Prop, (∀ e a w, Sat N w0 Pr X Z (Q e) a w → Q' e a w) → c.wp P Q' a w
section
variable {P : Program} {C : Cx} {N : Nat} {st st' : St} {Q : Exit → St → Prop}
theorem W_run (hT : TOK P C.T) (hΓ : COk P C) (hm : P.follows .mixedOrders = true) {c : Code} (hc : codeOk C.pl N c = true) (h : run C c st Q) : W P C N c st Q :=
  fun w0 Pr X Z ρ a w hw hg Q' hQ => run_sound hT hΓ hw hm c st Q Q' ρ a w hc hQ hg h
theorem W_le {c : Code} (hl : Le st st') (h : W P C N c st' Q) : W P C N c st Q := fun w0 Pr X Z ρ a w hw hg Q' hQ => by
  obtain ⟨ρ', hg'⟩ := hl _ _ _ _ _ _ _ _ hg
  exact h w0 Pr X Z ρ' a w hw hg' Q' hQ
theorem W_seq {x y : Code} {K : St → Prop} (h1 : W P C N x st (thenQ K Q)) (h2 : ∀ s, K s → W P C N y s Q) : W P C N (x.seq y) st Q := fun w0 Pr X Z ρ a w hw hg Q' hQ => by
  refine wp_seq (h1 w0 Pr X Z ρ a w hw hg _ ?_)
  rintro e a' w' ⟨s, ρ', hk, hg'⟩
  cases e with
  | normal => exact h2 s hk w0 Pr X Z ρ' a' w' hw hg' Q' hQ
  | exit id => exact hQ _ _ _ ⟨s, ρ', hk, hg'⟩
  | goto l => exact hQ _ _ _ ⟨s, ρ', hk, hg'⟩
  | ret => exact hQ _ _ _ ⟨s, ρ', hk, hg'⟩
  | panic ch => exact hQ _ _ _ ⟨s, ρ', hk, hg'⟩
  | outgrown => exact hQ _ _ _ ⟨s, ρ', hk, hg'⟩
/-- A piece that is looked at at once; what follows is left to be shown where it ends. -/
theorem W_pre {x y : Code} (hT : TOK P C.T) (hΓ : COk P C) (hm : P.follows .mixedOrders = true) (hc : codeOk C.pl N x = true) (h : run C x st (thenQ (fun s => W P C N y s Q) Q)) : W P C N (x.seq y) st Q :=
  W_seq (K := fun s => W P C N y s Q) (W_run hT hΓ hm hc h) fun s h => h
theorem W_cond {c : Operand} {x y : Code} {b : Bool} (hb : ev st.env c = .d (.bool b)) (h1 : b = true → W P C N x st Q) (h2 : b = false → W P C N y st Q) : W P C N (.cond c x y) st Q := fun w0 Pr X Z ρ a w hw hg Q' hQ => by
  have hv := ev_G hg c
  rw [hb] at hv
  have hv := Rd.bool hv
  cases b with
  | true => exact wp_cond_true hv (h1 rfl w0 Pr X Z ρ a w hw hg Q' hQ)
  | false => exact wp_cond_false hv (h2 rfl w0 Pr X Z ρ a w hw hg Q' hQ)
theorem W_block {id : Nat} {c : Code} (h : W P C N c st (blockQ id Q)) : W P C N (.block id c) st Q := fun w0 Pr X Z ρ a w hw hg Q' hQ => by
  refine wp_block (h w0 Pr X Z ρ a w hw hg _ ?_)
  rintro e a' w' ⟨s, ρ', hk, hg'⟩
  cases e with
  | normal => exact hQ _ _ _ ⟨s, ρ', hk, hg'⟩
  | exit id' =>
    simp only [blockQ] at hk
    simp only [Exit.inBlock]
    split at hk
    · rename_i e; rw [if_pos e]; exact hQ _ _ _ ⟨s, ρ', hk, hg'⟩
    · rename_i e; rw [if_neg e]; exact hQ _ _ _ ⟨s, ρ', hk, hg'⟩
  | goto l => exact hQ _ _ _ ⟨s, ρ', hk, hg'⟩
  | ret => exact hQ _ _ _ ⟨s, ρ', hk, hg'⟩
  | panic ch => exact hQ _ _ _ ⟨s, ρ', hk, hg'⟩
  | outgrown => exact hQ _ _ _ ⟨s, ρ', hk, hg'⟩
/-- Ways that meet: what is known behind them. -/
def meetQ {α : Type} (os : α → Nat → Option O) (l : α → List (Nat × V)) (R : α → Prop) (Q : Exit → St → Prop) : Exit → St → Prop
  | .normal, s => ∃ x, R x ∧ AtL s.env (l x) ∧ s.os = os x
  | e, s => Q e s
theorem W_meet {x y : Code} {α : Type} (os : α → Nat → Option O) (l : α → List (Nat × V)) (R : α → Prop) (hT : TOK P C.T) (hΓ : COk P C) (hm : P.follows .mixedOrders = true) (hc : codeOk C.pl N (x.seq y) = true)
    (h1 : run C x st (meetQ os l R Q)) (h2 : codeOk C.pl N y = true → ∀ z, R z → W P C N y ⟨envL (l z), os z⟩ Q) : W P C N (x.seq y) st Q := by
  simp only [codeOk, Bool.and_eq_true] at hc
  refine W_seq (K := fun s => ∃ x, R x ∧ AtL s.env (l x) ∧ s.os = os x) (W_run hT hΓ hm hc.1 (run_mono x st _ _ (fun e s h => ?_) h1)) fun s hs => ?_
  · cases e <;> exact h
  · obtain ⟨z, hz, ha, ho⟩ := hs
    refine W_le (Le_envL ha) ?_
    rw [ho]
    exact h2 hc.2 z hz
end
section
variable {α : Type} (os : α → Nat → Option O) (l : α → List (Nat × V)) (R : α → Prop) (Q : Exit → St → Prop) (s : St)
@[go_sem ↓] theorem meetQ_normal : meetQ os l R Q .normal s = ∃ x, R x ∧ AtL s.env (l x) ∧ s.os = os x := rfl
@[go_sem ↓] theorem meetQ_ret : meetQ os l R Q .ret s = Q .ret s := rfl
@[go_sem ↓] theorem meetQ_exit (id : Nat) : meetQ os l R Q (.exit id) s = Q (.exit id) s := rfl
end
/-- A pure function, by pieces. -/
theorem pure_fnW {P : Program} {C : Int → Cx} (hT : ∀ m, TOK P (C m).T) {f : FuncId} {fn : Func} {code : Code} (hf : P.funcs[f]? = some fn) (hb : fn.body = some code) {args : List V} {p : Prop} {r : V} (hn : args.length ≤ fn.ntmps) (hpu : args.all V.pure = true) (hcg : ∀ m, (C m).gm.m = m)
    (h : ∀ m, p → W P (C m) fn.ntmps code (initS args) (Ret (C m) fn.results.toList r)) : PureOk P f args p r := by
  intro w B ρ L vs hB ⟨gm, hgm⟩ hone ha hp
  refine calls_of_wp hf hb ?_
  have hvl : vs.length = args.length := ha.1
  have hg : Gam fn.ntmps w (fun b => b < w.heap.size) (fun b => B b ∨ w.heap.size ≤ b) (fun _ => none) ρ (initS args) { tmps := vs.toArray ++ Array.replicate (fn.ntmps - vs.toArray.size) undef, defers := [] } w := by
    refine ⟨rfl, by simp; omega, fun t => ?_, fun o x h => by simp [initS] at h, fun o o' b h => by simp [initS] at h, hone, fun b hb => rfl, fun o b h => by simp [initS] at h, fun b h => h, Nat.le_refl _, rfl, rfl, rfl, fun b hb => .inr hb, fun o b h => by simp [initS] at h, fun o v h => (by cases h), ⟨⟨gm, hgm⟩, hgm.lt⟩⟩
    have hbk : ∀ b, B b → Bk (fun b => B b ∨ w.heap.size ≤ b) (initS args).os ρ w b := fun b hb => ⟨⟨hB b hb, .inl hb⟩, fun o h => by simp [initS] at h⟩
    by_cases ht : t < args.length
    · have e1 : (initS args).env t = args[t] := by simp [initS, List.getD_eq_getElem?_getD, ht]
      have e2 : (vs.toArray ++ Array.replicate (fn.ntmps - vs.toArray.size) undef).getD t undef = vs[t]'(by omega) := by
        simp [Array.getD_eq_getD_getElem?, Array.getElem?_append, show t < vs.length by omega]
      rw [e1, e2]
      exact ((ha.2 t ht (by omega)).mono hbk (fun _ _ => rfl) (fun _ h => h) (fun _ _ => rfl)).pure ((List.all_eq_true.1 hpu) _ (List.getElem_mem _))
    · have e1 : (initS args).env t = .top := by
        show args.getD t .top = .top
        rw [List.getD_eq_getElem?_getD, List.getElem?_eq_none (by omega)]
        rfl
      rw [e1, G]
      trivial
  refine h gm hp w _ _ _ ρ _ w (by rw [hcg]; exact hgm) hg _ ?_
  rintro e a' w' ⟨st', ρ', ⟨he, hr⟩, hg'⟩
  split at hr
  · rename_i q x hx
    obtain ⟨v, hv, hxv⟩ := resV_run (hT gm) hg' hx hr.1
    have done : a'.defers = [] ∧ ∃ v, (results fn a'.tmps).run P w' = .ok v w' ∧ ∃ v', Ending.returned v = .returned v' ∧ More w w' ∧ G (fun b => B b ∨ (w.heap.size ≤ b ∧ b < w'.heap.size)) w' ρ L r v' := by
      refine ⟨hg'.defers, v, hv, v, rfl, ⟨hg'.grow, hg'.keep, hg'.os', hg'.tape, hg'.output⟩, Fits_G hg' (fun b hb hx => hx.imp id (fun h => ⟨h, hb⟩)) hr.2 hxv⟩
    rcases he with rfl | rfl
    · exact done
    · exact done
  · exact hr.elim
/-- A loop, its rounds by pieces. -/
theorem W_loop {P : Program} {C : Cx} {N : Nat} {st : St} {Q : Exit → St → Prop} {c : Code} {α : Type} (ds : List Nat) (hds : ∀ t ∈ ds, t < 100000) (os : α → Nat → Option O) (l : α → List (Nat × V)) (R : α → Prop) (M : α → Nat) (x0 : α) (hR : R x0) (h0 : AtL (dropAll st ds).env (l x0) ∧ (dropAll st ds).os = os x0)
    (h : ∀ x, R x → W P C N c ⟨envL (l x), os x⟩ (roundO ds os l R M x Q)) : W P C N (.loop c) st Q := fun w0 Pr X Z ρ a w hw hg Q' hQ => by
  have le : ∀ (s : St) (y : α), AtL (dropAll s ds).env (l y) ∧ (dropAll s ds).os = os y → Le s ⟨envL (l y), os y⟩ := fun s y ⟨h1, h2⟩ =>
    Le.trans (Le_dropAll ds s hds) (by rw [← h2]; exact Le_envL h1)
  obtain ⟨ρ0, hg0⟩ := le _ _ h0 _ _ _ _ _ _ _ _ hg
  refine wp_loop_ghost (fun n a w => ∃ x, M x = n ∧ R x ∧ ∃ ρ, Gam N w0 Pr X Z ρ ⟨envL (l x), os x⟩ a w) (M x0) ⟨x0, rfl, hR, ρ0, hg0⟩ ?_
  rintro n a w ⟨x, rfl, hRx, ρ, hgx⟩
  refine h x hRx w0 Pr X Z ρ a w hw hgx _ ?_
  rintro e a' w' ⟨s, ρ', hk, hg'⟩
  cases e with
  | normal =>
    obtain ⟨y, h1, h2, h3⟩ := hk
    exact ⟨M y, h2, y, rfl, h1, le s y h3 _ _ _ _ _ _ _ _ hg'⟩
  | exit id => exact hQ _ _ _ ⟨s, ρ', hk, hg'⟩
  | goto l => exact hQ _ _ _ ⟨s, ρ', hk, hg'⟩
  | ret => exact hQ _ _ _ ⟨s, ρ', hk, hg'⟩
  | panic ch => exact hQ _ _ _ ⟨s, ρ', hk, hg'⟩
  | outgrown => exact hQ _ _ _ ⟨s, ρ', hk, hg'⟩
theorem Le_drop {s : St} {ds : List Nat} {l : List (Nat × V)} {os' : Nat → Option O} (hds : ∀ t ∈ ds, t < 100000) (h : AtL (dropAll s ds).env l ∧ (dropAll s ds).os = os') : Le s ⟨envL l, os'⟩ :=
  Le.trans (Le_dropAll ds s hds) (by rw [← h.2]; exact Le_envL h.1)
theorem Le_st {st : St} {l : List (Nat × V)} {os' : Nat → Option O} (he : AtL st.env l) (ho : st.os = os') : Le st ⟨envL l, os'⟩ := by
  subst ho
  exact Le_envL he
theorem W_st {P : Program} {C : Cx} {N : Nat} {st : St} {Q : Exit → St → Prop} {c : Code} {l : List (Nat × V)} {os' : Nat → Option O} (he : AtL st.env l) (ho : st.os = os') (h : W P C N c ⟨envL l, os'⟩ Q) : W P C N c st Q := W_le (Le_envL he) (by rw [ho]; exact h)
/-- A row is seen as data from here on. -/
theorem Le_frz {st : St} {l : List (Nat × V)} {os' : Nat → Option O} (o : Nat) {rows : List (List D)} {m : Nat} {e : TypeId} (ho : st.os o = some (.row rows m e)) (he : AtL (fun t => (st.env t).frz o (.sl m rows)) l)
    (hos : (fun o' => if o' = o then none else (st.os o').map (O.frz o (.sl m rows))) = os') : Le st ⟨envL l, os'⟩ := by
  have e1 : st.frz o = ⟨fun t => (st.env t).frz o (.sl m rows), os'⟩ := by unfold St.frz; rw [ho]; simp only [hos]
  have h1 : Le st (st.frz o) := fun N w0 Pr X Z ρ a w hg => ⟨ρ, hg.frz o⟩
  refine Le.trans h1 ?_
  rw [e1]
  exact Le_envL he
theorem Le_nil {st : St} {t m : Nat} (ht : st.env t = .nil) : Le st ⟨upd st.env t (.d (.sl m [])), st.os⟩ := fun N w0 Pr X Z ρ a w hg => by
  refine ⟨ρ, hg.defers, hg.size, fun t' => ?_, hg.obj, hg.inj, hg.one, hg.keep, hg.prot, hg.low, hg.grow, hg.os', hg.tape, hg.output, hg.hX, hg.xo, hg.fix, hg.gp⟩
  by_cases c : t' = t
  · subst c
    have := hg.env t'
    rw [ht, G] at this
    show G _ _ _ _ (upd st.env t' _ t') _
    rw [upd_same, G, Rd, this]
    exact ⟨none, 0, rfl, Nat.le_refl _, Nat.zero_le _, fun _ => rfl, fun i h => by simp at h, fun h => absurd rfl h⟩
  · show G _ _ _ _ (upd st.env t _ t') _
    rw [upd_ne _ _ c]
    exact hg.env t'
theorem Le_nilL {st : St} {l : List (Nat × V)} {os' : Nat → Option O} (t m : Nat) (ht : st.env t = .nil) (he : AtL (upd st.env t (.d (.sl m []))) l) (ho : st.os = os') : Le st ⟨envL l, os'⟩ := by
  subst ho
  exact Le.trans (Le_nil ht) (Le_envL he)
/-- A slice that grows from nil: nil ahead of the first element, then a row. -/
def grownV (t : Nat) : Nat → V
  | 0 => .nil
  | _ + 1 => .row t
def grownO (base : Nat → Option O) (t m : Nat) (e : TypeId) (rows : Nat → List (List D)) : Nat → Nat → Option O
  | 0 => base
  | i + 1 => upd base t (some (.row (rows (i + 1)) m e))
@[go_sem ↓] theorem grownV_0 (t : Nat) : grownV t 0 = .nil := rfl
@[go_sem ↓] theorem grownV_s (t i : Nat) : grownV t (i + 1) = .row t := rfl
@[go_sem ↓] theorem grownO_0 (base : Nat → Option O) (t m : Nat) (e : TypeId) (rows : Nat → List (List D)) : grownO base t m e rows 0 = base := rfl
@[go_sem ↓] theorem grownO_s (base : Nat → Option O) (t m : Nat) (e : TypeId) (rows : Nat → List (List D)) (i : Nat) : grownO base t m e rows (i + 1) = upd base t (some (.row (rows (i + 1)) m e)) := rfl
/-- What has grown is seen as data. -/
theorem Le_grown {st : St} {l : List (Nat × V)} {base : Nat → Option O} {t m : Nat} {e : TypeId} {rows : Nat → List (List D)} {i v : Nat} {os' : Nat → Option O} (hv : st.env v = grownV t i) (ho : st.os = grownO base t m e rows i) (h0 : rows 0 = [])
    (he : ∀ j, i = j + 1 → AtL (fun u => (st.env u).frz t (.sl m (rows i))) l) (hn : i = 0 → AtL (upd st.env v (.d (.sl m []))) l) (hb : base = os') (hf : (fun o' => if o' = t then none else (base o').map (O.frz t (.sl m (rows i)))) = os') : Le st ⟨envL l, os'⟩ := by
  cases i with
  | zero => exact Le_nilL v m hv (hn rfl) (ho.trans hb)
  | succ j =>
    refine Le_frz t (rows := rows (j + 1)) (m := m) (e := e) (by rw [ho, grownO_s, upd_same]) (he j rfl) ?_
    rw [ho, grownO_s, ← hf]
    funext o'
    by_cases c : o' = t
    · simp only [if_pos c]
    · simp only [if_neg c, upd_ne _ _ c]
/-- Contracts of a function at two closures. -/
def cloIs (g : FuncId) : List V → Bool
  | [_, .fnc g' _] => Nat.beq g' g
  | _ => false
def Ent.clo {P : Program} (g : FuncId) (a b : Ent P) (h : b.f = a.f) : Ent P := ⟨a.f, fun args => if cloIs g args then a.c args else b.c args, fun args p r hc => by
  split at hc
  · exact a.ok args p r hc
  · exact h ▸ b.ok args p r hc⟩
@[go_sem ↓] theorem pv_makeFunc {C : Cx} {st : St} (f : FuncId) (caps : Array Operand) : pureV C st (.makeFunc (.func f) #[] caps) = some (True, if caps.size = 0 then .d (.fn f) else .fnc f (caps.toList.map (ev st.env))) := pv_eq rfl rfl
end Go.Proofs.YtgnnakibcjonbaaGreatDoor.VE

/- Chapter 16: fieldErr. -/
namespace Go.Proofs.YtgnnakibcjonbaaGreatDoor.VE
open Go Go.RowKit
set_option maxRecDepth 100000
set_option linter.unusedSimpArgs false
set_option linter.unusedVariables false
theorem fieldErr_at {l : List Ly} {x : Ly} {f : Fd} {i k : Int} (hx : l[i.toNat]? = some x) (hf : x.fields[k.toNat]? = some f) : fieldErr l i k =
      if !isNm f.name then 7 else if (x.fields.take k.toNat).any (fun y => sEq y.name f.name) then 13 else if !within f.kind 0 7 then 4 else
      if fieldForm x f then 5 else if fieldRange f then 3 else if f.signed && f.purpose != 0 then 5 else
      if (usedOf f).any (fun n => !within n 0 (i - 1)) then 11 else if (usedOf f).any (fun n => lowAt l n != x.lowBits) then 15 else
      if f.kind = 7 ∧ choicesErr f.choices ≠ 0 then choicesErr f.choices else if named f = true ∧ purposeErr x k ≠ 0 then purposeErr x k else
      if isSized f && !(x.fields.take k.toNat).any (fun y => named y && sEq y.for_ f.name) then 22 else 0 := by
  unfold fieldErr
  rw [hx]
  dsimp only
  rw [hf]

noncomputable def E113x : Ent Tryz.prog := Ent.clo 114 E113_114 E113_123 rfl
@[go_sem ↓] theorem E113x_f : E113x.f = 113 := rfl
@[go_sem ↓] theorem E113x_114 (x : V) (caps : List V) : E113x.c [x, .fnc 114 caps] = E113_114.c [x, .fnc 114 caps] := rfl
@[go_sem ↓] theorem E113x_123 (x : V) (caps : List V) : E113x.c [x, .fnc 123 caps] = E113_123.c [x, .fnc 123 caps] := rfl
noncomputable def E117x : Ent Tryz.prog := Ent.clo 118 E117_118 E117_119 rfl
@[go_sem ↓] theorem E117x_f : E117x.f = 117 := rfl
@[go_sem ↓] theorem E117x_118 (x : V) (caps : List V) : E117x.c [x, .fnc 118 caps] = E117_118.c [x, .fnc 118 caps] := rfl
@[go_sem ↓] theorem E117x_119 (x : V) (caps : List V) : E117x.c [x, .fnc 119 caps] = E117_119.c [x, .fnc 119 caps] := rfl
theorem t66 (l : List Ly) (i : Int) (k : Int) : PureOk Tryz.prog 66 [.d (.sl 3 (l.map encLy)), .d (.int .i64 i), .d (.int .i64 k)] (0 ≤ i ∧ i < l.length ∧ l.length ≤ 1000 ∧ ∀ x, l[i.toNat]? = some x → 0 ≤ k ∧ k < x.fields.length ∧ x.fields.length ≤ 1000 ∧ ∀ f, x.fields[k.toNat]? = some f → f.choices.length ≤ 1000) (.d (.int .i64 (fieldErr l i k))) := by
  refine pure_fnW (C := fun gm => ⟨T, gam [E112, E63, E113x, E115, E116, E117x, E120, E121, E122], dam (P := Tryz.prog) [], plT [], ⟨gm, fun _ _ => none⟩⟩) (fun _ => tok) Tryz.func66 rfl (Nat.le_of_ble_eq_true rfl) rfl (fun m => rfl) fun gm hp => ?_
  obtain ⟨i0, i1, l1, hx0⟩ := hp
  obtain ⟨x, hx⟩ : ∃ x, l[i.toNat]? = some x := ⟨_, List.getElem?_eq_getElem (by omega)⟩
  obtain ⟨k0, k1, x1, hf0⟩ := hx0 x hx
  obtain ⟨f, hf⟩ : ∃ f, x.fields[k.toNat]? = some f := ⟨_, List.getElem?_eq_getElem (by omega)⟩
  have c1 := hf0 f hf
  clear hx0 hf0
  have hg1 : (l.map encLy).getD i.toNat [] = encLy x := by rw [List.getD_eq_getElem?_getD, List.getElem?_map, hx]; rfl
  have hg2 : (x.fields.map encFd).getD k.toNat [] = encFd f := by rw [List.getD_eq_getElem?_getD, List.getElem?_map, hf]; rfl
  unfold Tryz.f66
  refine W_pre tok (cok T _ _ _ gm) mixed (by kernel_rfl) ?_
  simp only [go_sem, ↓reduceIte, Nat.reduceEqDiff, reduceCtorEq, Nat.reduceAdd, Nat.reduceLeDiff, Nat.reduceSub, Nat.reduceMul, Nat.reduceMod, Nat.reduceLT, asD, asD1, cellDs, cellD, V.scal, D.scal, ← List.map_take, ← List.map_drop, List.drop_zero, List.map_cons, List.map_nil, idxV, hg1, hg2, encLy, encFd, List.length_map, List.drop, thenQ]
  refine W_pre tok (cok T _ _ _ gm) mixed (by kernel_rfl) ?_
  simp only [go_sem, ↓reduceIte, Nat.reduceEqDiff, reduceCtorEq, Nat.reduceAdd, Nat.reduceLeDiff, Nat.reduceSub, Nat.reduceMul, Nat.reduceMod, Nat.reduceLT, asD, asD1, cellDs, cellD, V.scal, D.scal, ← List.map_take, ← List.map_drop, List.drop_zero, List.map_cons, List.map_nil, idxV, hg1, hg2, encLy, encFd, List.length_map, List.drop, thenQ]
  refine ⟨⟨i0, i1⟩, fun a ha => ?_⟩
  obtain rfl := Option.some.inj (hx.symm.trans ha)
  refine W_pre tok (cok T _ _ _ gm) mixed (by kernel_rfl) ?_
  simp only [go_sem, ↓reduceIte, Nat.reduceEqDiff, reduceCtorEq, Nat.reduceAdd, Nat.reduceLeDiff, Nat.reduceSub, Nat.reduceMul, Nat.reduceMod, Nat.reduceLT, asD, asD1, cellDs, cellD, V.scal, D.scal, ← List.map_take, ← List.map_drop, List.drop_zero, List.map_cons, List.map_nil, idxV, hg1, hg2, encLy, encFd, List.length_map, List.drop, thenQ]
  refine ⟨⟨k0, k1⟩, fun a hb => ?_⟩
  obtain rfl := Option.some.inj (hf.symm.trans hb)
  refine W_pre tok (cok T _ _ _ gm) mixed (by kernel_rfl) ?_
  simp only [go_sem, ↓reduceIte, Nat.reduceEqDiff, reduceCtorEq, Nat.reduceAdd, Nat.reduceLeDiff, Nat.reduceSub, Nat.reduceMul, Nat.reduceMod, Nat.reduceLT, asD, asD1, cellDs, cellD, V.scal, D.scal, ← List.map_take, ← List.map_drop, List.drop_zero, List.map_cons, List.map_nil, idxV, hg1, hg2, encLy, encFd, List.length_map, List.drop, thenQ]
  refine W_pre tok (cok T _ _ _ gm) mixed (by kernel_rfl) ?_
  simp only [go_sem, ↓reduceIte, Nat.reduceEqDiff, reduceCtorEq, Nat.reduceAdd, Nat.reduceLeDiff, Nat.reduceSub, Nat.reduceMul, Nat.reduceMod, Nat.reduceLT, asD, asD1, cellDs, cellD, V.scal, D.scal, ← List.map_take, ← List.map_drop, List.drop_zero, List.map_cons, List.map_nil, idxV, hg1, hg2, encLy, encFd, List.length_map, List.drop, thenQ]
  have eF := fieldErr_at hx hf
  refine W_st (l := [(2, .d (.int .i64 k)), (3, .ptr 3 0), (4, .ptr 4 0), (7, .ptr 7 0), (8, .ptr 8 0), (9, .d (.bool (f.kind == 0))), (10, .d (.int .i64 (widths f.kind).1)), (11, .d (.int .i64 (widths f.kind).2))]) (os' := osL [(3, .box [.d (.sl 3 (l.map encLy))] 22), (4, .box [.d (.int .i64 i)] 3), (7, .box [.d (.str x.name), .d (.sl 9 (x.fields.map encFd)), .d (.bool x.lowBits)] 37), (8, .box ((encFd f).map .d) 49)]) ⟨rfl, rfl, rfl, rfl, rfl, rfl, rfl, rfl, trivial⟩ (by funext o; by_cases h8 : o = 8 <;> by_cases h7 : o = 7 <;> by_cases h4 : o = 4 <;> by_cases h3 : o = 3 <;> simp [osL, upd, encFd, h8, h7, h4, h3]) ?_
  refine W_seq (K := fun s => (isNm f.name = true ∧ (x.fields.take k.toNat).any (fun y => sEq y.name f.name) = false ∧ within f.kind 0 7 = true ∧ fieldForm x f = false ∧ fieldRange f = false ∧ (f.signed && f.purpose != 0) = false) ∧ AtL s.env [(2, .d (.int .i64 k)), (3, .ptr 3 0), (4, .ptr 4 0), (7, .ptr 7 0), (8, .ptr 8 0)] ∧ s.os = osL [(3, .box [.d (.sl 3 (l.map encLy))] 22), (4, .box [.d (.int .i64 i)] 3), (7, .box [.d (.str x.name), .d (.sl 9 (x.fields.map encFd)), .d (.bool x.lowBits)] 37), (8, .box ((encFd f).map .d) 49)]) ?_ fun s hs => ?_
  · refine W_block ?_
    refine W_pre tok (cok T _ _ _ gm) mixed (by kernel_rfl) ?_
    simp only [go_sem, ↓reduceIte, Nat.reduceEqDiff, reduceCtorEq, Nat.reduceAdd, Nat.reduceLeDiff, Nat.reduceSub, Nat.reduceMul, Nat.reduceMod, Nat.reduceLT, asD, asD1, cellDs, cellD, V.scal, D.scal, ← List.map_take, ← List.map_drop, List.drop_zero, List.map_cons, List.map_nil, idxV, hg1, hg2, encLy, encFd, List.length_map, List.drop, thenQ]
    refine W_cond (b := !isNm f.name) rfl (fun h => ?_) fun h => ?_
    · refine W_run tok (cok T _ _ _ gm) mixed (by kernel_rfl) ?_
      simp only [go_sem, ↓reduceIte, Nat.reduceEqDiff, reduceCtorEq, Nat.reduceAdd, Nat.reduceLeDiff, Nat.reduceSub, Nat.reduceMul, Nat.reduceMod, Nat.reduceLT, asD, asD1, cellDs, cellD, V.scal, D.scal, ← List.map_take, ← List.map_drop, List.drop_zero, List.map_cons, List.map_nil, idxV, hg1, hg2, encLy, encFd, List.length_map, List.drop, thenQ]
      rw [eF, if_pos h]
    rw [if_neg (by simpa using h)] at eF
    refine W_pre tok (cok T _ _ _ gm) mixed (by kernel_rfl) ?_
    simp only [go_sem, ↓reduceIte, Nat.reduceEqDiff, reduceCtorEq, Nat.reduceAdd, Nat.reduceLeDiff, Nat.reduceSub, Nat.reduceMul, Nat.reduceMod, Nat.reduceLT, asD, asD1, cellDs, cellD, V.scal, D.scal, ← List.map_take, ← List.map_drop, List.drop_zero, List.map_cons, List.map_nil, idxV, hg1, hg2, encLy, encFd, List.length_map, List.drop, thenQ]
    refine ⟨⟨k0, by omega, by omega⟩, ?_⟩
    refine W_cond (b := (x.fields.take k.toNat).any fun y => sEq y.name f.name) rfl (fun h2 => ?_) fun h2 => ?_
    · refine W_run tok (cok T _ _ _ gm) mixed (by kernel_rfl) ?_
      simp only [go_sem, ↓reduceIte, Nat.reduceEqDiff, reduceCtorEq, Nat.reduceAdd, Nat.reduceLeDiff, Nat.reduceSub, Nat.reduceMul, Nat.reduceMod, Nat.reduceLT, asD, asD1, cellDs, cellD, V.scal, D.scal, ← List.map_take, ← List.map_drop, List.drop_zero, List.map_cons, List.map_nil, idxV, hg1, hg2, encLy, encFd, List.length_map, List.drop, thenQ]
      rw [eF, if_pos h2]
    rw [if_neg (by simpa using h2)] at eF
    refine W_pre tok (cok T _ _ _ gm) mixed (by kernel_rfl) ?_
    simp only [go_sem, ↓reduceIte, Nat.reduceEqDiff, reduceCtorEq, Nat.reduceAdd, Nat.reduceLeDiff, Nat.reduceSub, Nat.reduceMul, Nat.reduceMod, Nat.reduceLT, asD, asD1, cellDs, cellD, V.scal, D.scal, ← List.map_take, ← List.map_drop, List.drop_zero, List.map_cons, List.map_nil, idxV, hg1, hg2, encLy, encFd, List.length_map, List.drop, thenQ]
    refine W_cond (b := !within f.kind 0 7) rfl (fun h3 => ?_) fun h3 => ?_
    · refine W_run tok (cok T _ _ _ gm) mixed (by kernel_rfl) ?_
      simp only [go_sem, ↓reduceIte, Nat.reduceEqDiff, reduceCtorEq, Nat.reduceAdd, Nat.reduceLeDiff, Nat.reduceSub, Nat.reduceMul, Nat.reduceMod, Nat.reduceLT, asD, asD1, cellDs, cellD, V.scal, D.scal, ← List.map_take, ← List.map_drop, List.drop_zero, List.map_cons, List.map_nil, idxV, hg1, hg2, encLy, encFd, List.length_map, List.drop, thenQ]
      rw [eF, if_pos h3]
    rw [if_neg (by simpa using h3)] at eF
    refine W_meet (α := Unit) (fun _ => osL [(3, .box [.d (.sl 3 (l.map encLy))] 22), (4, .box [.d (.int .i64 i)] 3), (7, .box [.d (.str x.name), .d (.sl 9 (x.fields.map encFd)), .d (.bool x.lowBits)] 37), (8, .box ((encFd f).map .d) 49)]) (fun _ => [(2, .d (.int .i64 k)), (3, .ptr 3 0), (4, .ptr 4 0), (7, .ptr 7 0), (8, .ptr 8 0), (10, .d (.int .i64 (widths f.kind).1)), (11, .d (.int .i64 (widths f.kind).2)), (52, .d (.bool (fieldForm x f)))]) (fun _ => True) tok (cok T _ _ _ gm) mixed (by kernel_rfl) ?_ fun hc z _ => ?_
    · clear eF
      simp only [go_sem, ↓reduceIte, Nat.reduceEqDiff, reduceCtorEq, Nat.reduceAdd, Nat.reduceLeDiff, Nat.reduceSub, Nat.reduceMul, Nat.reduceMod, Nat.reduceLT, asD, asD1, cellDs, cellD, V.scal, D.scal, ← List.map_take, ← List.map_drop, List.drop_zero, List.map_cons, List.map_nil, idxV, hg1, hg2, encLy, encFd, List.length_map, List.drop, thenQ]
      unfold fieldForm named
      generalize decide (0 < (f.choices.length : Int)) = q1
      generalize sEq f.for_ _ = q2
      generalize (widths f.kind).2 = q3
      clear hx hf hg1 hg2 ha hb h h2 h3
      repeat' (first | intro _ | apply And.intro)
      all_goals first | (simp_all; done) | (refine ⟨(), congrArg (fun b => V.d (D.bool b)) ?_⟩; grind)
    refine W_cond (b := fieldForm x f) rfl (fun h4 => ?_) fun h4 => ?_
    · refine W_run tok (cok T _ _ _ gm) mixed (by kernel_rfl) ?_
      simp only [go_sem, ↓reduceIte, Nat.reduceEqDiff, reduceCtorEq, Nat.reduceAdd, Nat.reduceLeDiff, Nat.reduceSub, Nat.reduceMul, Nat.reduceMod, Nat.reduceLT, asD, asD1, cellDs, cellD, V.scal, D.scal, ← List.map_take, ← List.map_drop, List.drop_zero, List.map_cons, List.map_nil, idxV, hg1, hg2, encLy, encFd, List.length_map, List.drop, thenQ]
      rw [eF, if_pos h4]
    rw [if_neg (by simpa using h4)] at eF
    clear hc
    refine W_meet (α := Unit) (fun _ => osL [(3, .box [.d (.sl 3 (l.map encLy))] 22), (4, .box [.d (.int .i64 i)] 3), (7, .box [.d (.str x.name), .d (.sl 9 (x.fields.map encFd)), .d (.bool x.lowBits)] 37), (8, .box ((encFd f).map .d) 49)]) (fun _ => [(2, .d (.int .i64 k)), (3, .ptr 3 0), (4, .ptr 4 0), (7, .ptr 7 0), (8, .ptr 8 0), (111, .d (.bool (fieldRange f)))]) (fun _ => True) tok (cok T _ _ _ gm) mixed (by kernel_rfl) ?_ fun hc z _ => ?_
    · clear eF
      simp only [go_sem, ↓reduceIte, Nat.reduceEqDiff, reduceCtorEq, Nat.reduceAdd, Nat.reduceLeDiff, Nat.reduceSub, Nat.reduceMul, Nat.reduceMod, Nat.reduceLT, asD, asD1, cellDs, cellD, V.scal, D.scal, ← List.map_take, ← List.map_drop, List.drop_zero, List.map_cons, List.map_nil, idxV, hg1, hg2, encLy, encFd, List.length_map, List.drop, thenQ]
      unfold fieldRange
      generalize within f.width _ _ = q1
      generalize within f.purpose _ _ = q2
      clear hx hf hg1 hg2 ha hb h h2 h3 h4
      repeat' (first | intro _ | apply And.intro)
      all_goals first | (simp_all; done) | (refine ⟨(), congrArg (fun b => V.d (D.bool b)) ?_⟩; grind)
    refine W_cond (b := fieldRange f) rfl (fun h5 => ?_) fun h5 => ?_
    · refine W_run tok (cok T _ _ _ gm) mixed (by kernel_rfl) ?_
      simp only [go_sem, ↓reduceIte, Nat.reduceEqDiff, reduceCtorEq, Nat.reduceAdd, Nat.reduceLeDiff, Nat.reduceSub, Nat.reduceMul, Nat.reduceMod, Nat.reduceLT, asD, asD1, cellDs, cellD, V.scal, D.scal, ← List.map_take, ← List.map_drop, List.drop_zero, List.map_cons, List.map_nil, idxV, hg1, hg2, encLy, encFd, List.length_map, List.drop, thenQ]
      rw [eF, if_pos h5]
    rw [if_neg (by simpa using h5)] at eF
    clear hc
    refine W_pre tok (cok T _ _ _ gm) mixed (by kernel_rfl) ?_
    simp only [go_sem, ↓reduceIte, Nat.reduceEqDiff, reduceCtorEq, Nat.reduceAdd, Nat.reduceLeDiff, Nat.reduceSub, Nat.reduceMul, Nat.reduceMod, Nat.reduceLT, asD, asD1, cellDs, cellD, V.scal, D.scal, ← List.map_take, ← List.map_drop, List.drop_zero, List.map_cons, List.map_nil, idxV, hg1, hg2, encLy, encFd, List.length_map, List.drop, thenQ]
    refine W_cond (b := bif f.signed then f.purpose != 0 else false) rfl (fun h6 => ?_) fun h6 => ?_
    · refine W_run tok (cok T _ _ _ gm) mixed (by kernel_rfl) ?_
      simp only [go_sem, ↓reduceIte, Nat.reduceEqDiff, reduceCtorEq, Nat.reduceAdd, Nat.reduceLeDiff, Nat.reduceSub, Nat.reduceMul, Nat.reduceMod, Nat.reduceLT, asD, asD1, cellDs, cellD, V.scal, D.scal, ← List.map_take, ← List.map_drop, List.drop_zero, List.map_cons, List.map_nil, idxV, hg1, hg2, encLy, encFd, List.length_map, List.drop, thenQ]
      rw [eF, if_pos (by simpa using h6)]
    refine W_run tok (cok T _ _ _ gm) mixed (by kernel_rfl) ?_
    simp only [go_sem, ↓reduceIte, Nat.reduceEqDiff, reduceCtorEq, Nat.reduceAdd, Nat.reduceLeDiff, Nat.reduceSub, Nat.reduceMul, Nat.reduceMod, Nat.reduceLT, asD, asD1, cellDs, cellD, V.scal, D.scal, ← List.map_take, ← List.map_drop, List.drop_zero, List.map_cons, List.map_nil, idxV, hg1, hg2, encLy, encFd, List.length_map, List.drop, thenQ]
    exact ⟨by simpa using h, h2, by simpa using h3, h4, h5, by simpa using h6⟩
  obtain ⟨⟨n1, n2, n3, n4, n5, n6⟩, he, ho⟩ := hs
  rw [if_neg (by simpa using n1), if_neg (by simpa using n2), if_neg (by simpa using n3), if_neg (by simpa using n4), if_neg (by simpa using n5), if_neg (by simpa using n6)] at eF
  refine W_st he ho ?_
  refine W_pre tok (cok T _ _ _ gm) mixed (by kernel_rfl) ?_
  simp only [go_sem, ↓reduceIte, Nat.reduceEqDiff, reduceCtorEq, Nat.reduceAdd, Nat.reduceLeDiff, Nat.reduceSub, Nat.reduceMul, Nat.reduceMod, Nat.reduceLT, asD, asD1, cellDs, cellD, V.scal, D.scal, ← List.map_take, ← List.map_drop, List.drop_zero, List.map_cons, List.map_nil, idxV, hg1, hg2, encLy, encFd, List.length_map, List.drop, thenQ]
  refine W_seq (K := fun s => Le s ⟨envL [(2, .d (.int .i64 k)), (3, .ptr 3 0), (4, .ptr 4 0), (7, .ptr 7 0), (8, .ptr 8 0), (12, .d (.sl 1 ((usedOf f).map encI)))], osL [(3, .box [.d (.sl 3 (l.map encLy))] 22), (4, .box [.d (.int .i64 i)] 3), (7, .box [.d (.str x.name), .d (.sl 9 (x.fields.map encFd)), .d (.bool x.lowBits)] 37), (8, .box ((encFd f).map .d) 49)]⟩) ?_ fun s hs => W_le hs ?_
  · refine W_pre tok (cok T _ _ _ gm) mixed (by kernel_rfl) ?_
    simp only [go_sem, ↓reduceIte, Nat.reduceEqDiff, reduceCtorEq, Nat.reduceAdd, Nat.reduceLeDiff, Nat.reduceSub, Nat.reduceMul, Nat.reduceMod, Nat.reduceLT, asD, asD1, cellDs, cellD, V.scal, D.scal, ← List.map_take, ← List.map_drop, List.drop_zero, List.map_cons, List.map_nil, idxV, hg1, hg2, encLy, encFd, List.length_map, List.drop, thenQ]
    refine W_block ?_
    refine W_meet (α := Unit) (fun _ => osL [(3, .box [.d (.sl 3 (l.map encLy))] 22), (4, .box [.d (.int .i64 i)] 3), (7, .box [.d (.str x.name), .d (.sl 9 (x.fields.map encFd)), .d (.bool x.lowBits)] 37), (8, .box ((encFd f).map .d) 49)]) (fun _ => [(2, .d (.int .i64 k)), (3, .ptr 3 0), (4, .ptr 4 0), (7, .ptr 7 0), (8, .ptr 8 0), (12, .nil), (139, .d (.int .i64 f.kind)), (140, .d (.bool (f.kind == 5 || f.kind == 6)))]) (fun _ => True) tok (cok T _ _ _ gm) mixed (by kernel_rfl) ?_ fun hc z _ => ?_
    · clear eF
      simp only [go_sem, ↓reduceIte, Nat.reduceEqDiff, reduceCtorEq, Nat.reduceAdd, Nat.reduceLeDiff, Nat.reduceSub, Nat.reduceMul, Nat.reduceMod, Nat.reduceLT, asD, asD1, cellDs, cellD, V.scal, D.scal, ← List.map_take, ← List.map_drop, List.drop_zero, List.map_cons, List.map_nil, idxV, hg1, hg2, encLy, encFd, List.length_map, List.drop, thenQ]
      refine ⟨fun h => ?_, fun h => ?_⟩ <;> exact ⟨(), by simp [h]⟩
    clear hc
    refine W_cond (b := f.kind == 5 || f.kind == 6) rfl (fun h => ?_) fun h => ?_
    · refine W_run tok (cok T _ _ _ gm) mixed (by kernel_rfl) ?_
      simp only [go_sem, ↓reduceIte, Nat.reduceEqDiff, reduceCtorEq, Nat.reduceAdd, Nat.reduceLeDiff, Nat.reduceSub, Nat.reduceMul, Nat.reduceMod, Nat.reduceLT, asD, asD1, cellDs, cellD, V.scal, D.scal, ← List.map_take, ← List.map_drop, List.drop_zero, List.map_cons, List.map_nil, idxV, hg1, hg2, encLy, encFd, List.length_map, List.drop, thenQ]
      have hu : usedOf f = [f.of] := by unfold usedOf; rw [if_pos (by simpa using h)]
      exact Le_frz 147 (rows := [[.int .i64 f.of]]) (m := 1) (e := 3) rfl (by simp only [hu]; exact ⟨rfl, rfl, rfl, rfl, rfl, rfl, trivial⟩) (by funext o; by_cases h8 : o = 8 <;> by_cases h7 : o = 7 <;> by_cases h4 : o = 4 <;> by_cases h3 : o = 3 <;> by_cases h1 : o = 147 <;> simp [osL, upd, O.frz, V.frz, V.frzs_eq, h8, h7, h4, h3, h1])
    · refine W_pre tok (cok T _ _ _ gm) mixed (by kernel_rfl) ?_
      simp only [go_sem, ↓reduceIte, Nat.reduceEqDiff, reduceCtorEq, Nat.reduceAdd, Nat.reduceLeDiff, Nat.reduceSub, Nat.reduceMul, Nat.reduceMod, Nat.reduceLT, asD, asD1, cellDs, cellD, V.scal, D.scal, ← List.map_take, ← List.map_drop, List.drop_zero, List.map_cons, List.map_nil, idxV, hg1, hg2, encLy, encFd, List.length_map, List.drop, thenQ]
      refine W_cond (b := f.kind == 7) rfl (fun h7 => ?_) fun h7 => ?_
      · refine W_run tok (cok T _ _ _ gm) mixed (by kernel_rfl) ?_
        simp only [go_sem, ↓reduceIte, Nat.reduceEqDiff, reduceCtorEq, Nat.reduceAdd, Nat.reduceLeDiff, Nat.reduceSub, Nat.reduceMul, Nat.reduceMod, Nat.reduceLT, asD, asD1, cellDs, cellD, V.scal, D.scal, ← List.map_take, ← List.map_drop, List.drop_zero, List.map_cons, List.map_nil, idxV, hg1, hg2, encLy, encFd, List.length_map, List.drop, thenQ]
        have h5 : ¬ (f.kind = 5 ∨ f.kind = 6) := by simpa using h
        have hu : usedOf f = f.choices.map (·.of) := by unfold usedOf; rw [if_neg h5, if_pos (by simpa using h7)]
        refine loop_objs [14] (by simp) (fun n : Nat => grownO (osL [(3, .box [.d (.sl 3 (l.map encLy))] 22), (4, .box [.d (.int .i64 i)] 3), (7, .box [.d (.str x.name), .d (.sl 9 (x.fields.map encFd)), .d (.bool x.lowBits)] 37), (8, .box ((encFd f).map .d) 49)]) 161 1 3 (fun n => ((f.choices.take n).map (·.of)).map encI) n) (fun n => [(2, .d (.int .i64 k)), (3, .ptr 3 0), (4, .ptr 4 0), (7, .ptr 7 0), (8, .ptr 8 0), (12, grownV 161 n), (151, .d (.sl 3 (f.choices.map encCh))), (152, .d (.int .i64 f.choices.length)), (153, .d (.int .i64 (n : Int)))]) (fun n => n ≤ f.choices.length) (fun n => f.choices.length - n) 0 (Nat.zero_le _) ?_ fun n hn => ?_
        · simp only [go_sem, ↓reduceIte, Nat.reduceEqDiff, reduceCtorEq, Nat.reduceAdd, Nat.reduceLeDiff, Nat.reduceSub, Nat.reduceMul, Nat.reduceMod, Nat.reduceLT, asD, asD1, cellDs, cellD, V.scal, D.scal, ← List.map_take, ← List.map_drop, List.drop_zero, List.map_cons, List.map_nil, idxV, hg1, hg2, encLy, encFd, List.length_map, List.drop, thenQ]
          have ht := True.intro
          exact ⟨rfl, (by funext o; by_cases h8 : o = 8 <;> by_cases h7 : o = 7 <;> by_cases h4 : o = 4 <;> by_cases h3 : o = 3 <;> by_cases h14 : o = 14 <;> by_cases h161 : o = 161 <;> simp [osL, upd, O.kill, V.kill, encI, ht, -List.map_take, h8, h7, h4, h3, h14, h161])⟩
        · have step : n < f.choices.length → ∀ a, f.choices[(n : Int).toNat]? = some a → f.choices.take (n + 1) = f.choices.take n ++ [a] := fun h a ha => by
            rw [Int.toNat_natCast] at ha
            rw [List.take_add_one, ha]; rfl
          cases n with
          | zero =>
            simp only [go_sem, ↓reduceIte, Nat.reduceEqDiff, reduceCtorEq, Nat.reduceAdd, Nat.reduceLeDiff, Nat.reduceSub, Nat.reduceMul, Nat.reduceMod, Nat.reduceLT, asD, asD1, cellDs, cellD, V.scal, D.scal, ← List.map_take, ← List.map_drop, List.drop_zero, List.map_cons, List.map_nil, idxV, hg1, hg2, encLy, encFd, List.length_map, List.drop, thenQ]
            refine ⟨fun h => ⟨⟨by omega, of_decide_eq_true h⟩, fun a ha => ?_⟩, fun h => ?_⟩
            · have h := of_decide_eq_true h
              have ht := step (by omega) a ha
              exact ⟨1, by omega, by omega, ⟨rfl, by rw [wrap_small _ (by omega) (by omega)]; rfl⟩, (by refine Eq.trans ?_ (grownO_s _ _ _ _ _ 0).symm; funext o; by_cases h8 : o = 8 <;> by_cases h7 : o = 7 <;> by_cases h4 : o = 4 <;> by_cases h3 : o = 3 <;> by_cases h14 : o = 14 <;> by_cases h161 : o = 161 <;> simp [osL, upd, O.kill, V.kill, encI, ht, -List.map_take, h8, h7, h4, h3, h14, h161])⟩
            · have h := of_decide_eq_false h
              have hc0 : f.choices = [] := List.eq_nil_of_length_eq_zero (by omega)
              exact Le_nilL 12 1 rfl (by rw [hu, hc0]; exact ⟨rfl, rfl, rfl, rfl, rfl, rfl, trivial⟩) rfl
          | succ j =>
            simp only [go_sem, ↓reduceIte, Nat.reduceEqDiff, reduceCtorEq, Nat.reduceAdd, Nat.reduceLeDiff, Nat.reduceSub, Nat.reduceMul, Nat.reduceMod, Nat.reduceLT, asD, asD1, cellDs, cellD, V.scal, D.scal, ← List.map_take, ← List.map_drop, List.drop_zero, List.map_cons, List.map_nil, idxV, hg1, hg2, encLy, encFd, List.length_map, List.drop, thenQ]
            refine ⟨fun h => ⟨⟨by omega, of_decide_eq_true h⟩, fun a ha => ?_⟩, fun h => ?_⟩
            · have h := of_decide_eq_true h
              have ht := step (by omega) a ha
              refine ⟨⟨by rw [List.length_take]; omega, by rw [List.length_take]; omega⟩, j + 2, by omega, by omega, ⟨rfl, by rw [wrap_small _ (by omega) (by omega)]; rfl⟩, (by refine Eq.trans ?_ (grownO_s _ _ _ _ _ (j + 1)).symm; funext o; by_cases h8 : o = 8 <;> by_cases h7 : o = 7 <;> by_cases h4 : o = 4 <;> by_cases h3 : o = 3 <;> by_cases h14 : o = 14 <;> by_cases h161 : o = 161 <;> simp [osL, upd, O.kill, V.kill, encI, ht, -List.map_take, h8, h7, h4, h3, h14, h161])⟩
            · have h := of_decide_eq_false h
              have hl : f.choices.take (j + 1) = f.choices := List.take_of_length_le (by omega)
              exact Le_frz 161 (rows := ((f.choices.take (j + 1)).map (·.of)).map encI) (m := 1) (e := 3) rfl (by rw [hu, hl]; exact ⟨rfl, rfl, rfl, rfl, rfl, rfl, trivial⟩) (by funext o; by_cases h8 : o = 8 <;> by_cases h7 : o = 7 <;> by_cases h4 : o = 4 <;> by_cases h3 : o = 3 <;> by_cases h1 : o = 161 <;> simp [osL, upd, O.frz, V.frz, V.frzs_eq, h8, h7, h4, h3, h1])
      · refine W_run tok (cok T _ _ _ gm) mixed (by kernel_rfl) ?_
        simp only [go_sem, ↓reduceIte, Nat.reduceEqDiff, reduceCtorEq, Nat.reduceAdd, Nat.reduceLeDiff, Nat.reduceSub, Nat.reduceMul, Nat.reduceMod, Nat.reduceLT, asD, asD1, cellDs, cellD, V.scal, D.scal, ← List.map_take, ← List.map_drop, List.drop_zero, List.map_cons, List.map_nil, idxV, hg1, hg2, encLy, encFd, List.length_map, List.drop, thenQ]
        have h5 : ¬ (f.kind = 5 ∨ f.kind = 6) := by simpa using h
        have hu : usedOf f = [] := by unfold usedOf; rw [if_neg h5, if_neg (by simpa using h7)]
        exact Le_nilL 12 1 rfl (by rw [hu]; exact ⟨rfl, rfl, rfl, rfl, rfl, rfl, trivial⟩) rfl
  clear hs he ho
  refine W_pre tok (cok T _ _ _ gm) mixed (by kernel_rfl) ?_
  simp only [go_sem, ↓reduceIte, Nat.reduceEqDiff, reduceCtorEq, Nat.reduceAdd, Nat.reduceLeDiff, Nat.reduceSub, Nat.reduceMul, Nat.reduceMod, Nat.reduceLT, asD, asD1, cellDs, cellD, V.scal, D.scal, ← List.map_take, ← List.map_drop, List.drop_zero, List.map_cons, List.map_nil, idxV, hg1, hg2, encLy, encFd, List.length_map, List.drop, thenQ]
  have wi : IntKind.i64.wrap (i - 1) = i - 1 := wrap_small _ (by omega) (by omega)
  rw [wi]
  refine ⟨fun h => by rw [eF, if_pos h], fun h => ?_⟩
  rw [if_neg (by rw [h]; simp)] at eF
  have hU : ∀ n ∈ usedOf f, 0 ≤ n ∧ n < (l.length : Int) := fun n hn => by
    have := List.any_eq_false.1 h n hn
    have : within n 0 (i - 1) = true := by simpa using this
    simp only [within, Bool.and_eq_true, decide_eq_true_eq] at this
    omega
  refine W_pre tok (cok T _ _ _ gm) mixed (by kernel_rfl) ?_
  simp only [go_sem, ↓reduceIte, Nat.reduceEqDiff, reduceCtorEq, Nat.reduceAdd, Nat.reduceLeDiff, Nat.reduceSub, Nat.reduceMul, Nat.reduceMod, Nat.reduceLT, asD, asD1, cellDs, cellD, V.scal, D.scal, ← List.map_take, ← List.map_drop, List.drop_zero, List.map_cons, List.map_nil, idxV, hg1, hg2, encLy, encFd, List.length_map, List.drop, thenQ]
  refine ⟨hU, fun h => by rw [eF, if_pos h], fun h => ?_⟩
  rw [if_neg (by rw [h]; simp)] at eF
  refine W_meet (α := Unit) (fun _ => osL [(3, .box [.d (.sl 3 (l.map encLy))] 22), (4, .box [.d (.int .i64 i)] 3), (7, .box [.d (.str x.name), .d (.sl 9 (x.fields.map encFd)), .d (.bool x.lowBits)] 37), (8, .box ((encFd f).map .d) 49)]) (fun _ => [(2, .d (.int .i64 k)), (3, .ptr 3 0), (4, .ptr 4 0), (7, .ptr 7 0), (8, .ptr 8 0)]) (fun _ => ¬ (f.kind = 7 ∧ choicesErr f.choices ≠ 0)) tok (cok T _ _ _ gm) mixed (by kernel_rfl) ?_ fun hc z hz => ?_
  · simp only [go_sem, ↓reduceIte, Nat.reduceEqDiff, reduceCtorEq, Nat.reduceAdd, Nat.reduceLeDiff, Nat.reduceSub, Nat.reduceMul, Nat.reduceMod, Nat.reduceLT, asD, asD1, cellDs, cellD, V.scal, D.scal, ← List.map_take, ← List.map_drop, List.drop_zero, List.map_cons, List.map_nil, idxV, hg1, hg2, encLy, encFd, List.length_map, List.drop, thenQ]
    refine ⟨fun h7 => ⟨fun h8 => ?_, fun h8 => ⟨(), fun h9 => h9.2 (by simpa using h8)⟩⟩, fun h7 => ⟨(), fun h9 => by simp [h9.1] at h7⟩⟩
    rw [eF, if_pos ⟨by simpa using h7, by simpa using h8⟩]
  rw [if_neg hz] at eF
  clear hc hz
  refine W_meet (α := Unit) (fun _ => osL [(3, .box [.d (.sl 3 (l.map encLy))] 22), (4, .box [.d (.int .i64 i)] 3), (7, .box [.d (.str x.name), .d (.sl 9 (x.fields.map encFd)), .d (.bool x.lowBits)] 37), (8, .box ((encFd f).map .d) 49)]) (fun _ => [(2, .d (.int .i64 k)), (3, .ptr 3 0), (4, .ptr 4 0), (7, .ptr 7 0), (8, .ptr 8 0)]) (fun _ => ¬ (named f = true ∧ purposeErr x k ≠ 0)) tok (cok T _ _ _ gm) mixed (by kernel_rfl) ?_ fun hc z hz => ?_
  · simp only [go_sem, ↓reduceIte, Nat.reduceEqDiff, reduceCtorEq, Nat.reduceAdd, Nat.reduceLeDiff, Nat.reduceSub, Nat.reduceMul, Nat.reduceMod, Nat.reduceLT, asD, asD1, cellDs, cellD, V.scal, D.scal, ← List.map_take, ← List.map_drop, List.drop_zero, List.map_cons, List.map_nil, idxV, hg1, hg2, encLy, encFd, List.length_map, List.drop, thenQ]
    refine ⟨fun hn => ⟨⟨k0, k1, x1⟩, fun h8 => ?_, fun h8 => ⟨(), fun h9 => h9.2 (by simpa using h8)⟩⟩, fun hn => ⟨(), fun h9 => by rw [h9.1] at hn; cases hn⟩⟩
    rw [eF, if_pos ⟨hn, by simpa using h8⟩]
  rw [if_neg hz] at eF
  clear hc hz
  refine W_run tok (cok T _ _ _ gm) mixed (by kernel_rfl) ?_
  simp only [go_sem, ↓reduceIte, Nat.reduceEqDiff, reduceCtorEq, Nat.reduceAdd, Nat.reduceLeDiff, Nat.reduceSub, Nat.reduceMul, Nat.reduceMod, Nat.reduceLT, asD, asD1, cellDs, cellD, V.scal, D.scal, ← List.map_take, ← List.map_drop, List.drop_zero, List.map_cons, List.map_nil, idxV, hg1, hg2, encLy, encFd, List.length_map, List.drop, thenQ]
  refine ⟨fun h => ⟨h, k0, by omega, by omega⟩, fun h => ?_, fun h => ?_⟩
  · rw [eF, if_pos (by simpa using h)]
  · rw [eF, if_neg (by rw [← Bool.cond_false_right, h]; simp)]
noncomputable def E66 : Ent Tryz.prog := Ent.of 66 (fnOk Tryz.func66 rfl (by kernel_rfl)) (fun
    | [.d (.sl 3 l), .d (.int .i64 i), .d (.int .i64 k)] => (dec encLy l).bind fun l => some (0 ≤ i ∧ i < l.length ∧ l.length ≤ 1000 ∧ ∀ x, l[i.toNat]? = some x → 0 ≤ k ∧ k < x.fields.length ∧ x.fields.length ≤ 1000 ∧ ∀ f, x.fields[k.toNat]? = some f → f.choices.length ≤ 1000, .d (.int .i64 (fieldErr l i k)))
    | _ => none) fun args p r h => by
    split at h
    · obtain ⟨_, hd0, h0⟩ := Option.bind_eq_some_iff.1 h; clear h; have hd0 := dec_some hd0; subst hd0
      cases h0; exact t66 _ _ _
    · cases h
@[go_sem] theorem E66_f : E66.f = 66 := rfl
@[go_sem] theorem E66_c (l : List (List D)) (i : Int) (k : Int) : E66.c [.d (.sl 3 l), .d (.int .i64 i), .d (.int .i64 k)] = (dec encLy l).bind fun l => some (0 ≤ i ∧ i < l.length ∧ l.length ≤ 1000 ∧ ∀ x, l[i.toNat]? = some x → 0 ≤ k ∧ k < x.fields.length ∧ x.fields.length ≤ 1000 ∧ ∀ f, x.fields[k.toNat]? = some f → f.choices.length ≤ 1000, .d (.int .i64 (fieldErr l i k))) := rfl
end Go.Proofs.YtgnnakibcjonbaaGreatDoor.VE
