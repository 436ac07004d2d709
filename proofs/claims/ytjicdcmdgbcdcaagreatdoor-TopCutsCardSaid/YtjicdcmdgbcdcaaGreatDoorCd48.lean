/-
  linotypelaw40.Great: some answer, nothing written.
-/
import Derived.Test.YtjicdcmdgbcdcaaGreatDoorCd47
import Derived.Deep.DeepCutAuto
import Derived.Deep.CutRange
import Derived.Outline
section
namespace Go.Proofs.YtjicdcmdgbcdcaaGreatDoor.Scr
set_option linter.unusedSimpArgs false
set_option linter.unusedVariables false
open Go Go.RowKit Mem Turn Ring

def SomeB (e : Ending) : Prop := ∃ b, e = .returned (.bool b)
set_option maxRecDepth 100000 in
set_option maxHeartbeats 16000000 in
theorem great_any (a : Option Addr) (n c : Nat) (ops : List OpC) (w : World) (ho : IsOps w a n c ops) :
    Calls Tryz.prog 15 #[.slice a n c] w fun e w' => SomeB e ∧ w = w' := by
  have HO := Lib.hid ho
  have hn := ho.2.2.1
  clear ho
  go_enter Tryz.func15, Tryz.ntmps15
  go_wp2_with fail
  go_loopg [3, 4] n (fun gg v3 v4 wx => ∃ (k : Nat) (s : Int), n - k = gg ∧ k ≤ n ∧ v3 = .int .i64 s ∧ v4 = .int .i64 (k : Int) ∧ w = wx)
  case atStart => exact ⟨0, 0, rfl, Nat.zero_le _, rfl, rfl, rfl⟩
  case round =>
    obtain ⟨k, s, rfl, hk, rfl, rfl, rfl⟩ := hrel
    by_cases hlt : k < n
    · have hlt' : (k : Int) < (n : Int) := by omega
      obtain ⟨o, hok⟩ : ∃ o, ops[k]? = some o := ⟨_, List.getElem?_eq_getElem (by rw [HO.out.1]; exact hlt)⟩
      obtain ⟨b, off, ba, bc, rfl, hrg, _, hr⟩ := HO.out.range hok
      obtain ⟨m, hm⟩ : ∃ m, o.bytes.length = m := ⟨_, rfl⟩
      rw [hm] at hrg
      have x0 : w.cell? ⟨b, off + k * 4, none⟩ = some (.int .i64 o.kind) := hrg 0 _ rfl
      have x1 : w.cell? ⟨b, off + k * 4 + 1, none⟩ = some (.int .i64 o.a) := hrg 1 _ rfl
      have x2 : w.cell? ⟨b, off + k * 4 + 2, none⟩ = some (.int .i64 o.b) := hrg 2 _ rfl
      have x3 : w.cell? ⟨b, off + k * 4 + 3, none⟩ = some (.slice ba m bc) := hrg 3 _ rfl
      clear hok hrg hr hm
      by_cases h60 : k < 60
      · have h60' : (k : Int) < 60 := by omega
        go_upto_region 6 with fail
        generalize wrap64 (s + (m : Int)) = s'
        go_cut [48] (fun s48 wx => (∃ b, s48 = .bool b) ∧ w = wx)
        case first =>
          rcases hd0 : decide ((600 : Int) < s') with _ | _
          · rcases hd1 : (o.kind == 13) with _ | _
            · go_wp2_with fail
              go_meet
              exact ⟨⟨_, rfl⟩, rfl⟩
            · rcases hd2 : decide ((60 : Int) < o.a) with _ | _
              · go_wp2_with fail
                go_meet
                exact ⟨⟨_, rfl⟩, rfl⟩
              · go_wp2_with fail
                go_meet
                exact ⟨⟨_, rfl⟩, rfl⟩
          · go_wp2_with fail
            go_meet
            exact ⟨⟨_, rfl⟩, rfl⟩
        case rest =>
          obtain ⟨⟨g, rfl⟩, rfl⟩ := hcut
          cases g
          · go_wp2_with fail
            go_roundg (n - (k + 1))
            case measure => omega
            case rel => exact ⟨k + 1, _, rfl, by omega, rfl, by go_num, rfl⟩
          · go_wp2_with fail
            go_ret
            exact ⟨⟨_, rfl⟩, rfl⟩
      · have h60' : ¬ (k : Int) < 60 := by omega
        go_wp2_with fail
        go_ret
        exact ⟨⟨_, rfl⟩, rfl⟩
    · have hlt' : ¬ (k : Int) < (n : Int) := by omega
      go_wp2_with fail
      go_ret
      exact ⟨⟨_, rfl⟩, rfl⟩
end Go.Proofs.YtjicdcmdgbcdcaaGreatDoor.Scr
end
