/- A part of the proof that for every match and every number, the program's JudgeWatcher answers as the specification's JudgeWatcher does, and leaves its arguments as they were; there is no condition. -/
import Derived.Test.YtaflceohlijekaaGreatEvG
import Derived.Test.YtaflceohlijekaaGreatProg
import Derived.Test.YtaflceohlijekaaGreatChecked
set_option linter.unusedVariables false
set_option maxRecDepth 100000
set_option linter.unusedSimpArgs false
namespace Go.Proofs.YtaflceohlijekaaGreat.Ev
noncomputable def evF (i : Nat) (f : Func) (call : E.Call) (x : (E.sig i).A.T) := evBody E i f call x
theorem e_laws_FnExactJudgeWatcher : evF 5 Tryz.f5 = laws_FnExactJudgeWatcher := by kernel_rfl
theorem e_laws_szLevel : evF 8 Tryz.f8 = laws_szLevel := by kernel_rfl
theorem e_laws_szIntSS : evF 9 Tryz.f9 = laws_szIntSS := by kernel_rfl
theorem e_laws_szWire : evF 11 Tryz.f11 = laws_szWire := by kernel_rfl
theorem e_laws_toLevel : evF 13 Tryz.f13 = laws_toLevel := by kernel_rfl
theorem e_laws_toIntSS : evF 14 Tryz.f14 = laws_toIntSS := by kernel_rfl
theorem e_laws_toWire : evF 16 Tryz.f16 = laws_toWire := by kernel_rfl
theorem e_laws_eqMatch : evF 18 Tryz.f18 = laws_eqMatch := by kernel_rfl
theorem e_laws_eqLevel : evF 19 Tryz.f19 = laws_eqLevel := by kernel_rfl
theorem e_laws_eqIntSS : evF 20 Tryz.f20 = laws_eqIntSS := by kernel_rfl
theorem e_laws_eqWire : evF 22 Tryz.f22 = laws_eqWire := by kernel_rfl
theorem e_laws_szMatch : evF 29 Tryz.f29 = laws_szMatch := by kernel_rfl
theorem e_laws_toMatch : evF 31 Tryz.f31 = laws_toMatch := by kernel_rfl
theorem e_spec_JudgeWatcher : evF 33 Tryz.f33 = spec_JudgeWatcher := by kernel_rfl
theorem e_impl_JudgeWatcher : evF 34 Tryz.f34 = impl_JudgeWatcher := by kernel_rfl
theorem e_spec_LockstepAt : evF 37 Tryz.f37 = spec_LockstepAt := by kernel_rfl
theorem e_laws_toFault : evF 38 Tryz.f38 = laws_toFault := by kernel_rfl
theorem e_impl_LockstepAt : evF 39 Tryz.f39 = impl_LockstepAt := by kernel_rfl
theorem e_laws_eqWorld : evF 40 Tryz.f40 = laws_eqWorld := by kernel_rfl
theorem e_laws_szStringS : evF 43 Tryz.f43 = laws_szStringS := by kernel_rfl
theorem e_laws_szIntS : evF 44 Tryz.f44 = laws_szIntS := by kernel_rfl
theorem e_laws_szFlightS : evF 45 Tryz.f45 = laws_szFlightS := by kernel_rfl
theorem e_spec_l02CopyLevel : evF 46 Tryz.f46 = spec_l02CopyLevel := by kernel_rfl
theorem e_spec_WireOk : evF 47 Tryz.f47 = spec_WireOk := by kernel_rfl
theorem e_spec_MatchOk : evF 50 Tryz.f50 = spec_MatchOk := by kernel_rfl
theorem e_laws_toStringS : evF 51 Tryz.f51 = laws_toStringS := by kernel_rfl
theorem e_laws_toIntS : evF 52 Tryz.f52 = laws_toIntS := by kernel_rfl
theorem e_laws_toFlightS : evF 53 Tryz.f53 = laws_toFlightS := by kernel_rfl
theorem e_impl_WireOk : evF 54 Tryz.f54 = impl_WireOk := by kernel_rfl
theorem e_impl_copyLevel : evF 55 Tryz.f55 = impl_copyLevel := by kernel_rfl
theorem e_impl_MatchOk : evF 58 Tryz.f58 = impl_MatchOk := by kernel_rfl
theorem e_laws_eqPeerS : evF 59 Tryz.f59 = laws_eqPeerS := by kernel_rfl
theorem e_laws_eqWireSS : evF 60 Tryz.f60 = laws_eqWireSS := by kernel_rfl
theorem e_laws_eqPaceSS : evF 61 Tryz.f61 = laws_eqPaceSS := by kernel_rfl
theorem e_laws_eqSpectatorS : evF 62 Tryz.f62 = laws_eqSpectatorS := by kernel_rfl
theorem e_laws_eqWireS : evF 63 Tryz.f63 = laws_eqWireS := by kernel_rfl
theorem e_laws_eqAlarmS : evF 64 Tryz.f64 = laws_eqAlarmS := by kernel_rfl
theorem e_laws_eqStringS : evF 65 Tryz.f65 = laws_eqStringS := by kernel_rfl
theorem e_laws_eqIntS : evF 66 Tryz.f66 = laws_eqIntS := by kernel_rfl
theorem e_laws_eqFault : evF 67 Tryz.f67 = laws_eqFault := by kernel_rfl
theorem e_laws_eqFlightS : evF 68 Tryz.f68 = laws_eqFlightS := by kernel_rfl
theorem e_laws_szPeerS : evF 86 Tryz.f86 = laws_szPeerS := by kernel_rfl
theorem e_laws_szWireSS : evF 87 Tryz.f87 = laws_szWireSS := by kernel_rfl
theorem e_laws_szPaceSS : evF 88 Tryz.f88 = laws_szPaceSS := by kernel_rfl
theorem e_laws_szSpectatorS : evF 89 Tryz.f89 = laws_szSpectatorS := by kernel_rfl
theorem e_laws_szWireS : evF 90 Tryz.f90 = laws_szWireS := by kernel_rfl
theorem e_laws_szAlarmS : evF 91 Tryz.f91 = laws_szAlarmS := by kernel_rfl
theorem e_spec_l01In : evF 92 Tryz.f92 = spec_l01In := by kernel_rfl
theorem e_spec_SameWorld : evF 93 Tryz.f93 = spec_SameWorld := by kernel_rfl
theorem e_laws_toPeerS : evF 94 Tryz.f94 = laws_toPeerS := by kernel_rfl
theorem e_laws_toWireSS : evF 95 Tryz.f95 = laws_toWireSS := by kernel_rfl
theorem e_laws_toPaceSS : evF 96 Tryz.f96 = laws_toPaceSS := by kernel_rfl
theorem e_laws_toSpectatorS : evF 97 Tryz.f97 = laws_toSpectatorS := by kernel_rfl
theorem e_laws_toWireS : evF 98 Tryz.f98 = laws_toWireS := by kernel_rfl
theorem e_laws_toAlarmS : evF 99 Tryz.f99 = laws_toAlarmS := by kernel_rfl
theorem e_impl_SameWorld : evF 100 Tryz.f100 = impl_SameWorld := by kernel_rfl
theorem e_spec_NewWorld : evF 101 Tryz.f101 = spec_NewWorld := by kernel_rfl
theorem e_spec_ScriptRows : evF 102 Tryz.f102 = spec_ScriptRows := by kernel_rfl
theorem e_spec_FaultyStep : evF 103 Tryz.f103 = spec_FaultyStep := by kernel_rfl
theorem e_impl_between : evF 104 Tryz.f104 = impl_between := by kernel_rfl
theorem e_impl_NewWorld : evF 105 Tryz.f105 = impl_NewWorld := by kernel_rfl
theorem e_impl_ScriptRows : evF 106 Tryz.f106 = impl_ScriptRows := by kernel_rfl
theorem e_impl_FaultyStep : evF 107 Tryz.f107 = impl_FaultyStep := by kernel_rfl
theorem e_laws_eqBodyS : evF 108 Tryz.f108 = laws_eqBodyS := by kernel_rfl
theorem e_laws_szFlight : evF 112 Tryz.f112 = laws_szFlight := by kernel_rfl
theorem e_spec_l02Copy : evF 113 Tryz.f113 = spec_l02Copy := by kernel_rfl
theorem e_spec_PeerOk : evF 115 Tryz.f115 = spec_PeerOk := by kernel_rfl
theorem e_spec_LevelOk : evF 116 Tryz.f116 = spec_LevelOk := by kernel_rfl
theorem e_spec_ScriptInput : evF 117 Tryz.f117 = spec_ScriptInput := by kernel_rfl
theorem e_spec_l02SameLevel : evF 118 Tryz.f118 = spec_l02SameLevel := by kernel_rfl
theorem e_spec_WorldOk : evF 119 Tryz.f119 = spec_WorldOk := by kernel_rfl
theorem e_spec_l08Square : evF 120 Tryz.f120 = spec_l08Square := by kernel_rfl
theorem e_laws_toFlight : evF 121 Tryz.f121 = laws_toFlight := by kernel_rfl
theorem e_impl_copyWorld : evF 123 Tryz.f123 = impl_copyWorld := by kernel_rfl
theorem e_impl_PeerOk : evF 125 Tryz.f125 = impl_PeerOk := by kernel_rfl
theorem e_impl_LevelOk : evF 126 Tryz.f126 = impl_LevelOk := by kernel_rfl
theorem e_impl_scriptOk : evF 127 Tryz.f127 = impl_scriptOk := by kernel_rfl
theorem e_impl_peersOk : evF 128 Tryz.f128 = impl_peersOk := by kernel_rfl
theorem e_impl_linksOk : evF 129 Tryz.f129 = impl_linksOk := by kernel_rfl
theorem e_impl_watchersOk : evF 130 Tryz.f130 = impl_watchersOk := by kernel_rfl
theorem e_laws_eqPeer : evF 131 Tryz.f131 = laws_eqPeer := by kernel_rfl
theorem e_laws_eqPaceS : evF 132 Tryz.f132 = laws_eqPaceS := by kernel_rfl
theorem e_laws_eqSpectator : evF 133 Tryz.f133 = laws_eqSpectator := by kernel_rfl
theorem e_laws_eqAlarm : evF 134 Tryz.f134 = laws_eqAlarm := by kernel_rfl
theorem e_laws_eqFlight : evF 135 Tryz.f135 = laws_eqFlight := by kernel_rfl
theorem e_laws_szPeer : evF 145 Tryz.f145 = laws_szPeer := by kernel_rfl
theorem e_laws_szPaceS : evF 146 Tryz.f146 = laws_szPaceS := by kernel_rfl
theorem e_laws_szSpectator : evF 147 Tryz.f147 = laws_szSpectator := by kernel_rfl
theorem e_laws_szAlarm : evF 148 Tryz.f148 = laws_szAlarm := by kernel_rfl
theorem e_spec_l02Ints : evF 149 Tryz.f149 = spec_l02Ints := by kernel_rfl
theorem e_laws_toPeer : evF 150 Tryz.f150 = laws_toPeer := by kernel_rfl
theorem e_laws_toPaceS : evF 151 Tryz.f151 = laws_toPaceS := by kernel_rfl
theorem e_laws_toSpectator : evF 152 Tryz.f152 = laws_toSpectator := by kernel_rfl
theorem e_laws_toAlarm : evF 153 Tryz.f153 = laws_toAlarm := by kernel_rfl
theorem e_impl_sameLevel : evF 154 Tryz.f154 = impl_sameLevel := by kernel_rfl
theorem e_slices_Equal_int_int : evF 155 Tryz.f155 = slices_Equal_int_int := by kernel_rfl
theorem e_slices_Equal_impl_Body_impl_Body : evF 156 Tryz.f156 = slices_Equal_impl_Body_impl_Body := by kernel_rfl
theorem e_spec_l02Fresh : evF 157 Tryz.f157 = spec_l02Fresh := by kernel_rfl
theorem e_spec_StepWorld : evF 158 Tryz.f158 = spec_StepWorld := by kernel_rfl
theorem e_spec_FaultOk : evF 159 Tryz.f159 = spec_FaultOk := by kernel_rfl
theorem e_impl_freshPlayer : evF 160 Tryz.f160 = impl_freshPlayer := by kernel_rfl
theorem e_impl_WorldOk : evF 161 Tryz.f161 = impl_WorldOk := by kernel_rfl
theorem e_impl_ScriptInput : evF 162 Tryz.f162 = impl_ScriptInput := by kernel_rfl
theorem e_impl_StepWorld : evF 163 Tryz.f163 = impl_StepWorld := by kernel_rfl
theorem e_impl_FaultOk : evF 164 Tryz.f164 = impl_FaultOk := by kernel_rfl
theorem e_laws_eqBody : evF 165 Tryz.f165 = laws_eqBody := by kernel_rfl
theorem e_spec_TracksOk : evF 168 Tryz.f168 = spec_TracksOk := by kernel_rfl
theorem e_spec_l02RowOk : evF 169 Tryz.f169 = spec_l02RowOk := by kernel_rfl
theorem e_spec_KnownTicks : evF 170 Tryz.f170 = spec_KnownTicks := by kernel_rfl
theorem e_spec_l03Inputs : evF 171 Tryz.f171 = spec_l03Inputs := by kernel_rfl
theorem e_spec_l02Body : evF 172 Tryz.f172 = spec_l02Body := by kernel_rfl
theorem e_spec_PaceOk : evF 173 Tryz.f173 = spec_PaceOk := by kernel_rfl
theorem e_impl_TracksOk : evF 176 Tryz.f176 = impl_TracksOk := by kernel_rfl
theorem e_impl_rowOk : evF 177 Tryz.f177 = impl_rowOk := by kernel_rfl
theorem e_impl_KnownTicks : evF 178 Tryz.f178 = impl_KnownTicks := by kernel_rfl
theorem e_impl_inputsOk : evF 179 Tryz.f179 = impl_inputsOk := by kernel_rfl
theorem e_impl_PaceOk : evF 180 Tryz.f180 = impl_PaceOk := by kernel_rfl
theorem e_laws_eqTrackS : evF 181 Tryz.f181 = laws_eqTrackS := by kernel_rfl
theorem e_laws_eqSaveS : evF 182 Tryz.f182 = laws_eqSaveS := by kernel_rfl
theorem e_laws_eqPace : evF 183 Tryz.f183 = laws_eqPace := by kernel_rfl
theorem e_laws_szTrackS : evF 184 Tryz.f184 = laws_szTrackS := by kernel_rfl
theorem e_laws_szWorld : evF 185 Tryz.f185 = laws_szWorld := by kernel_rfl
theorem e_laws_szSaveS : evF 186 Tryz.f186 = laws_szSaveS := by kernel_rfl
theorem e_laws_toTrackS : evF 187 Tryz.f187 = laws_toTrackS := by kernel_rfl
theorem e_laws_toWorld : evF 188 Tryz.f188 = laws_toWorld := by kernel_rfl
theorem e_laws_toSaveS : evF 189 Tryz.f189 = laws_toSaveS := by kernel_rfl
theorem e_laws_toPace : evF 190 Tryz.f190 = laws_toPace := by kernel_rfl
theorem e_slices_Equal_string_string : evF 191 Tryz.f191 = slices_Equal_string_string := by kernel_rfl
theorem e_spec_StartOf : evF 192 Tryz.f192 = spec_StartOf := by kernel_rfl
theorem e_spec_l02Step : evF 193 Tryz.f193 = spec_l02Step := by kernel_rfl
theorem e_impl_StartOf : evF 194 Tryz.f194 = impl_StartOf := by kernel_rfl
theorem e_impl_BodyOk : evF 195 Tryz.f195 = impl_BodyOk := by kernel_rfl
theorem e_impl_stepPlayers : evF 196 Tryz.f196 = impl_stepPlayers := by kernel_rfl
theorem e_impl_stepMoves : evF 197 Tryz.f197 = impl_stepMoves := by kernel_rfl
theorem e_impl_stepShots : evF 198 Tryz.f198 = impl_stepShots := by kernel_rfl
theorem e_impl_stepItems : evF 199 Tryz.f199 = impl_stepItems := by kernel_rfl
theorem e_impl_NextRandom : evF 200 Tryz.f200 = impl_NextRandom := by kernel_rfl
theorem e_impl_SpotsOf : evF 201 Tryz.f201 = impl_SpotsOf := by kernel_rfl
theorem e_impl_RandomBelow : evF 202 Tryz.f202 = impl_RandomBelow := by kernel_rfl
theorem e_spec_TrackOk : evF 204 Tryz.f204 = spec_TrackOk := by kernel_rfl
theorem e_spec_l02Solid : evF 205 Tryz.f205 = spec_l02Solid := by kernel_rfl
theorem e_spec_SizeOf : evF 206 Tryz.f206 = spec_SizeOf := by kernel_rfl
theorem e_impl_TrackOk : evF 209 Tryz.f209 = impl_TrackOk := by kernel_rfl
theorem e_laws_eqTrack : evF 210 Tryz.f210 = laws_eqTrack := by kernel_rfl
theorem e_laws_eqSave : evF 211 Tryz.f211 = laws_eqSave := by kernel_rfl
theorem e_laws_szTrack : evF 212 Tryz.f212 = laws_szTrack := by kernel_rfl
theorem e_laws_szBodyS : evF 213 Tryz.f213 = laws_szBodyS := by kernel_rfl
theorem e_laws_szSave : evF 214 Tryz.f214 = laws_szSave := by kernel_rfl
theorem e_laws_toTrack : evF 215 Tryz.f215 = laws_toTrack := by kernel_rfl
theorem e_laws_toBodyS : evF 216 Tryz.f216 = laws_toBodyS := by kernel_rfl
theorem e_laws_toSave : evF 217 Tryz.f217 = laws_toSave := by kernel_rfl
theorem e_spec_l02Steer : evF 218 Tryz.f218 = spec_l02Steer := by kernel_rfl
theorem e_spec_ShotOf : evF 219 Tryz.f219 = spec_ShotOf := by kernel_rfl
theorem e_spec_l02Move : evF 220 Tryz.f220 = spec_l02Move := by kernel_rfl
theorem e_spec_l02Hits : evF 221 Tryz.f221 = spec_l02Hits := by kernel_rfl
theorem e_spec_NextRandom : evF 222 Tryz.f222 = spec_NextRandom := by kernel_rfl
theorem e_spec_SpotsOf : evF 223 Tryz.f223 = spec_SpotsOf := by kernel_rfl
theorem e_spec_RandomBelow : evF 224 Tryz.f224 = spec_RandomBelow := by kernel_rfl
theorem e_impl_SolidAt : evF 225 Tryz.f225 = impl_SolidAt := by kernel_rfl
theorem e_impl_SizeOf : evF 226 Tryz.f226 = impl_SizeOf := by kernel_rfl
theorem e_impl_SteerPlayer : evF 227 Tryz.f227 = impl_SteerPlayer := by kernel_rfl
theorem e_impl_ShotOf : evF 228 Tryz.f228 = impl_ShotOf := by kernel_rfl
theorem e_impl_MoveBody : evF 229 Tryz.f229 = impl_MoveBody := by kernel_rfl
theorem e_impl_playerMet : evF 230 Tryz.f230 = impl_playerMet := by kernel_rfl
theorem e_impl_addScore : evF 231 Tryz.f231 = impl_addScore := by kernel_rfl
theorem e_laws_toBody : evF 236 Tryz.f236 = laws_toBody := by kernel_rfl
theorem e_spec_l02Meets : evF 237 Tryz.f237 = spec_l02Meets := by kernel_rfl
theorem e_spec_l02Point : evF 238 Tryz.f238 = spec_l02Point := by kernel_rfl
theorem e_impl_solid : evF 239 Tryz.f239 = impl_solid := by kernel_rfl
theorem e_impl_direction : evF 240 Tryz.f240 = impl_direction := by kernel_rfl
theorem e_impl_BodiesMeet : evF 241 Tryz.f241 = impl_BodiesMeet := by kernel_rfl
theorem e_spec_BodiesMeet : evF 242 Tryz.f242 = spec_BodiesMeet := by kernel_rfl
end Go.Proofs.YtaflceohlijekaaGreat.Ev
namespace Go.Proofs.YtaflceohlijekaaGreat.Ev
def tkL : List Nat := [3, 4, 5, 9, 22, 24, 25, 27, 29, 34, 35, 36, 37, 38, 39, 40, 42, 49, 51, 63, 64, 65, 66, 67, 68, 70, 78, 79, 80, 82, 85, 95, 96, 98, 103, 138, 146, 147, 150, 163, 170, 171, 173, 174, 176, 178, 181, 183, 185, 199, 201, 205, 206, 218, 234, 237, 249]
def tk (i : Nat) : Bool := tkL.any (Nat.beq i)
noncomputable def fk (i : Nat) (f : Func) : Bool := fnOk Tryz.prog E tk i f
theorem tk_ok : tkL.all (tyCheck Tryz.prog E) = true := by kernel_rfl
theorem ok5 : fk 5 Tryz.f5 = true := by kernel_rfl
theorem ok8 : fk 8 Tryz.f8 = true := by kernel_rfl
theorem ok9 : fk 9 Tryz.f9 = true := by kernel_rfl
theorem ok11 : fk 11 Tryz.f11 = true := by kernel_rfl
theorem ok13 : fk 13 Tryz.f13 = true := by kernel_rfl
theorem ok14 : fk 14 Tryz.f14 = true := by kernel_rfl
theorem ok16 : fk 16 Tryz.f16 = true := by kernel_rfl
theorem ok18 : fk 18 Tryz.f18 = true := by kernel_rfl
theorem ok19 : fk 19 Tryz.f19 = true := by kernel_rfl
theorem ok20 : fk 20 Tryz.f20 = true := by kernel_rfl
theorem ok22 : fk 22 Tryz.f22 = true := by kernel_rfl
theorem ok29 : fk 29 Tryz.f29 = true := by kernel_rfl
theorem ok31 : fk 31 Tryz.f31 = true := by kernel_rfl
theorem ok33 : fk 33 Tryz.f33 = true := by kernel_rfl
theorem ok34 : fk 34 Tryz.f34 = true := by kernel_rfl
theorem ok37 : fk 37 Tryz.f37 = true := by kernel_rfl
theorem ok38 : fk 38 Tryz.f38 = true := by kernel_rfl
theorem ok39 : fk 39 Tryz.f39 = true := by kernel_rfl
theorem ok40 : fk 40 Tryz.f40 = true := by kernel_rfl
theorem ok43 : fk 43 Tryz.f43 = true := by kernel_rfl
theorem ok44 : fk 44 Tryz.f44 = true := by kernel_rfl
theorem ok45 : fk 45 Tryz.f45 = true := by kernel_rfl
theorem ok46 : fk 46 Tryz.f46 = true := by kernel_rfl
theorem ok47 : fk 47 Tryz.f47 = true := by kernel_rfl
theorem ok50 : fk 50 Tryz.f50 = true := by kernel_rfl
theorem ok51 : fk 51 Tryz.f51 = true := by kernel_rfl
theorem ok52 : fk 52 Tryz.f52 = true := by kernel_rfl
theorem ok53 : fk 53 Tryz.f53 = true := by kernel_rfl
theorem ok54 : fk 54 Tryz.f54 = true := by kernel_rfl
theorem ok55 : fk 55 Tryz.f55 = true := by kernel_rfl
theorem ok58 : fk 58 Tryz.f58 = true := by kernel_rfl
theorem ok59 : fk 59 Tryz.f59 = true := by kernel_rfl
theorem ok60 : fk 60 Tryz.f60 = true := by kernel_rfl
theorem ok61 : fk 61 Tryz.f61 = true := by kernel_rfl
theorem ok62 : fk 62 Tryz.f62 = true := by kernel_rfl
theorem ok63 : fk 63 Tryz.f63 = true := by kernel_rfl
theorem ok64 : fk 64 Tryz.f64 = true := by kernel_rfl
theorem ok65 : fk 65 Tryz.f65 = true := by kernel_rfl
theorem ok66 : fk 66 Tryz.f66 = true := by kernel_rfl
theorem ok67 : fk 67 Tryz.f67 = true := by kernel_rfl
theorem ok68 : fk 68 Tryz.f68 = true := by kernel_rfl
theorem ok86 : fk 86 Tryz.f86 = true := by kernel_rfl
theorem ok87 : fk 87 Tryz.f87 = true := by kernel_rfl
theorem ok88 : fk 88 Tryz.f88 = true := by kernel_rfl
theorem ok89 : fk 89 Tryz.f89 = true := by kernel_rfl
theorem ok90 : fk 90 Tryz.f90 = true := by kernel_rfl
theorem ok91 : fk 91 Tryz.f91 = true := by kernel_rfl
theorem ok92 : fk 92 Tryz.f92 = true := by kernel_rfl
theorem ok93 : fk 93 Tryz.f93 = true := by kernel_rfl
theorem ok94 : fk 94 Tryz.f94 = true := by kernel_rfl
theorem ok95 : fk 95 Tryz.f95 = true := by kernel_rfl
theorem ok96 : fk 96 Tryz.f96 = true := by kernel_rfl
theorem ok97 : fk 97 Tryz.f97 = true := by kernel_rfl
theorem ok98 : fk 98 Tryz.f98 = true := by kernel_rfl
theorem ok99 : fk 99 Tryz.f99 = true := by kernel_rfl
theorem ok100 : fk 100 Tryz.f100 = true := by kernel_rfl
theorem ok101 : fk 101 Tryz.f101 = true := by kernel_rfl
theorem ok102 : fk 102 Tryz.f102 = true := by kernel_rfl
theorem ok103 : fk 103 Tryz.f103 = true := by kernel_rfl
theorem ok104 : fk 104 Tryz.f104 = true := by kernel_rfl
theorem ok105 : fk 105 Tryz.f105 = true := by kernel_rfl
theorem ok106 : fk 106 Tryz.f106 = true := by kernel_rfl
theorem ok107 : fk 107 Tryz.f107 = true := by kernel_rfl
theorem ok108 : fk 108 Tryz.f108 = true := by kernel_rfl
theorem ok112 : fk 112 Tryz.f112 = true := by kernel_rfl
theorem ok113 : fk 113 Tryz.f113 = true := by kernel_rfl
theorem ok115 : fk 115 Tryz.f115 = true := by kernel_rfl
theorem ok116 : fk 116 Tryz.f116 = true := by kernel_rfl
theorem ok117 : fk 117 Tryz.f117 = true := by kernel_rfl
theorem ok118 : fk 118 Tryz.f118 = true := by kernel_rfl
theorem ok119 : fk 119 Tryz.f119 = true := by kernel_rfl
theorem ok120 : fk 120 Tryz.f120 = true := by kernel_rfl
theorem ok121 : fk 121 Tryz.f121 = true := by kernel_rfl
theorem ok123 : fk 123 Tryz.f123 = true := by kernel_rfl
theorem ok125 : fk 125 Tryz.f125 = true := by kernel_rfl
theorem ok126 : fk 126 Tryz.f126 = true := by kernel_rfl
theorem ok127 : fk 127 Tryz.f127 = true := by kernel_rfl
theorem ok128 : fk 128 Tryz.f128 = true := by kernel_rfl
theorem ok129 : fk 129 Tryz.f129 = true := by kernel_rfl
theorem ok130 : fk 130 Tryz.f130 = true := by kernel_rfl
theorem ok131 : fk 131 Tryz.f131 = true := by kernel_rfl
theorem ok132 : fk 132 Tryz.f132 = true := by kernel_rfl
theorem ok133 : fk 133 Tryz.f133 = true := by kernel_rfl
theorem ok134 : fk 134 Tryz.f134 = true := by kernel_rfl
theorem ok135 : fk 135 Tryz.f135 = true := by kernel_rfl
theorem ok145 : fk 145 Tryz.f145 = true := by kernel_rfl
theorem ok146 : fk 146 Tryz.f146 = true := by kernel_rfl
theorem ok147 : fk 147 Tryz.f147 = true := by kernel_rfl
theorem ok148 : fk 148 Tryz.f148 = true := by kernel_rfl
theorem ok149 : fk 149 Tryz.f149 = true := by kernel_rfl
theorem ok150 : fk 150 Tryz.f150 = true := by kernel_rfl
theorem ok151 : fk 151 Tryz.f151 = true := by kernel_rfl
theorem ok152 : fk 152 Tryz.f152 = true := by kernel_rfl
theorem ok153 : fk 153 Tryz.f153 = true := by kernel_rfl
theorem ok154 : fk 154 Tryz.f154 = true := by kernel_rfl
theorem ok155 : fk 155 Tryz.f155 = true := by kernel_rfl
theorem ok156 : fk 156 Tryz.f156 = true := by kernel_rfl
theorem ok157 : fk 157 Tryz.f157 = true := by kernel_rfl
theorem ok158 : fk 158 Tryz.f158 = true := by kernel_rfl
theorem ok159 : fk 159 Tryz.f159 = true := by kernel_rfl
theorem ok160 : fk 160 Tryz.f160 = true := by kernel_rfl
theorem ok161 : fk 161 Tryz.f161 = true := by kernel_rfl
theorem ok162 : fk 162 Tryz.f162 = true := by kernel_rfl
theorem ok163 : fk 163 Tryz.f163 = true := by kernel_rfl
theorem ok164 : fk 164 Tryz.f164 = true := by kernel_rfl
theorem ok165 : fk 165 Tryz.f165 = true := by kernel_rfl
theorem ok168 : fk 168 Tryz.f168 = true := by kernel_rfl
theorem ok169 : fk 169 Tryz.f169 = true := by kernel_rfl
theorem ok170 : fk 170 Tryz.f170 = true := by kernel_rfl
theorem ok171 : fk 171 Tryz.f171 = true := by kernel_rfl
theorem ok172 : fk 172 Tryz.f172 = true := by kernel_rfl
theorem ok173 : fk 173 Tryz.f173 = true := by kernel_rfl
theorem ok176 : fk 176 Tryz.f176 = true := by kernel_rfl
theorem ok177 : fk 177 Tryz.f177 = true := by kernel_rfl
theorem ok178 : fk 178 Tryz.f178 = true := by kernel_rfl
theorem ok179 : fk 179 Tryz.f179 = true := by kernel_rfl
theorem ok180 : fk 180 Tryz.f180 = true := by kernel_rfl
theorem ok181 : fk 181 Tryz.f181 = true := by kernel_rfl
theorem ok182 : fk 182 Tryz.f182 = true := by kernel_rfl
theorem ok183 : fk 183 Tryz.f183 = true := by kernel_rfl
theorem ok184 : fk 184 Tryz.f184 = true := by kernel_rfl
theorem ok185 : fk 185 Tryz.f185 = true := by kernel_rfl
theorem ok186 : fk 186 Tryz.f186 = true := by kernel_rfl
theorem ok187 : fk 187 Tryz.f187 = true := by kernel_rfl
theorem ok188 : fk 188 Tryz.f188 = true := by kernel_rfl
theorem ok189 : fk 189 Tryz.f189 = true := by kernel_rfl
theorem ok190 : fk 190 Tryz.f190 = true := by kernel_rfl
theorem ok191 : fk 191 Tryz.f191 = true := by kernel_rfl
theorem ok192 : fk 192 Tryz.f192 = true := by kernel_rfl
theorem ok193 : fk 193 Tryz.f193 = true := by kernel_rfl
theorem ok194 : fk 194 Tryz.f194 = true := by kernel_rfl
theorem ok195 : fk 195 Tryz.f195 = true := by kernel_rfl
theorem ok196 : fk 196 Tryz.f196 = true := by kernel_rfl
theorem ok197 : fk 197 Tryz.f197 = true := by kernel_rfl
theorem ok198 : fk 198 Tryz.f198 = true := by kernel_rfl
theorem ok199 : fk 199 Tryz.f199 = true := by kernel_rfl
theorem ok200 : fk 200 Tryz.f200 = true := by kernel_rfl
theorem ok201 : fk 201 Tryz.f201 = true := by kernel_rfl
theorem ok202 : fk 202 Tryz.f202 = true := by kernel_rfl
theorem ok204 : fk 204 Tryz.f204 = true := by kernel_rfl
theorem ok205 : fk 205 Tryz.f205 = true := by kernel_rfl
theorem ok206 : fk 206 Tryz.f206 = true := by kernel_rfl
theorem ok209 : fk 209 Tryz.f209 = true := by kernel_rfl
theorem ok210 : fk 210 Tryz.f210 = true := by kernel_rfl
theorem ok211 : fk 211 Tryz.f211 = true := by kernel_rfl
theorem ok212 : fk 212 Tryz.f212 = true := by kernel_rfl
theorem ok213 : fk 213 Tryz.f213 = true := by kernel_rfl
theorem ok214 : fk 214 Tryz.f214 = true := by kernel_rfl
theorem ok215 : fk 215 Tryz.f215 = true := by kernel_rfl
theorem ok216 : fk 216 Tryz.f216 = true := by kernel_rfl
theorem ok217 : fk 217 Tryz.f217 = true := by kernel_rfl
theorem ok218 : fk 218 Tryz.f218 = true := by kernel_rfl
theorem ok219 : fk 219 Tryz.f219 = true := by kernel_rfl
theorem ok220 : fk 220 Tryz.f220 = true := by kernel_rfl
theorem ok221 : fk 221 Tryz.f221 = true := by kernel_rfl
theorem ok222 : fk 222 Tryz.f222 = true := by kernel_rfl
theorem ok223 : fk 223 Tryz.f223 = true := by kernel_rfl
theorem ok224 : fk 224 Tryz.f224 = true := by kernel_rfl
theorem ok225 : fk 225 Tryz.f225 = true := by kernel_rfl
theorem ok226 : fk 226 Tryz.f226 = true := by kernel_rfl
theorem ok227 : fk 227 Tryz.f227 = true := by kernel_rfl
theorem ok228 : fk 228 Tryz.f228 = true := by kernel_rfl
theorem ok229 : fk 229 Tryz.f229 = true := by kernel_rfl
theorem ok230 : fk 230 Tryz.f230 = true := by kernel_rfl
theorem ok231 : fk 231 Tryz.f231 = true := by kernel_rfl
theorem ok236 : fk 236 Tryz.f236 = true := by kernel_rfl
theorem ok237 : fk 237 Tryz.f237 = true := by kernel_rfl
theorem ok238 : fk 238 Tryz.f238 = true := by kernel_rfl
theorem ok239 : fk 239 Tryz.f239 = true := by kernel_rfl
theorem ok240 : fk 240 Tryz.f240 = true := by kernel_rfl
theorem ok241 : fk 241 Tryz.f241 = true := by kernel_rfl
theorem ok242 : fk 242 Tryz.f242 = true := by kernel_rfl
end Go.Proofs.YtaflceohlijekaaGreat.Ev
namespace Go.Proofs.YtaflceohlijekaaGreat.Ev
noncomputable def fsL : List (Nat × Func) := [(5, Tryz.f5), (8, Tryz.f8), (9, Tryz.f9), (11, Tryz.f11), (13, Tryz.f13), (14, Tryz.f14), (16, Tryz.f16), (18, Tryz.f18), (19, Tryz.f19), (20, Tryz.f20), (22, Tryz.f22), (29, Tryz.f29), (31, Tryz.f31), (33, Tryz.f33), (34, Tryz.f34), (37, Tryz.f37), (38, Tryz.f38), (39, Tryz.f39), (40, Tryz.f40), (43, Tryz.f43), (44, Tryz.f44), (45, Tryz.f45), (46, Tryz.f46), (47, Tryz.f47), (50, Tryz.f50), (51, Tryz.f51), (52, Tryz.f52), (53, Tryz.f53), (54, Tryz.f54), (55, Tryz.f55), (58, Tryz.f58), (59, Tryz.f59), (60, Tryz.f60), (61, Tryz.f61), (62, Tryz.f62), (63, Tryz.f63), (64, Tryz.f64), (65, Tryz.f65), (66, Tryz.f66), (67, Tryz.f67), (68, Tryz.f68), (86, Tryz.f86), (87, Tryz.f87), (88, Tryz.f88), (89, Tryz.f89), (90, Tryz.f90), (91, Tryz.f91), (92, Tryz.f92), (93, Tryz.f93), (94, Tryz.f94), (95, Tryz.f95), (96, Tryz.f96), (97, Tryz.f97), (98, Tryz.f98), (99, Tryz.f99), (100, Tryz.f100), (101, Tryz.f101), (102, Tryz.f102), (103, Tryz.f103), (104, Tryz.f104), (105, Tryz.f105), (106, Tryz.f106), (107, Tryz.f107), (108, Tryz.f108), (112, Tryz.f112), (113, Tryz.f113), (115, Tryz.f115), (116, Tryz.f116), (117, Tryz.f117), (118, Tryz.f118), (119, Tryz.f119), (120, Tryz.f120), (121, Tryz.f121), (123, Tryz.f123), (125, Tryz.f125), (126, Tryz.f126), (127, Tryz.f127), (128, Tryz.f128), (129, Tryz.f129), (130, Tryz.f130), (131, Tryz.f131), (132, Tryz.f132), (133, Tryz.f133), (134, Tryz.f134), (135, Tryz.f135), (145, Tryz.f145), (146, Tryz.f146), (147, Tryz.f147), (148, Tryz.f148), (149, Tryz.f149), (150, Tryz.f150), (151, Tryz.f151), (152, Tryz.f152), (153, Tryz.f153), (154, Tryz.f154), (155, Tryz.f155), (156, Tryz.f156), (157, Tryz.f157), (158, Tryz.f158), (159, Tryz.f159), (160, Tryz.f160), (161, Tryz.f161), (162, Tryz.f162), (163, Tryz.f163), (164, Tryz.f164), (165, Tryz.f165), (168, Tryz.f168), (169, Tryz.f169), (170, Tryz.f170), (171, Tryz.f171), (172, Tryz.f172), (173, Tryz.f173), (176, Tryz.f176), (177, Tryz.f177), (178, Tryz.f178), (179, Tryz.f179), (180, Tryz.f180), (181, Tryz.f181), (182, Tryz.f182), (183, Tryz.f183), (184, Tryz.f184), (185, Tryz.f185), (186, Tryz.f186), (187, Tryz.f187), (188, Tryz.f188), (189, Tryz.f189), (190, Tryz.f190), (191, Tryz.f191), (192, Tryz.f192), (193, Tryz.f193), (194, Tryz.f194), (195, Tryz.f195), (196, Tryz.f196), (197, Tryz.f197), (198, Tryz.f198), (199, Tryz.f199), (200, Tryz.f200), (201, Tryz.f201), (202, Tryz.f202), (204, Tryz.f204), (205, Tryz.f205), (206, Tryz.f206), (209, Tryz.f209), (210, Tryz.f210), (211, Tryz.f211), (212, Tryz.f212), (213, Tryz.f213), (214, Tryz.f214), (215, Tryz.f215), (216, Tryz.f216), (217, Tryz.f217), (218, Tryz.f218), (219, Tryz.f219), (220, Tryz.f220), (221, Tryz.f221), (222, Tryz.f222), (223, Tryz.f223), (224, Tryz.f224), (225, Tryz.f225), (226, Tryz.f226), (227, Tryz.f227), (228, Tryz.f228), (229, Tryz.f229), (230, Tryz.f230), (231, Tryz.f231), (236, Tryz.f236), (237, Tryz.f237), (238, Tryz.f238), (239, Tryz.f239), (240, Tryz.f240), (241, Tryz.f241), (242, Tryz.f242)]
noncomputable def fs (i : Nat) : Option Func := getA fsL i
theorem fc {α : Type} {p : α -> Prop} {a : α} {l : List α} (h : p a /\ ∀ x ∈ l, p x) : ∀ x ∈ a :: l, p x := List.forall_mem_cons.2 h
theorem fsOk : ∀ q ∈ fsL, Tryz.prog.funcs[q.1]? = some q.2 /\ fnOk Tryz.prog E tk q.1 q.2 = true :=
  fc ⟨⟨Tryz.func5, ok5⟩, fc ⟨⟨Tryz.func8, ok8⟩, fc ⟨⟨Tryz.func9, ok9⟩, fc ⟨⟨Tryz.func11, ok11⟩, fc ⟨⟨Tryz.func13, ok13⟩, fc ⟨⟨Tryz.func14, ok14⟩, fc ⟨⟨Tryz.func16, ok16⟩, fc ⟨⟨Tryz.func18, ok18⟩, fc ⟨⟨Tryz.func19, ok19⟩, fc ⟨⟨Tryz.func20, ok20⟩, fc ⟨⟨Tryz.func22, ok22⟩, fc ⟨⟨Tryz.func29, ok29⟩, fc ⟨⟨Tryz.func31, ok31⟩, fc ⟨⟨Tryz.func33, ok33⟩, fc ⟨⟨Tryz.func34, ok34⟩, fc ⟨⟨Tryz.func37, ok37⟩, fc ⟨⟨Tryz.func38, ok38⟩, fc ⟨⟨Tryz.func39, ok39⟩, fc ⟨⟨Tryz.func40, ok40⟩, fc ⟨⟨Tryz.func43, ok43⟩, fc ⟨⟨Tryz.func44, ok44⟩, fc ⟨⟨Tryz.func45, ok45⟩, fc ⟨⟨Tryz.func46, ok46⟩, fc ⟨⟨Tryz.func47, ok47⟩, fc ⟨⟨Tryz.func50, ok50⟩, fc ⟨⟨Tryz.func51, ok51⟩, fc ⟨⟨Tryz.func52, ok52⟩, fc ⟨⟨Tryz.func53, ok53⟩, fc ⟨⟨Tryz.func54, ok54⟩, fc ⟨⟨Tryz.func55, ok55⟩, fc ⟨⟨Tryz.func58, ok58⟩, fc ⟨⟨Tryz.func59, ok59⟩, fc ⟨⟨Tryz.func60, ok60⟩, fc ⟨⟨Tryz.func61, ok61⟩, fc ⟨⟨Tryz.func62, ok62⟩, fc ⟨⟨Tryz.func63, ok63⟩, fc ⟨⟨Tryz.func64, ok64⟩, fc ⟨⟨Tryz.func65, ok65⟩, fc ⟨⟨Tryz.func66, ok66⟩, fc ⟨⟨Tryz.func67, ok67⟩, fc ⟨⟨Tryz.func68, ok68⟩, fc ⟨⟨Tryz.func86, ok86⟩, fc ⟨⟨Tryz.func87, ok87⟩, fc ⟨⟨Tryz.func88, ok88⟩, fc ⟨⟨Tryz.func89, ok89⟩, fc ⟨⟨Tryz.func90, ok90⟩, fc ⟨⟨Tryz.func91, ok91⟩, fc ⟨⟨Tryz.func92, ok92⟩, fc ⟨⟨Tryz.func93, ok93⟩, fc ⟨⟨Tryz.func94, ok94⟩, fc ⟨⟨Tryz.func95, ok95⟩, fc ⟨⟨Tryz.func96, ok96⟩, fc ⟨⟨Tryz.func97, ok97⟩, fc ⟨⟨Tryz.func98, ok98⟩, fc ⟨⟨Tryz.func99, ok99⟩, fc ⟨⟨Tryz.func100, ok100⟩, fc ⟨⟨Tryz.func101, ok101⟩, fc ⟨⟨Tryz.func102, ok102⟩, fc ⟨⟨Tryz.func103, ok103⟩, fc ⟨⟨Tryz.func104, ok104⟩, fc ⟨⟨Tryz.func105, ok105⟩, fc ⟨⟨Tryz.func106, ok106⟩, fc ⟨⟨Tryz.func107, ok107⟩, fc ⟨⟨Tryz.func108, ok108⟩, fc ⟨⟨Tryz.func112, ok112⟩, fc ⟨⟨Tryz.func113, ok113⟩, fc ⟨⟨Tryz.func115, ok115⟩, fc ⟨⟨Tryz.func116, ok116⟩, fc ⟨⟨Tryz.func117, ok117⟩, fc ⟨⟨Tryz.func118, ok118⟩, fc ⟨⟨Tryz.func119, ok119⟩, fc ⟨⟨Tryz.func120, ok120⟩, fc ⟨⟨Tryz.func121, ok121⟩, fc ⟨⟨Tryz.func123, ok123⟩, fc ⟨⟨Tryz.func125, ok125⟩, fc ⟨⟨Tryz.func126, ok126⟩, fc ⟨⟨Tryz.func127, ok127⟩, fc ⟨⟨Tryz.func128, ok128⟩, fc ⟨⟨Tryz.func129, ok129⟩, fc ⟨⟨Tryz.func130, ok130⟩, fc ⟨⟨Tryz.func131, ok131⟩, fc ⟨⟨Tryz.func132, ok132⟩, fc ⟨⟨Tryz.func133, ok133⟩, fc ⟨⟨Tryz.func134, ok134⟩, fc ⟨⟨Tryz.func135, ok135⟩, fc ⟨⟨Tryz.func145, ok145⟩, fc ⟨⟨Tryz.func146, ok146⟩, fc ⟨⟨Tryz.func147, ok147⟩, fc ⟨⟨Tryz.func148, ok148⟩, fc ⟨⟨Tryz.func149, ok149⟩, fc ⟨⟨Tryz.func150, ok150⟩, fc ⟨⟨Tryz.func151, ok151⟩, fc ⟨⟨Tryz.func152, ok152⟩, fc ⟨⟨Tryz.func153, ok153⟩, fc ⟨⟨Tryz.func154, ok154⟩, fc ⟨⟨Tryz.func155, ok155⟩, fc ⟨⟨Tryz.func156, ok156⟩, fc ⟨⟨Tryz.func157, ok157⟩, fc ⟨⟨Tryz.func158, ok158⟩, fc ⟨⟨Tryz.func159, ok159⟩, fc ⟨⟨Tryz.func160, ok160⟩, fc ⟨⟨Tryz.func161, ok161⟩, fc ⟨⟨Tryz.func162, ok162⟩, fc ⟨⟨Tryz.func163, ok163⟩, fc ⟨⟨Tryz.func164, ok164⟩, fc ⟨⟨Tryz.func165, ok165⟩, fc ⟨⟨Tryz.func168, ok168⟩, fc ⟨⟨Tryz.func169, ok169⟩, fc ⟨⟨Tryz.func170, ok170⟩, fc ⟨⟨Tryz.func171, ok171⟩, fc ⟨⟨Tryz.func172, ok172⟩, fc ⟨⟨Tryz.func173, ok173⟩, fc ⟨⟨Tryz.func176, ok176⟩, fc ⟨⟨Tryz.func177, ok177⟩, fc ⟨⟨Tryz.func178, ok178⟩, fc ⟨⟨Tryz.func179, ok179⟩, fc ⟨⟨Tryz.func180, ok180⟩, fc ⟨⟨Tryz.func181, ok181⟩, fc ⟨⟨Tryz.func182, ok182⟩, fc ⟨⟨Tryz.func183, ok183⟩, fc ⟨⟨Tryz.func184, ok184⟩, fc ⟨⟨Tryz.func185, ok185⟩, fc ⟨⟨Tryz.func186, ok186⟩, fc ⟨⟨Tryz.func187, ok187⟩, fc ⟨⟨Tryz.func188, ok188⟩, fc ⟨⟨Tryz.func189, ok189⟩, fc ⟨⟨Tryz.func190, ok190⟩, fc ⟨⟨Tryz.func191, ok191⟩, fc ⟨⟨Tryz.func192, ok192⟩, fc ⟨⟨Tryz.func193, ok193⟩, fc ⟨⟨Tryz.func194, ok194⟩, fc ⟨⟨Tryz.func195, ok195⟩, fc ⟨⟨Tryz.func196, ok196⟩, fc ⟨⟨Tryz.func197, ok197⟩, fc ⟨⟨Tryz.func198, ok198⟩, fc ⟨⟨Tryz.func199, ok199⟩, fc ⟨⟨Tryz.func200, ok200⟩, fc ⟨⟨Tryz.func201, ok201⟩, fc ⟨⟨Tryz.func202, ok202⟩, fc ⟨⟨Tryz.func204, ok204⟩, fc ⟨⟨Tryz.func205, ok205⟩, fc ⟨⟨Tryz.func206, ok206⟩, fc ⟨⟨Tryz.func209, ok209⟩, fc ⟨⟨Tryz.func210, ok210⟩, fc ⟨⟨Tryz.func211, ok211⟩, fc ⟨⟨Tryz.func212, ok212⟩, fc ⟨⟨Tryz.func213, ok213⟩, fc ⟨⟨Tryz.func214, ok214⟩, fc ⟨⟨Tryz.func215, ok215⟩, fc ⟨⟨Tryz.func216, ok216⟩, fc ⟨⟨Tryz.func217, ok217⟩, fc ⟨⟨Tryz.func218, ok218⟩, fc ⟨⟨Tryz.func219, ok219⟩, fc ⟨⟨Tryz.func220, ok220⟩, fc ⟨⟨Tryz.func221, ok221⟩, fc ⟨⟨Tryz.func222, ok222⟩, fc ⟨⟨Tryz.func223, ok223⟩, fc ⟨⟨Tryz.func224, ok224⟩, fc ⟨⟨Tryz.func225, ok225⟩, fc ⟨⟨Tryz.func226, ok226⟩, fc ⟨⟨Tryz.func227, ok227⟩, fc ⟨⟨Tryz.func228, ok228⟩, fc ⟨⟨Tryz.func229, ok229⟩, fc ⟨⟨Tryz.func230, ok230⟩, fc ⟨⟨Tryz.func231, ok231⟩, fc ⟨⟨Tryz.func236, ok236⟩, fc ⟨⟨Tryz.func237, ok237⟩, fc ⟨⟨Tryz.func238, ok238⟩, fc ⟨⟨Tryz.func239, ok239⟩, fc ⟨⟨Tryz.func240, ok240⟩, fc ⟨⟨Tryz.func241, ok241⟩, fc ⟨⟨Tryz.func242, ok242⟩, fun _ h => nomatch h⟩⟩⟩⟩⟩⟩⟩⟩⟩⟩⟩⟩⟩⟩⟩⟩⟩⟩⟩⟩⟩⟩⟩⟩⟩⟩⟩⟩⟩⟩⟩⟩⟩⟩⟩⟩⟩⟩⟩⟩⟩⟩⟩⟩⟩⟩⟩⟩⟩⟩⟩⟩⟩⟩⟩⟩⟩⟩⟩⟩⟩⟩⟩⟩⟩⟩⟩⟩⟩⟩⟩⟩⟩⟩⟩⟩⟩⟩⟩⟩⟩⟩⟩⟩⟩⟩⟩⟩⟩⟩⟩⟩⟩⟩⟩⟩⟩⟩⟩⟩⟩⟩⟩⟩⟩⟩⟩⟩⟩⟩⟩⟩⟩⟩⟩⟩⟩⟩⟩⟩⟩⟩⟩⟩⟩⟩⟩⟩⟩⟩⟩⟩⟩⟩⟩⟩⟩⟩⟩⟩⟩⟩⟩⟩⟩⟩⟩⟩⟩⟩⟩⟩⟩⟩⟩⟩⟩⟩⟩⟩⟩⟩⟩⟩⟩⟩⟩⟩⟩⟩⟩⟩
theorem htk (t : Nat) (h : tk t = true) : TyOk Tryz.prog E t := by
  have := tk_ok
  rw [List.all_eq_true] at this
  unfold tk at h
  rw [List.any_eq_true] at h
  obtain ⟨u, hu, he⟩ := h
  rw [Nat.eq_of_beq_eq_true he]
  exact tyCheck_ok (this u hu)
theorem getA_mem {α : Type} : ∀ {l : List (Nat × α)} {i : Nat} {v : α}, getA l i = some v -> (i, v) ∈ l
  | [], _, _, h => by cases h
  | (k, u) :: t, i, v, h => by
    rw [getA_cons] at h
    split at h
    · rename_i e; cases h; rw [<- e]; exact List.mem_cons_self
    · exact List.mem_cons_of_mem _ (getA_mem h)
theorem mixed : Tryz.prog.follows .mixedOrders = true := by kernel_rfl
theorem sound : ∀ (k f : Nat) (x : (E.sig f).A.T) (r : (E.sig f).R.T), evFn E fs k f x = some r -> FnSpec Tryz.prog E f x r :=
  evFn_sound htk (fun np c h => rest mixed htk np c h) fs (fun f fn h => fsOk (f, fn) (getA_mem h))
noncomputable abbrev C (k : Nat) : E.Call := evFn E fs k
theorem u_of {i : Nat} {f : Func} {F : (call : E.Call) -> (E.sig i).A.T -> Option (E.sig i).R.T} (h : fs i = some f) (e : evF i f = F) (k : Nat) (x : (E.sig i).A.T) : evFn E fs (k + 1) i x = F (C k) x := by
  simp only [evFn, h]
  rw [<- e]
  rfl
theorem fs5 : fs 5 = some Tryz.f5 := by kernel_rfl
theorem fs8 : fs 8 = some Tryz.f8 := by kernel_rfl
theorem fs9 : fs 9 = some Tryz.f9 := by kernel_rfl
theorem fs11 : fs 11 = some Tryz.f11 := by kernel_rfl
theorem fs13 : fs 13 = some Tryz.f13 := by kernel_rfl
theorem fs14 : fs 14 = some Tryz.f14 := by kernel_rfl
theorem fs16 : fs 16 = some Tryz.f16 := by kernel_rfl
theorem fs18 : fs 18 = some Tryz.f18 := by kernel_rfl
theorem fs19 : fs 19 = some Tryz.f19 := by kernel_rfl
theorem fs20 : fs 20 = some Tryz.f20 := by kernel_rfl
theorem fs22 : fs 22 = some Tryz.f22 := by kernel_rfl
theorem fs29 : fs 29 = some Tryz.f29 := by kernel_rfl
theorem fs31 : fs 31 = some Tryz.f31 := by kernel_rfl
theorem fs33 : fs 33 = some Tryz.f33 := by kernel_rfl
theorem fs34 : fs 34 = some Tryz.f34 := by kernel_rfl
theorem fs37 : fs 37 = some Tryz.f37 := by kernel_rfl
theorem fs38 : fs 38 = some Tryz.f38 := by kernel_rfl
theorem fs39 : fs 39 = some Tryz.f39 := by kernel_rfl
theorem fs40 : fs 40 = some Tryz.f40 := by kernel_rfl
theorem fs43 : fs 43 = some Tryz.f43 := by kernel_rfl
theorem fs44 : fs 44 = some Tryz.f44 := by kernel_rfl
theorem fs45 : fs 45 = some Tryz.f45 := by kernel_rfl
theorem fs46 : fs 46 = some Tryz.f46 := by kernel_rfl
theorem fs47 : fs 47 = some Tryz.f47 := by kernel_rfl
theorem fs50 : fs 50 = some Tryz.f50 := by kernel_rfl
theorem fs51 : fs 51 = some Tryz.f51 := by kernel_rfl
theorem fs52 : fs 52 = some Tryz.f52 := by kernel_rfl
theorem fs53 : fs 53 = some Tryz.f53 := by kernel_rfl
theorem fs54 : fs 54 = some Tryz.f54 := by kernel_rfl
theorem fs55 : fs 55 = some Tryz.f55 := by kernel_rfl
theorem fs58 : fs 58 = some Tryz.f58 := by kernel_rfl
theorem fs59 : fs 59 = some Tryz.f59 := by kernel_rfl
theorem fs60 : fs 60 = some Tryz.f60 := by kernel_rfl
theorem fs61 : fs 61 = some Tryz.f61 := by kernel_rfl
theorem fs62 : fs 62 = some Tryz.f62 := by kernel_rfl
theorem fs63 : fs 63 = some Tryz.f63 := by kernel_rfl
theorem fs64 : fs 64 = some Tryz.f64 := by kernel_rfl
theorem fs65 : fs 65 = some Tryz.f65 := by kernel_rfl
theorem fs66 : fs 66 = some Tryz.f66 := by kernel_rfl
theorem fs67 : fs 67 = some Tryz.f67 := by kernel_rfl
theorem fs68 : fs 68 = some Tryz.f68 := by kernel_rfl
theorem fs86 : fs 86 = some Tryz.f86 := by kernel_rfl
theorem fs87 : fs 87 = some Tryz.f87 := by kernel_rfl
theorem fs88 : fs 88 = some Tryz.f88 := by kernel_rfl
theorem fs89 : fs 89 = some Tryz.f89 := by kernel_rfl
theorem fs90 : fs 90 = some Tryz.f90 := by kernel_rfl
theorem fs91 : fs 91 = some Tryz.f91 := by kernel_rfl
theorem fs92 : fs 92 = some Tryz.f92 := by kernel_rfl
theorem fs93 : fs 93 = some Tryz.f93 := by kernel_rfl
theorem fs94 : fs 94 = some Tryz.f94 := by kernel_rfl
theorem fs95 : fs 95 = some Tryz.f95 := by kernel_rfl
theorem fs96 : fs 96 = some Tryz.f96 := by kernel_rfl
theorem fs97 : fs 97 = some Tryz.f97 := by kernel_rfl
theorem fs98 : fs 98 = some Tryz.f98 := by kernel_rfl
theorem fs99 : fs 99 = some Tryz.f99 := by kernel_rfl
theorem fs100 : fs 100 = some Tryz.f100 := by kernel_rfl
theorem fs101 : fs 101 = some Tryz.f101 := by kernel_rfl
theorem fs102 : fs 102 = some Tryz.f102 := by kernel_rfl
theorem fs103 : fs 103 = some Tryz.f103 := by kernel_rfl
theorem fs104 : fs 104 = some Tryz.f104 := by kernel_rfl
theorem fs105 : fs 105 = some Tryz.f105 := by kernel_rfl
theorem fs106 : fs 106 = some Tryz.f106 := by kernel_rfl
theorem fs107 : fs 107 = some Tryz.f107 := by kernel_rfl
theorem fs108 : fs 108 = some Tryz.f108 := by kernel_rfl
theorem fs112 : fs 112 = some Tryz.f112 := by kernel_rfl
theorem fs113 : fs 113 = some Tryz.f113 := by kernel_rfl
theorem fs115 : fs 115 = some Tryz.f115 := by kernel_rfl
theorem fs116 : fs 116 = some Tryz.f116 := by kernel_rfl
theorem fs117 : fs 117 = some Tryz.f117 := by kernel_rfl
theorem fs118 : fs 118 = some Tryz.f118 := by kernel_rfl
theorem fs119 : fs 119 = some Tryz.f119 := by kernel_rfl
theorem fs120 : fs 120 = some Tryz.f120 := by kernel_rfl
theorem fs121 : fs 121 = some Tryz.f121 := by kernel_rfl
theorem fs123 : fs 123 = some Tryz.f123 := by kernel_rfl
theorem fs125 : fs 125 = some Tryz.f125 := by kernel_rfl
theorem fs126 : fs 126 = some Tryz.f126 := by kernel_rfl
theorem fs127 : fs 127 = some Tryz.f127 := by kernel_rfl
theorem fs128 : fs 128 = some Tryz.f128 := by kernel_rfl
theorem fs129 : fs 129 = some Tryz.f129 := by kernel_rfl
theorem fs130 : fs 130 = some Tryz.f130 := by kernel_rfl
theorem fs131 : fs 131 = some Tryz.f131 := by kernel_rfl
theorem fs132 : fs 132 = some Tryz.f132 := by kernel_rfl
theorem fs133 : fs 133 = some Tryz.f133 := by kernel_rfl
theorem fs134 : fs 134 = some Tryz.f134 := by kernel_rfl
theorem fs135 : fs 135 = some Tryz.f135 := by kernel_rfl
theorem fs145 : fs 145 = some Tryz.f145 := by kernel_rfl
theorem fs146 : fs 146 = some Tryz.f146 := by kernel_rfl
theorem fs147 : fs 147 = some Tryz.f147 := by kernel_rfl
theorem fs148 : fs 148 = some Tryz.f148 := by kernel_rfl
theorem fs149 : fs 149 = some Tryz.f149 := by kernel_rfl
theorem fs150 : fs 150 = some Tryz.f150 := by kernel_rfl
theorem fs151 : fs 151 = some Tryz.f151 := by kernel_rfl
theorem fs152 : fs 152 = some Tryz.f152 := by kernel_rfl
theorem fs153 : fs 153 = some Tryz.f153 := by kernel_rfl
theorem fs154 : fs 154 = some Tryz.f154 := by kernel_rfl
theorem fs155 : fs 155 = some Tryz.f155 := by kernel_rfl
theorem fs156 : fs 156 = some Tryz.f156 := by kernel_rfl
theorem fs157 : fs 157 = some Tryz.f157 := by kernel_rfl
theorem fs158 : fs 158 = some Tryz.f158 := by kernel_rfl
theorem fs159 : fs 159 = some Tryz.f159 := by kernel_rfl
theorem fs160 : fs 160 = some Tryz.f160 := by kernel_rfl
theorem fs161 : fs 161 = some Tryz.f161 := by kernel_rfl
theorem fs162 : fs 162 = some Tryz.f162 := by kernel_rfl
theorem fs163 : fs 163 = some Tryz.f163 := by kernel_rfl
theorem fs164 : fs 164 = some Tryz.f164 := by kernel_rfl
theorem fs165 : fs 165 = some Tryz.f165 := by kernel_rfl
theorem fs168 : fs 168 = some Tryz.f168 := by kernel_rfl
theorem fs169 : fs 169 = some Tryz.f169 := by kernel_rfl
theorem fs170 : fs 170 = some Tryz.f170 := by kernel_rfl
theorem fs171 : fs 171 = some Tryz.f171 := by kernel_rfl
theorem fs172 : fs 172 = some Tryz.f172 := by kernel_rfl
theorem fs173 : fs 173 = some Tryz.f173 := by kernel_rfl
theorem fs176 : fs 176 = some Tryz.f176 := by kernel_rfl
theorem fs177 : fs 177 = some Tryz.f177 := by kernel_rfl
theorem fs178 : fs 178 = some Tryz.f178 := by kernel_rfl
theorem fs179 : fs 179 = some Tryz.f179 := by kernel_rfl
theorem fs180 : fs 180 = some Tryz.f180 := by kernel_rfl
theorem fs181 : fs 181 = some Tryz.f181 := by kernel_rfl
theorem fs182 : fs 182 = some Tryz.f182 := by kernel_rfl
theorem fs183 : fs 183 = some Tryz.f183 := by kernel_rfl
theorem fs184 : fs 184 = some Tryz.f184 := by kernel_rfl
theorem fs185 : fs 185 = some Tryz.f185 := by kernel_rfl
theorem fs186 : fs 186 = some Tryz.f186 := by kernel_rfl
theorem fs187 : fs 187 = some Tryz.f187 := by kernel_rfl
theorem fs188 : fs 188 = some Tryz.f188 := by kernel_rfl
theorem fs189 : fs 189 = some Tryz.f189 := by kernel_rfl
theorem fs190 : fs 190 = some Tryz.f190 := by kernel_rfl
theorem fs191 : fs 191 = some Tryz.f191 := by kernel_rfl
theorem fs192 : fs 192 = some Tryz.f192 := by kernel_rfl
theorem fs193 : fs 193 = some Tryz.f193 := by kernel_rfl
theorem fs194 : fs 194 = some Tryz.f194 := by kernel_rfl
theorem fs195 : fs 195 = some Tryz.f195 := by kernel_rfl
theorem fs196 : fs 196 = some Tryz.f196 := by kernel_rfl
theorem fs197 : fs 197 = some Tryz.f197 := by kernel_rfl
theorem fs198 : fs 198 = some Tryz.f198 := by kernel_rfl
theorem fs199 : fs 199 = some Tryz.f199 := by kernel_rfl
theorem fs200 : fs 200 = some Tryz.f200 := by kernel_rfl
theorem fs201 : fs 201 = some Tryz.f201 := by kernel_rfl
theorem fs202 : fs 202 = some Tryz.f202 := by kernel_rfl
theorem fs204 : fs 204 = some Tryz.f204 := by kernel_rfl
theorem fs205 : fs 205 = some Tryz.f205 := by kernel_rfl
theorem fs206 : fs 206 = some Tryz.f206 := by kernel_rfl
theorem fs209 : fs 209 = some Tryz.f209 := by kernel_rfl
theorem fs210 : fs 210 = some Tryz.f210 := by kernel_rfl
theorem fs211 : fs 211 = some Tryz.f211 := by kernel_rfl
theorem fs212 : fs 212 = some Tryz.f212 := by kernel_rfl
theorem fs213 : fs 213 = some Tryz.f213 := by kernel_rfl
theorem fs214 : fs 214 = some Tryz.f214 := by kernel_rfl
theorem fs215 : fs 215 = some Tryz.f215 := by kernel_rfl
theorem fs216 : fs 216 = some Tryz.f216 := by kernel_rfl
theorem fs217 : fs 217 = some Tryz.f217 := by kernel_rfl
theorem fs218 : fs 218 = some Tryz.f218 := by kernel_rfl
theorem fs219 : fs 219 = some Tryz.f219 := by kernel_rfl
theorem fs220 : fs 220 = some Tryz.f220 := by kernel_rfl
theorem fs221 : fs 221 = some Tryz.f221 := by kernel_rfl
theorem fs222 : fs 222 = some Tryz.f222 := by kernel_rfl
theorem fs223 : fs 223 = some Tryz.f223 := by kernel_rfl
theorem fs224 : fs 224 = some Tryz.f224 := by kernel_rfl
theorem fs225 : fs 225 = some Tryz.f225 := by kernel_rfl
theorem fs226 : fs 226 = some Tryz.f226 := by kernel_rfl
theorem fs227 : fs 227 = some Tryz.f227 := by kernel_rfl
theorem fs228 : fs 228 = some Tryz.f228 := by kernel_rfl
theorem fs229 : fs 229 = some Tryz.f229 := by kernel_rfl
theorem fs230 : fs 230 = some Tryz.f230 := by kernel_rfl
theorem fs231 : fs 231 = some Tryz.f231 := by kernel_rfl
theorem fs236 : fs 236 = some Tryz.f236 := by kernel_rfl
theorem fs237 : fs 237 = some Tryz.f237 := by kernel_rfl
theorem fs238 : fs 238 = some Tryz.f238 := by kernel_rfl
theorem fs239 : fs 239 = some Tryz.f239 := by kernel_rfl
theorem fs240 : fs 240 = some Tryz.f240 := by kernel_rfl
theorem fs241 : fs 241 = some Tryz.f241 := by kernel_rfl
theorem fs242 : fs 242 = some Tryz.f242 := by kernel_rfl
def c_laws_FnExactJudgeWatcher (call : E.Call) : (TMatch × Int) -> Option Bool := call 5
theorem u_laws_FnExactJudgeWatcher (k : Nat) (x) : c_laws_FnExactJudgeWatcher (C (k + 1)) x = laws_FnExactJudgeWatcher (C k) x := u_of fs5 e_laws_FnExactJudgeWatcher k x
theorem u_laws_szLevel (k : Nat) (x) : c_laws_szLevel (C (k + 1)) x = laws_szLevel (C k) x := u_of fs8 e_laws_szLevel k x
theorem u_laws_szIntSS (k : Nat) (x) : c_laws_szIntSS (C (k + 1)) x = laws_szIntSS (C k) x := u_of fs9 e_laws_szIntSS k x
theorem u_laws_szWire (k : Nat) (x) : c_laws_szWire (C (k + 1)) x = laws_szWire (C k) x := u_of fs11 e_laws_szWire k x
theorem u_laws_toLevel (k : Nat) (x) : c_laws_toLevel (C (k + 1)) x = laws_toLevel (C k) x := u_of fs13 e_laws_toLevel k x
theorem u_laws_toIntSS (k : Nat) (x) : c_laws_toIntSS (C (k + 1)) x = laws_toIntSS (C k) x := u_of fs14 e_laws_toIntSS k x
theorem u_laws_toWire (k : Nat) (x) : c_laws_toWire (C (k + 1)) x = laws_toWire (C k) x := u_of fs16 e_laws_toWire k x
theorem u_laws_eqMatch (k : Nat) (x) : c_laws_eqMatch (C (k + 1)) x = laws_eqMatch (C k) x := u_of fs18 e_laws_eqMatch k x
theorem u_laws_eqLevel (k : Nat) (x) : c_laws_eqLevel (C (k + 1)) x = laws_eqLevel (C k) x := u_of fs19 e_laws_eqLevel k x
theorem u_laws_eqIntSS (k : Nat) (x) : c_laws_eqIntSS (C (k + 1)) x = laws_eqIntSS (C k) x := u_of fs20 e_laws_eqIntSS k x
theorem u_laws_eqWire (k : Nat) (x) : c_laws_eqWire (C (k + 1)) x = laws_eqWire (C k) x := u_of fs22 e_laws_eqWire k x
theorem u_laws_szMatch (k : Nat) (x) : c_laws_szMatch (C (k + 1)) x = laws_szMatch (C k) x := u_of fs29 e_laws_szMatch k x
theorem u_laws_toMatch (k : Nat) (x) : c_laws_toMatch (C (k + 1)) x = laws_toMatch (C k) x := u_of fs31 e_laws_toMatch k x
theorem u_spec_JudgeWatcher (k : Nat) (x) : c_spec_JudgeWatcher (C (k + 1)) x = spec_JudgeWatcher (C k) x := u_of fs33 e_spec_JudgeWatcher k x
theorem u_impl_JudgeWatcher (k : Nat) (x) : c_impl_JudgeWatcher (C (k + 1)) x = impl_JudgeWatcher (C k) x := u_of fs34 e_impl_JudgeWatcher k x
theorem u_spec_LockstepAt (k : Nat) (x) : c_spec_LockstepAt (C (k + 1)) x = spec_LockstepAt (C k) x := u_of fs37 e_spec_LockstepAt k x
theorem u_laws_toFault (k : Nat) (x) : c_laws_toFault (C (k + 1)) x = laws_toFault (C k) x := u_of fs38 e_laws_toFault k x
theorem u_impl_LockstepAt (k : Nat) (x) : c_impl_LockstepAt (C (k + 1)) x = impl_LockstepAt (C k) x := u_of fs39 e_impl_LockstepAt k x
theorem u_laws_eqWorld (k : Nat) (x) : c_laws_eqWorld (C (k + 1)) x = laws_eqWorld (C k) x := u_of fs40 e_laws_eqWorld k x
theorem u_laws_szStringS (k : Nat) (x) : c_laws_szStringS (C (k + 1)) x = laws_szStringS (C k) x := u_of fs43 e_laws_szStringS k x
theorem u_laws_szIntS (k : Nat) (x) : c_laws_szIntS (C (k + 1)) x = laws_szIntS (C k) x := u_of fs44 e_laws_szIntS k x
theorem u_laws_szFlightS (k : Nat) (x) : c_laws_szFlightS (C (k + 1)) x = laws_szFlightS (C k) x := u_of fs45 e_laws_szFlightS k x
theorem u_spec_l02CopyLevel (k : Nat) (x) : c_spec_l02CopyLevel (C (k + 1)) x = spec_l02CopyLevel (C k) x := u_of fs46 e_spec_l02CopyLevel k x
theorem u_spec_WireOk (k : Nat) (x) : c_spec_WireOk (C (k + 1)) x = spec_WireOk (C k) x := u_of fs47 e_spec_WireOk k x
theorem u_spec_MatchOk (k : Nat) (x) : c_spec_MatchOk (C (k + 1)) x = spec_MatchOk (C k) x := u_of fs50 e_spec_MatchOk k x
theorem u_laws_toStringS (k : Nat) (x) : c_laws_toStringS (C (k + 1)) x = laws_toStringS (C k) x := u_of fs51 e_laws_toStringS k x
theorem u_laws_toIntS (k : Nat) (x) : c_laws_toIntS (C (k + 1)) x = laws_toIntS (C k) x := u_of fs52 e_laws_toIntS k x
theorem u_laws_toFlightS (k : Nat) (x) : c_laws_toFlightS (C (k + 1)) x = laws_toFlightS (C k) x := u_of fs53 e_laws_toFlightS k x
theorem u_impl_WireOk (k : Nat) (x) : c_impl_WireOk (C (k + 1)) x = impl_WireOk (C k) x := u_of fs54 e_impl_WireOk k x
theorem u_impl_copyLevel (k : Nat) (x) : c_impl_copyLevel (C (k + 1)) x = impl_copyLevel (C k) x := u_of fs55 e_impl_copyLevel k x
theorem u_impl_MatchOk (k : Nat) (x) : c_impl_MatchOk (C (k + 1)) x = impl_MatchOk (C k) x := u_of fs58 e_impl_MatchOk k x
theorem u_laws_eqPeerS (k : Nat) (x) : c_laws_eqPeerS (C (k + 1)) x = laws_eqPeerS (C k) x := u_of fs59 e_laws_eqPeerS k x
theorem u_laws_eqWireSS (k : Nat) (x) : c_laws_eqWireSS (C (k + 1)) x = laws_eqWireSS (C k) x := u_of fs60 e_laws_eqWireSS k x
theorem u_laws_eqPaceSS (k : Nat) (x) : c_laws_eqPaceSS (C (k + 1)) x = laws_eqPaceSS (C k) x := u_of fs61 e_laws_eqPaceSS k x
theorem u_laws_eqSpectatorS (k : Nat) (x) : c_laws_eqSpectatorS (C (k + 1)) x = laws_eqSpectatorS (C k) x := u_of fs62 e_laws_eqSpectatorS k x
theorem u_laws_eqWireS (k : Nat) (x) : c_laws_eqWireS (C (k + 1)) x = laws_eqWireS (C k) x := u_of fs63 e_laws_eqWireS k x
theorem u_laws_eqAlarmS (k : Nat) (x) : c_laws_eqAlarmS (C (k + 1)) x = laws_eqAlarmS (C k) x := u_of fs64 e_laws_eqAlarmS k x
theorem u_laws_eqStringS (k : Nat) (x) : c_laws_eqStringS (C (k + 1)) x = laws_eqStringS (C k) x := u_of fs65 e_laws_eqStringS k x
theorem u_laws_eqIntS (k : Nat) (x) : c_laws_eqIntS (C (k + 1)) x = laws_eqIntS (C k) x := u_of fs66 e_laws_eqIntS k x
theorem u_laws_eqFault (k : Nat) (x) : c_laws_eqFault (C (k + 1)) x = laws_eqFault (C k) x := u_of fs67 e_laws_eqFault k x
theorem u_laws_eqFlightS (k : Nat) (x) : c_laws_eqFlightS (C (k + 1)) x = laws_eqFlightS (C k) x := u_of fs68 e_laws_eqFlightS k x
theorem u_laws_szPeerS (k : Nat) (x) : c_laws_szPeerS (C (k + 1)) x = laws_szPeerS (C k) x := u_of fs86 e_laws_szPeerS k x
theorem u_laws_szWireSS (k : Nat) (x) : c_laws_szWireSS (C (k + 1)) x = laws_szWireSS (C k) x := u_of fs87 e_laws_szWireSS k x
theorem u_laws_szPaceSS (k : Nat) (x) : c_laws_szPaceSS (C (k + 1)) x = laws_szPaceSS (C k) x := u_of fs88 e_laws_szPaceSS k x
theorem u_laws_szSpectatorS (k : Nat) (x) : c_laws_szSpectatorS (C (k + 1)) x = laws_szSpectatorS (C k) x := u_of fs89 e_laws_szSpectatorS k x
theorem u_laws_szWireS (k : Nat) (x) : c_laws_szWireS (C (k + 1)) x = laws_szWireS (C k) x := u_of fs90 e_laws_szWireS k x
theorem u_laws_szAlarmS (k : Nat) (x) : c_laws_szAlarmS (C (k + 1)) x = laws_szAlarmS (C k) x := u_of fs91 e_laws_szAlarmS k x
theorem u_spec_l01In (k : Nat) (x) : c_spec_l01In (C (k + 1)) x = spec_l01In (C k) x := u_of fs92 e_spec_l01In k x
theorem u_spec_SameWorld (k : Nat) (x) : c_spec_SameWorld (C (k + 1)) x = spec_SameWorld (C k) x := u_of fs93 e_spec_SameWorld k x
theorem u_laws_toPeerS (k : Nat) (x) : c_laws_toPeerS (C (k + 1)) x = laws_toPeerS (C k) x := u_of fs94 e_laws_toPeerS k x
theorem u_laws_toWireSS (k : Nat) (x) : c_laws_toWireSS (C (k + 1)) x = laws_toWireSS (C k) x := u_of fs95 e_laws_toWireSS k x
theorem u_laws_toPaceSS (k : Nat) (x) : c_laws_toPaceSS (C (k + 1)) x = laws_toPaceSS (C k) x := u_of fs96 e_laws_toPaceSS k x
theorem u_laws_toSpectatorS (k : Nat) (x) : c_laws_toSpectatorS (C (k + 1)) x = laws_toSpectatorS (C k) x := u_of fs97 e_laws_toSpectatorS k x
theorem u_laws_toWireS (k : Nat) (x) : c_laws_toWireS (C (k + 1)) x = laws_toWireS (C k) x := u_of fs98 e_laws_toWireS k x
theorem u_laws_toAlarmS (k : Nat) (x) : c_laws_toAlarmS (C (k + 1)) x = laws_toAlarmS (C k) x := u_of fs99 e_laws_toAlarmS k x
theorem u_impl_SameWorld (k : Nat) (x) : c_impl_SameWorld (C (k + 1)) x = impl_SameWorld (C k) x := u_of fs100 e_impl_SameWorld k x
theorem u_spec_NewWorld (k : Nat) (x) : c_spec_NewWorld (C (k + 1)) x = spec_NewWorld (C k) x := u_of fs101 e_spec_NewWorld k x
theorem u_spec_ScriptRows (k : Nat) (x) : c_spec_ScriptRows (C (k + 1)) x = spec_ScriptRows (C k) x := u_of fs102 e_spec_ScriptRows k x
theorem u_spec_FaultyStep (k : Nat) (x) : c_spec_FaultyStep (C (k + 1)) x = spec_FaultyStep (C k) x := u_of fs103 e_spec_FaultyStep k x
theorem u_impl_between (k : Nat) (x) : c_impl_between (C (k + 1)) x = impl_between (C k) x := u_of fs104 e_impl_between k x
theorem u_impl_NewWorld (k : Nat) (x) : c_impl_NewWorld (C (k + 1)) x = impl_NewWorld (C k) x := u_of fs105 e_impl_NewWorld k x
theorem u_impl_ScriptRows (k : Nat) (x) : c_impl_ScriptRows (C (k + 1)) x = impl_ScriptRows (C k) x := u_of fs106 e_impl_ScriptRows k x
theorem u_impl_FaultyStep (k : Nat) (x) : c_impl_FaultyStep (C (k + 1)) x = impl_FaultyStep (C k) x := u_of fs107 e_impl_FaultyStep k x
theorem u_laws_eqBodyS (k : Nat) (x) : c_laws_eqBodyS (C (k + 1)) x = laws_eqBodyS (C k) x := u_of fs108 e_laws_eqBodyS k x
theorem u_laws_szFlight (k : Nat) (x) : c_laws_szFlight (C (k + 1)) x = laws_szFlight (C k) x := u_of fs112 e_laws_szFlight k x
theorem u_spec_l02Copy (k : Nat) (x) : c_spec_l02Copy (C (k + 1)) x = spec_l02Copy (C k) x := u_of fs113 e_spec_l02Copy k x
theorem u_spec_PeerOk (k : Nat) (x) : c_spec_PeerOk (C (k + 1)) x = spec_PeerOk (C k) x := u_of fs115 e_spec_PeerOk k x
theorem u_spec_LevelOk (k : Nat) (x) : c_spec_LevelOk (C (k + 1)) x = spec_LevelOk (C k) x := u_of fs116 e_spec_LevelOk k x
theorem u_spec_ScriptInput (k : Nat) (x) : c_spec_ScriptInput (C (k + 1)) x = spec_ScriptInput (C k) x := u_of fs117 e_spec_ScriptInput k x
theorem u_spec_l02SameLevel (k : Nat) (x) : c_spec_l02SameLevel (C (k + 1)) x = spec_l02SameLevel (C k) x := u_of fs118 e_spec_l02SameLevel k x
theorem u_spec_WorldOk (k : Nat) (x) : c_spec_WorldOk (C (k + 1)) x = spec_WorldOk (C k) x := u_of fs119 e_spec_WorldOk k x
theorem u_spec_l08Square (k : Nat) (x) : c_spec_l08Square (C (k + 1)) x = spec_l08Square (C k) x := u_of fs120 e_spec_l08Square k x
theorem u_laws_toFlight (k : Nat) (x) : c_laws_toFlight (C (k + 1)) x = laws_toFlight (C k) x := u_of fs121 e_laws_toFlight k x
theorem u_impl_copyWorld (k : Nat) (x) : c_impl_copyWorld (C (k + 1)) x = impl_copyWorld (C k) x := u_of fs123 e_impl_copyWorld k x
theorem u_impl_PeerOk (k : Nat) (x) : c_impl_PeerOk (C (k + 1)) x = impl_PeerOk (C k) x := u_of fs125 e_impl_PeerOk k x
theorem u_impl_LevelOk (k : Nat) (x) : c_impl_LevelOk (C (k + 1)) x = impl_LevelOk (C k) x := u_of fs126 e_impl_LevelOk k x
theorem u_impl_scriptOk (k : Nat) (x) : c_impl_scriptOk (C (k + 1)) x = impl_scriptOk (C k) x := u_of fs127 e_impl_scriptOk k x
theorem u_impl_peersOk (k : Nat) (x) : c_impl_peersOk (C (k + 1)) x = impl_peersOk (C k) x := u_of fs128 e_impl_peersOk k x
theorem u_impl_linksOk (k : Nat) (x) : c_impl_linksOk (C (k + 1)) x = impl_linksOk (C k) x := u_of fs129 e_impl_linksOk k x
theorem u_impl_watchersOk (k : Nat) (x) : c_impl_watchersOk (C (k + 1)) x = impl_watchersOk (C k) x := u_of fs130 e_impl_watchersOk k x
theorem u_laws_eqPeer (k : Nat) (x) : c_laws_eqPeer (C (k + 1)) x = laws_eqPeer (C k) x := u_of fs131 e_laws_eqPeer k x
theorem u_laws_eqPaceS (k : Nat) (x) : c_laws_eqPaceS (C (k + 1)) x = laws_eqPaceS (C k) x := u_of fs132 e_laws_eqPaceS k x
theorem u_laws_eqSpectator (k : Nat) (x) : c_laws_eqSpectator (C (k + 1)) x = laws_eqSpectator (C k) x := u_of fs133 e_laws_eqSpectator k x
theorem u_laws_eqAlarm (k : Nat) (x) : c_laws_eqAlarm (C (k + 1)) x = laws_eqAlarm (C k) x := u_of fs134 e_laws_eqAlarm k x
theorem u_laws_eqFlight (k : Nat) (x) : c_laws_eqFlight (C (k + 1)) x = laws_eqFlight (C k) x := u_of fs135 e_laws_eqFlight k x
theorem u_laws_szPeer (k : Nat) (x) : c_laws_szPeer (C (k + 1)) x = laws_szPeer (C k) x := u_of fs145 e_laws_szPeer k x
theorem u_laws_szPaceS (k : Nat) (x) : c_laws_szPaceS (C (k + 1)) x = laws_szPaceS (C k) x := u_of fs146 e_laws_szPaceS k x
theorem u_laws_szSpectator (k : Nat) (x) : c_laws_szSpectator (C (k + 1)) x = laws_szSpectator (C k) x := u_of fs147 e_laws_szSpectator k x
theorem u_laws_szAlarm (k : Nat) (x) : c_laws_szAlarm (C (k + 1)) x = laws_szAlarm (C k) x := u_of fs148 e_laws_szAlarm k x
theorem u_spec_l02Ints (k : Nat) (x) : c_spec_l02Ints (C (k + 1)) x = spec_l02Ints (C k) x := u_of fs149 e_spec_l02Ints k x
theorem u_laws_toPeer (k : Nat) (x) : c_laws_toPeer (C (k + 1)) x = laws_toPeer (C k) x := u_of fs150 e_laws_toPeer k x
theorem u_laws_toPaceS (k : Nat) (x) : c_laws_toPaceS (C (k + 1)) x = laws_toPaceS (C k) x := u_of fs151 e_laws_toPaceS k x
theorem u_laws_toSpectator (k : Nat) (x) : c_laws_toSpectator (C (k + 1)) x = laws_toSpectator (C k) x := u_of fs152 e_laws_toSpectator k x
theorem u_laws_toAlarm (k : Nat) (x) : c_laws_toAlarm (C (k + 1)) x = laws_toAlarm (C k) x := u_of fs153 e_laws_toAlarm k x
theorem u_impl_sameLevel (k : Nat) (x) : c_impl_sameLevel (C (k + 1)) x = impl_sameLevel (C k) x := u_of fs154 e_impl_sameLevel k x
theorem u_slices_Equal_int_int (k : Nat) (x) : c_slices_Equal_int_int (C (k + 1)) x = slices_Equal_int_int (C k) x := u_of fs155 e_slices_Equal_int_int k x
theorem u_slices_Equal_impl_Body_impl_Body (k : Nat) (x) : c_slices_Equal_impl_Body_impl_Body (C (k + 1)) x = slices_Equal_impl_Body_impl_Body (C k) x := u_of fs156 e_slices_Equal_impl_Body_impl_Body k x
theorem u_spec_l02Fresh (k : Nat) (x) : c_spec_l02Fresh (C (k + 1)) x = spec_l02Fresh (C k) x := u_of fs157 e_spec_l02Fresh k x
theorem u_spec_StepWorld (k : Nat) (x) : c_spec_StepWorld (C (k + 1)) x = spec_StepWorld (C k) x := u_of fs158 e_spec_StepWorld k x
theorem u_spec_FaultOk (k : Nat) (x) : c_spec_FaultOk (C (k + 1)) x = spec_FaultOk (C k) x := u_of fs159 e_spec_FaultOk k x
theorem u_impl_freshPlayer (k : Nat) (x) : c_impl_freshPlayer (C (k + 1)) x = impl_freshPlayer (C k) x := u_of fs160 e_impl_freshPlayer k x
theorem u_impl_WorldOk (k : Nat) (x) : c_impl_WorldOk (C (k + 1)) x = impl_WorldOk (C k) x := u_of fs161 e_impl_WorldOk k x
theorem u_impl_ScriptInput (k : Nat) (x) : c_impl_ScriptInput (C (k + 1)) x = impl_ScriptInput (C k) x := u_of fs162 e_impl_ScriptInput k x
theorem u_impl_StepWorld (k : Nat) (x) : c_impl_StepWorld (C (k + 1)) x = impl_StepWorld (C k) x := u_of fs163 e_impl_StepWorld k x
theorem u_impl_FaultOk (k : Nat) (x) : c_impl_FaultOk (C (k + 1)) x = impl_FaultOk (C k) x := u_of fs164 e_impl_FaultOk k x
theorem u_laws_eqBody (k : Nat) (x) : c_laws_eqBody (C (k + 1)) x = laws_eqBody (C k) x := u_of fs165 e_laws_eqBody k x
theorem u_spec_TracksOk (k : Nat) (x) : c_spec_TracksOk (C (k + 1)) x = spec_TracksOk (C k) x := u_of fs168 e_spec_TracksOk k x
theorem u_spec_l02RowOk (k : Nat) (x) : c_spec_l02RowOk (C (k + 1)) x = spec_l02RowOk (C k) x := u_of fs169 e_spec_l02RowOk k x
theorem u_spec_KnownTicks (k : Nat) (x) : c_spec_KnownTicks (C (k + 1)) x = spec_KnownTicks (C k) x := u_of fs170 e_spec_KnownTicks k x
theorem u_spec_l03Inputs (k : Nat) (x) : c_spec_l03Inputs (C (k + 1)) x = spec_l03Inputs (C k) x := u_of fs171 e_spec_l03Inputs k x
theorem u_spec_l02Body (k : Nat) (x) : c_spec_l02Body (C (k + 1)) x = spec_l02Body (C k) x := u_of fs172 e_spec_l02Body k x
theorem u_spec_PaceOk (k : Nat) (x) : c_spec_PaceOk (C (k + 1)) x = spec_PaceOk (C k) x := u_of fs173 e_spec_PaceOk k x
theorem u_impl_TracksOk (k : Nat) (x) : c_impl_TracksOk (C (k + 1)) x = impl_TracksOk (C k) x := u_of fs176 e_impl_TracksOk k x
theorem u_impl_rowOk (k : Nat) (x) : c_impl_rowOk (C (k + 1)) x = impl_rowOk (C k) x := u_of fs177 e_impl_rowOk k x
theorem u_impl_KnownTicks (k : Nat) (x) : c_impl_KnownTicks (C (k + 1)) x = impl_KnownTicks (C k) x := u_of fs178 e_impl_KnownTicks k x
theorem u_impl_inputsOk (k : Nat) (x) : c_impl_inputsOk (C (k + 1)) x = impl_inputsOk (C k) x := u_of fs179 e_impl_inputsOk k x
theorem u_impl_PaceOk (k : Nat) (x) : c_impl_PaceOk (C (k + 1)) x = impl_PaceOk (C k) x := u_of fs180 e_impl_PaceOk k x
theorem u_laws_eqTrackS (k : Nat) (x) : c_laws_eqTrackS (C (k + 1)) x = laws_eqTrackS (C k) x := u_of fs181 e_laws_eqTrackS k x
theorem u_laws_eqSaveS (k : Nat) (x) : c_laws_eqSaveS (C (k + 1)) x = laws_eqSaveS (C k) x := u_of fs182 e_laws_eqSaveS k x
theorem u_laws_eqPace (k : Nat) (x) : c_laws_eqPace (C (k + 1)) x = laws_eqPace (C k) x := u_of fs183 e_laws_eqPace k x
theorem u_laws_szTrackS (k : Nat) (x) : c_laws_szTrackS (C (k + 1)) x = laws_szTrackS (C k) x := u_of fs184 e_laws_szTrackS k x
theorem u_laws_szWorld (k : Nat) (x) : c_laws_szWorld (C (k + 1)) x = laws_szWorld (C k) x := u_of fs185 e_laws_szWorld k x
theorem u_laws_szSaveS (k : Nat) (x) : c_laws_szSaveS (C (k + 1)) x = laws_szSaveS (C k) x := u_of fs186 e_laws_szSaveS k x
theorem u_laws_toTrackS (k : Nat) (x) : c_laws_toTrackS (C (k + 1)) x = laws_toTrackS (C k) x := u_of fs187 e_laws_toTrackS k x
theorem u_laws_toWorld (k : Nat) (x) : c_laws_toWorld (C (k + 1)) x = laws_toWorld (C k) x := u_of fs188 e_laws_toWorld k x
theorem u_laws_toSaveS (k : Nat) (x) : c_laws_toSaveS (C (k + 1)) x = laws_toSaveS (C k) x := u_of fs189 e_laws_toSaveS k x
theorem u_laws_toPace (k : Nat) (x) : c_laws_toPace (C (k + 1)) x = laws_toPace (C k) x := u_of fs190 e_laws_toPace k x
theorem u_slices_Equal_string_string (k : Nat) (x) : c_slices_Equal_string_string (C (k + 1)) x = slices_Equal_string_string (C k) x := u_of fs191 e_slices_Equal_string_string k x
theorem u_spec_StartOf (k : Nat) (x) : c_spec_StartOf (C (k + 1)) x = spec_StartOf (C k) x := u_of fs192 e_spec_StartOf k x
theorem u_spec_l02Step (k : Nat) (x) : c_spec_l02Step (C (k + 1)) x = spec_l02Step (C k) x := u_of fs193 e_spec_l02Step k x
theorem u_impl_StartOf (k : Nat) (x) : c_impl_StartOf (C (k + 1)) x = impl_StartOf (C k) x := u_of fs194 e_impl_StartOf k x
theorem u_impl_BodyOk (k : Nat) (x) : c_impl_BodyOk (C (k + 1)) x = impl_BodyOk (C k) x := u_of fs195 e_impl_BodyOk k x
theorem u_impl_stepPlayers (k : Nat) (x) : c_impl_stepPlayers (C (k + 1)) x = impl_stepPlayers (C k) x := u_of fs196 e_impl_stepPlayers k x
theorem u_impl_stepMoves (k : Nat) (x) : c_impl_stepMoves (C (k + 1)) x = impl_stepMoves (C k) x := u_of fs197 e_impl_stepMoves k x
theorem u_impl_stepShots (k : Nat) (x) : c_impl_stepShots (C (k + 1)) x = impl_stepShots (C k) x := u_of fs198 e_impl_stepShots k x
theorem u_impl_stepItems (k : Nat) (x) : c_impl_stepItems (C (k + 1)) x = impl_stepItems (C k) x := u_of fs199 e_impl_stepItems k x
theorem u_impl_NextRandom (k : Nat) (x) : c_impl_NextRandom (C (k + 1)) x = impl_NextRandom (C k) x := u_of fs200 e_impl_NextRandom k x
theorem u_impl_SpotsOf (k : Nat) (x) : c_impl_SpotsOf (C (k + 1)) x = impl_SpotsOf (C k) x := u_of fs201 e_impl_SpotsOf k x
theorem u_impl_RandomBelow (k : Nat) (x) : c_impl_RandomBelow (C (k + 1)) x = impl_RandomBelow (C k) x := u_of fs202 e_impl_RandomBelow k x
theorem u_spec_TrackOk (k : Nat) (x) : c_spec_TrackOk (C (k + 1)) x = spec_TrackOk (C k) x := u_of fs204 e_spec_TrackOk k x
theorem u_spec_l02Solid (k : Nat) (x) : c_spec_l02Solid (C (k + 1)) x = spec_l02Solid (C k) x := u_of fs205 e_spec_l02Solid k x
theorem u_spec_SizeOf (k : Nat) (x) : c_spec_SizeOf (C (k + 1)) x = spec_SizeOf (C k) x := u_of fs206 e_spec_SizeOf k x
theorem u_impl_TrackOk (k : Nat) (x) : c_impl_TrackOk (C (k + 1)) x = impl_TrackOk (C k) x := u_of fs209 e_impl_TrackOk k x
theorem u_laws_eqTrack (k : Nat) (x) : c_laws_eqTrack (C (k + 1)) x = laws_eqTrack (C k) x := u_of fs210 e_laws_eqTrack k x
theorem u_laws_eqSave (k : Nat) (x) : c_laws_eqSave (C (k + 1)) x = laws_eqSave (C k) x := u_of fs211 e_laws_eqSave k x
theorem u_laws_szTrack (k : Nat) (x) : c_laws_szTrack (C (k + 1)) x = laws_szTrack (C k) x := u_of fs212 e_laws_szTrack k x
theorem u_laws_szBodyS (k : Nat) (x) : c_laws_szBodyS (C (k + 1)) x = laws_szBodyS (C k) x := u_of fs213 e_laws_szBodyS k x
theorem u_laws_szSave (k : Nat) (x) : c_laws_szSave (C (k + 1)) x = laws_szSave (C k) x := u_of fs214 e_laws_szSave k x
theorem u_laws_toTrack (k : Nat) (x) : c_laws_toTrack (C (k + 1)) x = laws_toTrack (C k) x := u_of fs215 e_laws_toTrack k x
theorem u_laws_toBodyS (k : Nat) (x) : c_laws_toBodyS (C (k + 1)) x = laws_toBodyS (C k) x := u_of fs216 e_laws_toBodyS k x
theorem u_laws_toSave (k : Nat) (x) : c_laws_toSave (C (k + 1)) x = laws_toSave (C k) x := u_of fs217 e_laws_toSave k x
theorem u_spec_l02Steer (k : Nat) (x) : c_spec_l02Steer (C (k + 1)) x = spec_l02Steer (C k) x := u_of fs218 e_spec_l02Steer k x
theorem u_spec_ShotOf (k : Nat) (x) : c_spec_ShotOf (C (k + 1)) x = spec_ShotOf (C k) x := u_of fs219 e_spec_ShotOf k x
theorem u_spec_l02Move (k : Nat) (x) : c_spec_l02Move (C (k + 1)) x = spec_l02Move (C k) x := u_of fs220 e_spec_l02Move k x
theorem u_spec_l02Hits (k : Nat) (x) : c_spec_l02Hits (C (k + 1)) x = spec_l02Hits (C k) x := u_of fs221 e_spec_l02Hits k x
theorem u_spec_NextRandom (k : Nat) (x) : c_spec_NextRandom (C (k + 1)) x = spec_NextRandom (C k) x := u_of fs222 e_spec_NextRandom k x
theorem u_spec_SpotsOf (k : Nat) (x) : c_spec_SpotsOf (C (k + 1)) x = spec_SpotsOf (C k) x := u_of fs223 e_spec_SpotsOf k x
theorem u_spec_RandomBelow (k : Nat) (x) : c_spec_RandomBelow (C (k + 1)) x = spec_RandomBelow (C k) x := u_of fs224 e_spec_RandomBelow k x
theorem u_impl_SolidAt (k : Nat) (x) : c_impl_SolidAt (C (k + 1)) x = impl_SolidAt (C k) x := u_of fs225 e_impl_SolidAt k x
theorem u_impl_SizeOf (k : Nat) (x) : c_impl_SizeOf (C (k + 1)) x = impl_SizeOf (C k) x := u_of fs226 e_impl_SizeOf k x
theorem u_impl_SteerPlayer (k : Nat) (x) : c_impl_SteerPlayer (C (k + 1)) x = impl_SteerPlayer (C k) x := u_of fs227 e_impl_SteerPlayer k x
theorem u_impl_ShotOf (k : Nat) (x) : c_impl_ShotOf (C (k + 1)) x = impl_ShotOf (C k) x := u_of fs228 e_impl_ShotOf k x
theorem u_impl_MoveBody (k : Nat) (x) : c_impl_MoveBody (C (k + 1)) x = impl_MoveBody (C k) x := u_of fs229 e_impl_MoveBody k x
theorem u_impl_playerMet (k : Nat) (x) : c_impl_playerMet (C (k + 1)) x = impl_playerMet (C k) x := u_of fs230 e_impl_playerMet k x
theorem u_impl_addScore (k : Nat) (x) : c_impl_addScore (C (k + 1)) x = impl_addScore (C k) x := u_of fs231 e_impl_addScore k x
theorem u_laws_toBody (k : Nat) (x) : c_laws_toBody (C (k + 1)) x = laws_toBody (C k) x := u_of fs236 e_laws_toBody k x
theorem u_spec_l02Meets (k : Nat) (x) : c_spec_l02Meets (C (k + 1)) x = spec_l02Meets (C k) x := u_of fs237 e_spec_l02Meets k x
theorem u_spec_l02Point (k : Nat) (x) : c_spec_l02Point (C (k + 1)) x = spec_l02Point (C k) x := u_of fs238 e_spec_l02Point k x
theorem u_impl_solid (k : Nat) (x) : c_impl_solid (C (k + 1)) x = impl_solid (C k) x := u_of fs239 e_impl_solid k x
theorem u_impl_direction (k : Nat) (x) : c_impl_direction (C (k + 1)) x = impl_direction (C k) x := u_of fs240 e_impl_direction k x
theorem u_impl_BodiesMeet (k : Nat) (x) : c_impl_BodiesMeet (C (k + 1)) x = impl_BodiesMeet (C k) x := u_of fs241 e_impl_BodiesMeet k x
theorem u_spec_BodiesMeet (k : Nat) (x) : c_spec_BodiesMeet (C (k + 1)) x = spec_BodiesMeet (C k) x := u_of fs242 e_spec_BodiesMeet k x
end Go.Proofs.YtaflceohlijekaaGreat.Ev
